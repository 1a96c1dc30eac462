/- ScanApart's plain law. -/
import Derived.Test.YtcmbpboeilojmaaFxf5
import Derived.Test.YtcmbpboeilojmaaPm
namespace Go.Proofs.Ytcmbpboeilojmaa.Sw
open Go Go.RowKit Go.Proofs.YtcmbpboeilojmaaW.PrintWords Go.Proofs.YtcmbpboeilojmaaW.PrintLast Go.Proofs.YtcmbpboeilojmaaW.PrintMore Go.Proofs.Ytcmbpboeilojmaa.Mi Go.Proofs.Ytcmbpboeilojmaa.F Go.Proofs.Ytcmbpboeilojmaa.Scan
set_option linter.unusedVariables false
set_option linter.unusedSimpArgs false
def liveR (l : List S40) (c : Int) (j : Nat) : Nat := (List.range j).countP (fun q => decide ((sp l q).f1 ≤ c ∧ c ≤ (sp l q).f2))
theorem liveR_succ (l : List S40) (c : Int) (j : Nat) : liveR l c (j + 1) = liveR l c j + if (sp l j).f1 ≤ c ∧ c ≤ (sp l j).f2 then 1 else 0 := by
  unfold liveR
  rw [List.range_succ, List.countP_append, List.countP_singleton]
  congr 1
  by_cases e : (sp l j).f1 ≤ c ∧ c ≤ (sp l j).f2
  · rw [if_pos e, if_pos (by simpa using e)]
  · rw [if_neg e, if_neg (by simpa using e)]
theorem liveR_le (l : List S40) (c : Int) (j : Nat) : liveR l c j ≤ j := by
  have := List.countP_le_length (p := fun q => decide ((sp l q).f1 ≤ c ∧ c ≤ (sp l q).f2)) (l := List.range j)
  rwa [List.length_range] at this
theorem live_range (l : List S40) (c : Int) : live l c = liveR l c l.length := by
  unfold live liveR
  have : l = (List.range l.length).map (sp l) := by
    apply List.ext_getElem
    · simp
    · intro i h1 h2
      rw [List.getElem_map, List.getElem_range, sp_lt h1]
  conv => lhs; rw [this]
  rw [List.countP_map]; rfl
section
variable {l : List S40} {a r : Int} {h : List S43} {n : Nat}
theorem home_bounds (F : Facts l r h n) (M : Made l a) (hr : r ≤ 64) {j : Nat} (hj : j < l.length) : (-1 ≤ (ho h j).f0 ∧ (ho h j).f0 ≤ 1000) ∧ (-1 ≤ (ho h j).f1 ∧ (ho h j).f1 ≤ 1000000) := by
  obtain ⟨h1, h2, h3, _⟩ := F.ok j hj
  have h4 := F.sl j hj
  have h5 := F.n_le
  have h6 := M.ln
  omega
theorem l2_t (F : Facts l r h n) (M : Made l a) (hr : r ≤ 64) {cr : Bool} {at_ c : Int} {i j : Nat} (hi : i < l.length) (hj : j < l.length)
    (next : ∃ k, smithylaw25_ScanApart.l1 k l r h n cr i at_ c (wrap64 ((j : Int) + 1)) = some true) : ∀ (m : Nat) (x : Int), (sp l j).f2 + 1 - x ≤ m → (sp l j).f1 ≤ x → ∃ k, smithylaw25_ScanApart.l2 k l r h n cr i at_ c j x = some true := by
  have hM := M.lo j hj
  have hMi := M.lo i hi
  have hA := M.hi
  have hL := M.ln
  have hhl := F.hl
  intro m
  induction m with
  | zero =>
    intro x h1 h2
    obtain ⟨k, hk⟩ := next
    refine ⟨k + 1, ?_⟩
    unfold smithylaw25_ScanApart.l2
    rw [if_pos (by omega), if_pos (by omega), rd_sp, if_neg (by omega)]
    exact hk
  | succ m ih =>
    intro x h1 h2
    by_cases c1 : x ≤ (sp l j).f2
    · obtain ⟨k, hk⟩ := ih (x + 1) (by omega) (by omega)
      have ew : wrap64 (x + 1) = x + 1 := wrap64_small (by omega) (by omega)
      refine ⟨k + 1, ?_⟩
      unfold smithylaw25_ScanApart.l2
      rw [if_pos (by omega), if_pos (by omega), rd_sp, rd_sp, if_pos c1, ew]
      by_cases c2 : (j : Int) = (i : Int)
      · rw [if_pos c2]; exact hk
      · rw [if_neg c2, if_pos (by omega), if_pos (by omega)]
        by_cases c3 : x ≥ (sp l i).f1
        · rw [if_pos c3]
          by_cases c4 : x ≤ (sp l i).f2
          · rw [if_pos c4, if_pos (by omega)]
            have e1 : rd_T43 h (i : Int) = ho h i := by unfold rd_T43 ho; rw [Int.toNat_natCast]; rfl
            have e2 : rd_T43 h (j : Int) = ho h j := by unfold rd_T43 ho; rw [Int.toNat_natCast]; rfl
            have b1 := home_bounds F M hr hi
            have b2 := home_bounds F M hr hj
            rw [e1, kept_f b1.1 b1.2, Option.bind_some, if_pos (by omega), e2, kept_f b2.1 b2.2, Option.bind_some]
            rw [if_neg (kept_ne F (by omega) hi hj c3 c4 (by omega) c1)]
            exact hk
          · rw [if_neg c4]; exact hk
        · rw [if_neg c3]; exact hk
    · obtain ⟨k, hk⟩ := next
      refine ⟨k + 1, ?_⟩
      unfold smithylaw25_ScanApart.l2
      rw [if_pos (by omega), if_pos (by omega), rd_sp, if_neg (by omega)]
      exact hk
theorem l1_t (F : Facts l r h n) (M : Made l a) (hr : r ≤ 64) {cr : Bool} {at_ : Int} {i : Nat} (hi : i < l.length)
    (next : ∃ k, smithylaw25_ScanApart.l0 k l r h n (cr || decide ((live l at_ : Int) > r)) (wrap64 ((i : Int) + 1)) = some true) : ∀ (m j : Nat), l.length - j ≤ m → j ≤ l.length → ∃ k, smithylaw25_ScanApart.l1 k l r h n cr i at_ (liveR l at_ j) j = some true := by
  have hL := M.ln
  have fin : ∃ k, smithylaw25_ScanApart.l1 k l r h n cr i at_ (liveR l at_ l.length) (l.length : Int) = some true := by
    obtain ⟨k, hk⟩ := next
    refine ⟨k + 1, ?_⟩
    unfold smithylaw25_ScanApart.l1
    rw [if_neg (by omega), ← live_range]
    cases cr with
    | true => rw [if_pos rfl]; rw [Bool.true_or] at hk; exact hk
    | false => rw [if_neg (by decide)]; rw [Bool.false_or] at hk; exact hk
  intro m
  induction m with
  | zero =>
    intro j h1 h2
    obtain rfl : j = l.length := by omega
    exact fin
  | succ m ih =>
    intro j h1 h2
    by_cases c1 : j < l.length
    · have hM := M.lo j c1
      have ew : wrap64 ((j : Int) + 1) = ((j + 1 : Nat) : Int) := by rw [wrap64_small (by omega) (by omega)]; omega
      obtain ⟨k, hk⟩ := ih (j + 1) (by omega) (by omega)
      rw [liveR_succ] at hk
      have hle := liveR_le l at_ j
      by_cases c2 : (sp l j).f1 > at_
      · rw [if_neg (by omega), Nat.add_zero] at hk
        refine ⟨k + 2, ?_⟩
        unfold smithylaw25_ScanApart.l1
        rw [if_pos (by omega), if_pos (by omega), rd_sp, if_pos c2]
        unfold smithylaw25_ScanApart.j3
        rw [if_pos rfl, ew]
        exact hk
      · by_cases c3 : (sp l j).f2 < at_
        · rw [if_neg (by omega), Nat.add_zero] at hk
          refine ⟨k + 2, ?_⟩
          unfold smithylaw25_ScanApart.l1
          rw [if_pos (by omega), if_pos (by omega), rd_sp, if_neg c2, decide_eq_true c3]
          unfold smithylaw25_ScanApart.j3
          rw [if_pos rfl, ew]
          exact hk
        · rw [if_pos (by omega)] at hk
          have ec : wrap64 ((liveR l at_ j : Int) + 1) = ((liveR l at_ j + 1 : Nat) : Int) := by rw [wrap64_small (by omega) (by omega)]; omega
          obtain ⟨k2, hk2⟩ := l2_t (c := ((liveR l at_ j + 1 : Nat) : Int)) (at_ := at_) (cr := cr) F M hr hi c1 ⟨k, by rw [ew]; exact hk⟩ ((sp l j).f2 + 1 - (sp l j).f1).toNat (sp l j).f1 (by omega) (by omega)
          refine ⟨k2 + 2, ?_⟩
          unfold smithylaw25_ScanApart.l1
          rw [if_pos (by omega), if_pos (by omega), rd_sp, if_neg c2, decide_eq_false c3]
          unfold smithylaw25_ScanApart.j3
          rw [if_neg (by decide), if_pos (by omega), if_pos (by omega), rd_sp, ec]
          exact hk2
    · obtain rfl : j = l.length := by omega
      exact fin
theorem l0_t (F : Facts l r h n) (M : Made l a) (hr : r ≤ 64) : ∀ (m i : Nat) (cr : Bool), l.length - i ≤ m → i ≤ l.length → (cr = true ∨ ∀ q, q < i → ¬ r < (live l (sp l q).f1 : Int)) → ∃ k, smithylaw25_ScanApart.l0 k l r h n cr i = some true := by
  have hL := M.ln
  have fin : ∀ cr : Bool, (cr = true ∨ ∀ q, q < l.length → ¬ r < (live l (sp l q).f1 : Int)) → ∃ k, smithylaw25_ScanApart.l0 k l r h n cr (l.length : Int) = some true := by
    intro cr hc
    refine ⟨1, ?_⟩
    unfold smithylaw25_ScanApart.l0
    have := F.n_le
    rw [if_neg (by omega), if_pos (by omega), if_pos (by omega)]
    cases cr with
    | true => rw [if_pos rfl]
    | false =>
      rw [if_neg (by decide)]
      have h0 : n = 0 := by
        rcases hc with hc | hc
        · cases hc
        · rcases Nat.eq_zero_or_pos n with h | h
          · exact h
          · obtain ⟨q, hq, hq2⟩ := F.room h
            exact absurd hq2 (hc q hq)
      subst h0; rfl
  intro m
  induction m with
  | zero =>
    intro i cr h1 h2 h3
    obtain rfl : i = l.length := by omega
    exact fin cr h3
  | succ m ih =>
    intro i cr h1 h2 h3
    by_cases c1 : i < l.length
    · have ew : wrap64 ((i : Int) + 1) = ((i + 1 : Nat) : Int) := by rw [wrap64_small (by omega) (by omega)]; omega
      obtain ⟨k, hk⟩ := l1_t (at_ := (sp l i).f1) (cr := cr) F M hr c1 (by
        rw [ew]
        refine ih (i + 1) _ (by omega) (by omega) ?_
        by_cases c : r < (live l (sp l i).f1 : Int)
        · left
          rw [decide_eq_true c, Bool.or_true]
        · rcases h3 with h3 | h3
          · left; rw [h3, Bool.true_or]
          · right
            intro q hq
            rcases (by omega : q < i ∨ q = i) with h | rfl
            · exact h3 q h
            · exact c) l.length 0 (by omega) (by omega)
      refine ⟨k + 1, ?_⟩
      unfold smithylaw25_ScanApart.l0
      rw [if_pos (by omega), if_pos (by omega), rd_sp]
      exact hk
    · obtain rfl : i = l.length := by omega
      exact fin cr h3
end
theorem apart_pure : smithylaw25_ScanApart.Pure := by
  intro l0 a1 _ _ _ _
  obtain ⟨k0, hk0⟩ := awake_t
  obtain ⟨k1, l, a, hk1, M⟩ := made_f l0
  obtain ⟨p, hp, hp0, hp1⟩ := pick_f a1 8 (by omega) (by omega)
  have F := assign_facts (regs := p) (ordB_ord (made_ordB M)) hp0 (by omega)
  obtain ⟨k2, hk2⟩ := l0_t F M (by omega) l.length 0 false (by omega) (by omega) (.inr (fun q hq => absurd hq (by omega)))
  refine ⟨k0 + k1 + k2 + 1, ?_⟩
  unfold smithylaw25_ScanApart.f
  rw [fuel smithylaw25_awake.mono hk0 (by omega), Option.bind_some, if_pos rfl, fuel (fun k => smithylaw25_made.mono l0 k) hk1 (by omega), Option.bind_some, hp, Option.bind_some, assign_ok (by have := M.ln; omega) (made_wf M) (made_ordB M) hp0 (by omega), Option.bind_some, if_pos rfl, if_pos (by rw [F.hl]), holds_ok F M ⟨rfl, fun _ => ⟨rfl, rfl⟩⟩ (made_ordB M) (made_wf M) hp0 (Int.le_refl _) (by omega), Option.bind_some]
  rw [smithylaw25_ScanApart.j0, if_neg (by decide)]
  exact fuel (f := fun k => smithylaw25_ScanApart.l0 k l p (assignP l p).h ((assignP l p).n : Int) false 0) (fun k => ((smithylaw25_ScanApart.mono_l k).2.1 _ _ _ _ _ _)) hk2 (by omega)
end Go.Proofs.Ytcmbpboeilojmaa.Sw
