/- Small facts on printed functions: fuel, Pick, made, kept. -/
import Derived.Test.YtcmbpboeilojmaaGreatHd
import Derived.Test.YtcmbpboeilojmaaGreatFxf5
import Derived.Test.YtcmbpboeilojmaaGreatFxf6
namespace Go.Proofs.YtcmbpboeilojmaaGreat.Sw
open Go Go.RowKit Go.Proofs.YtcmbpboeilojmaaGreatW.PrintWords Go.Proofs.YtcmbpboeilojmaaGreatW.PrintLast Go.Proofs.YtcmbpboeilojmaaGreatW.PrintMore Go.Proofs.YtcmbpboeilojmaaGreat.Mi Go.Proofs.YtcmbpboeilojmaaGreat.F Go.Proofs.YtcmbpboeilojmaaGreat.Scan
set_option linter.unusedVariables false
set_option linter.unusedSimpArgs false
theorem fuel {α : Type} {f : Nat → Option α} (hm : ∀ k, LeO (f k) (f (k + 1))) {k K : Nat} {r : α} (h : f k = some r) (hk : k ≤ K) : f K = some r := by
  induction K with
  | zero => obtain rfl : k = 0 := by omega
            exact h
  | succ K ih =>
    by_cases e : k = K + 1
    · subst e; exact h
    · exact hm K r (ih (by omega))
theorem pick_f (x n : Int) (h1 : 1 ≤ n) (h2 : n ≤ 1000) : ∃ p, smithykit_Pick.f x n = some p ∧ 0 ≤ p ∧ p < n := by
  unfold smithykit_Pick.f
  rw [if_neg (by omega), if_neg (by omega)]
  have ha := Int.tmod_lt_of_pos x (show 0 < n by omega)
  have hb : -n < Int.tmod x n := by
    have := Int.tmod_lt_of_pos (-x) (show 0 < n by omega)
    rw [Int.neg_tmod] at this
    omega
  by_cases e : Int.tmod x n < 0
  · rw [if_pos e, wrap64_small (by omega) (by omega)]
    exact ⟨_, rfl, by omega, by omega⟩
  · rw [if_neg e]
    exact ⟨_, rfl, by omega, by omega⟩
/-- a row of spans as made makes it. -/
structure Made (l : List S36) (at_ : Int) : Prop where
  ln : l.length ≤ 120
  nm : ∀ i, i < l.length → (sp l i).f0 = (i : Int)
  lo : ∀ i, i < l.length → -1 ≤ (sp l i).f1 ∧ (sp l i).f1 ≤ at_ ∧ (sp l i).f1 ≤ (sp l i).f2 ∧ (sp l i).f2 ≤ (sp l i).f1 + 13
  up : ∀ i, i + 1 < l.length → (sp l i).f1 ≤ (sp l (i + 1)).f1
  hi : -1 ≤ at_ ∧ at_ ≤ 2 * l.length
theorem sp_app_l {l r : List S36} {i : Nat} (h : i < l.length) : sp (l ++ r) i = sp l i := by
  unfold sp; rw [List.getD_eq_getElem?_getD, List.getD_eq_getElem?_getD, List.getElem?_append_left h]
theorem sp_app_r {l : List S36} {x : S36} : sp (l ++ [x]) l.length = x := by
  unfold sp; rw [List.getD_eq_getElem?_getD, List.getElem?_append_right (Nat.le_refl _), Nat.sub_self]; rfl
theorem Made.snoc {l : List S36} {a p q : Int} (M : Made l a) (hl : l.length < 120) (hp : 0 ≤ p ∧ p < 3) (hq : 0 ≤ q ∧ q < 14) : Made (l ++ [⟨(l.length : Int), a + p, a + p + q⟩]) (a + p) := by
  have hn : (l ++ [(⟨(l.length : Int), a + p, a + p + q⟩ : S36)]).length = l.length + 1 := by simp
  have ha := M.hi
  refine ⟨by omega, ?_, ?_, ?_, ⟨by omega, by rw [hn]; omega⟩⟩
  · intro i hi
    rw [hn] at hi
    rcases (by omega : i < l.length ∨ i = l.length) with h | rfl
    · rw [sp_app_l h]; exact M.nm i h
    · rw [sp_app_r]
  · intro i hi
    rw [hn] at hi
    rcases (by omega : i < l.length ∨ i = l.length) with h | rfl
    · rw [sp_app_l h]
      have := M.lo i h
      omega
    · rw [sp_app_r]
      show -1 ≤ a + p ∧ a + p ≤ a + p ∧ a + p ≤ a + p + q ∧ a + p + q ≤ a + p + 13
      omega
  · intro i hi
    rw [hn] at hi
    rw [sp_app_l (by omega : i < l.length)]
    rcases (by omega : i + 1 < l.length ∨ i + 1 = l.length) with h | h
    · rw [sp_app_l h]; exact M.up i h
    · rw [h, sp_app_r]
      have := M.lo i (by omega)
      show (sp l i).f1 ≤ a + p
      omega
theorem made_l0 (x0 : List Int) : ∀ (m : Nat) (l : List S36) (a : Int), Made l a → 120 - l.length ≤ m → l.length ≤ x0.length → ∃ k r b, smithylaw25_made.l0 k x0 l a (l.length : Int) = some r ∧ Made r b := by
  intro m
  induction m with
  | zero =>
    intro l a M hm hx
    have := M.ln
    refine ⟨2, l, a, ?_, M⟩
    unfold smithylaw25_made.l0
    split
    · rw [decide_eq_false (by omega)]; rfl
    · rfl
  | succ m ih =>
    intro l a M hm hx
    by_cases c : l.length < x0.length ∧ l.length < 120
    · obtain ⟨p, hp, hp1⟩ := pick_f (rd x0 (l.length : Int)) 3 (by omega) (by omega)
      obtain ⟨q, hq, hq1⟩ := pick_f (wrap64 (Int.tdiv (rd x0 (l.length : Int)) 3)) 14 (by omega) (by omega)
      have ha := M.hi
      have M2 := M.snoc c.2 hp1 hq1
      have hn : (l ++ [(⟨(l.length : Int), a + p, a + p + q⟩ : S36)]).length = l.length + 1 := by simp
      obtain ⟨k, r, b, hk, hr⟩ := ih _ _ M2 (by rw [hn]; omega) (by rw [hn]; omega)
      refine ⟨k + 2, r, b, ?_, hr⟩
      unfold smithylaw25_made.l0
      rw [if_pos (by omega), decide_eq_true (by omega)]
      unfold smithylaw25_made.j1
      rw [if_pos rfl, if_pos (by omega), if_pos (by omega), hp, Option.bind_some, hq, Option.bind_some, if_pos (by have := c.2; omega), wrap64_small (n := a + p) (by omega) (by omega), wrap64_small (n := a + p + q) (by omega) (by omega), wrap64_small (n := (l.length : Int) + 1) (by omega) (by omega)]
      rw [hn] at hk
      rw [show ((l.length + 1 : Nat) : Int) = (l.length : Int) + 1 by omega] at hk
      exact hk
    · refine ⟨2, l, a, ?_, M⟩
      unfold smithylaw25_made.l0
      split
      · rw [decide_eq_false (by omega)]; rfl
      · rfl
theorem made_f (x0 : List Int) : ∃ k r b, smithylaw25_made.f k x0 = some r ∧ Made r b :=
  made_l0 x0 120 [] (-1) ⟨by decide, fun i hi => absurd hi (by simp), fun i hi => absurd hi (by simp), fun i hi => absurd hi (by simp), by decide⟩ (by simp) (by simp)
theorem Made.mono {l : List S36} {a : Int} (M : Made l a) {i j : Nat} (hij : i ≤ j) (hj : j < l.length) : (sp l i).f1 ≤ (sp l j).f1 := by
  induction j with
  | zero => obtain rfl : i = 0 := by omega
            exact Int.le_refl _
  | succ j ih =>
    by_cases e : i = j + 1
    · subst e; exact Int.le_refl _
    · have h1 := ih (by omega) (by omega)
      have h2 := M.up j hj
      omega
/-- renamed spans are in order. -/
theorem Made.ord {l m : List S36} {a : Int} (M : Made l a) (hs : Same l m) {f : Nat → Int} (hf : ∀ i, i < l.length → (sp m i).f0 = f i) (h0 : ∀ i, i < l.length → 0 ≤ f i) (h1 : ∀ i j, i < j → j < l.length → f i < f j) : ordB m = true := by
  rw [ordB_iff]
  intro k hk
  rw [← hs.1] at hk
  have hM := M.lo k hk
  have hA := M.hi
  have hL := M.ln
  refine ⟨by rw [← (hs.2 k).1]; omega, by rw [← (hs.2 k).1, ← (hs.2 k).2]; omega, by rw [← (hs.2 k).2]; omega, by rw [hf k hk]; exact h0 k hk, fun h => ?_, fun j hj => ?_⟩
  · unfold lexLt
    rw [← (hs.2 k).1, ← (hs.2 (k - 1)).1, hf k hk, hf (k - 1) (by omega)]
    have h2 := M.mono (i := k - 1) (j := k) (by omega) hk
    have h3 := h1 (k - 1) k (by omega) hk
    omega
  · rw [hf k hk, hf j (by omega)]
    have := h1 j k hj hk
    omega
end Go.Proofs.YtcmbpboeilojmaaGreat.Sw
