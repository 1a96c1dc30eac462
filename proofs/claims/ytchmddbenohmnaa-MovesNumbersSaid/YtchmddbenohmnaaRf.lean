/- The document's May and Refused, told plainly; what the row of moves answers just fits them. No walk. -/
import Derived.Test.YtchmddbenohmnaaDz
import Derived.Test.YtchmddbenohmnaaFm
namespace Go.Proofs.Ytchmddbenohmnaa.Mv
open Go Go.RowKit Go.Proofs.YtchmddbenohmnaaW.PrintWords Go.Proofs.Ytchmddbenohmnaa.Mi Go.Proofs.Ytchmddbenohmnaa.F
set_option linter.unusedVariables false
set_option linter.unusedSimpArgs false

theorem may_inner (l : List S43) (hl : l.length ≤ 1000000) (sp : Int) (i : Nat) (hi : i < l.length) : ∀ (d x k : Nat), x + d = i → d < k →
    ((∃ y, ∃ h : y < i, l[y].f0 = l[i].f0) ∧ smithyref22_May.l1 k l sp (i : Int) (x : Int) = some false) ∨
    ((∀ y, ∀ h : y < i, x ≤ y → l[y].f0 ≠ l[i].f0) ∧ ∃ k', k = k' + d + 1 ∧ smithyref22_May.l1 k l sp (i : Int) (x : Int) = smithyref22_May.l0 k' l sp ((i + 1 : Nat) : Int)) := by
  intro d
  induction d with
  | zero =>
    intro x k hx hk
    obtain ⟨k, rfl⟩ : ∃ m, k = m + 1 := ⟨k - 1, by omega⟩
    right
    refine ⟨fun y h h' => absurd h (by omega), k, by omega, ?_⟩
    rw [smithyref22_May.l1, if_neg (by omega), wrap_nat (by omega)]
  | succ d ih =>
    intro x k hx hk
    obtain ⟨k, rfl⟩ : ∃ m, k = m + 1 := ⟨k - 1, by omega⟩
    have hxl : x < l.length := by omega
    rw [smithyref22_May.l1, if_pos (by omega), if_pos (by omega), if_pos (by omega), if_pos (by omega), if_pos (by omega), rd_nat43 hxl, rd_nat43 hi, wrap_nat (by omega)]
    by_cases e : l[x].f0 = l[i].f0
    · rw [if_pos e]
      exact .inl ⟨⟨x, by omega, e⟩, rfl⟩
    · rw [if_neg e]
      rcases ih (x + 1) k (by omega) (by omega) with ⟨h1, h2⟩ | ⟨h1, k', h2, h3⟩
      · exact .inl ⟨h1, h2⟩
      · refine .inr ⟨fun y h h' => ?_, k', by omega, h3⟩
        by_cases ey : y = x
        · subst ey; exact e
        · exact h1 y h (by omega)
theorem badAt_dup {l : List S43} {sp : Int} {i y : Nat} (hi : i < l.length) (hy : y < i) (e : l[y].f0 = l[i].f0) : badAt l sp i = true := by
  cases h : badAt l sp i with
  | true => rfl
  | false =>
    obtain ⟨_, _, _, _, h5⟩ := (badAt_false hi).1 h
    refine absurd e (h5 l[y] ?_)
    rw [List.mem_take_iff_getElem]
    exact ⟨y, by omega, rfl⟩
theorem may_outer (l : List S43) (hl : l.length ≤ 1000000) (sp : Int) : ∀ (d i k : Nat), i + d = l.length → d * (l.length + 4) + 2 < k → (∀ j, j < i → j < l.length → badAt l sp j = false) →
    ∃ b, smithyref22_May.l0 k l sp (i : Int) = some b ∧ (b = true ↔ ∀ j, j < l.length → badAt l sp j = false) := by
  intro d
  induction d with
  | zero =>
    intro i k hi hk hb
    obtain ⟨k, rfl⟩ : ∃ m, k = m + 1 := ⟨k - 1, by omega⟩
    exact ⟨true, by rw [smithyref22_May.l0, if_neg (by omega)], ⟨fun _ j hj => hb j (by omega) hj, fun _ => rfl⟩⟩
  | succ d ih =>
    intro i k hi hk hb
    rw [Nat.succ_mul] at hk
    obtain ⟨k, rfl⟩ : ∃ m, k = m + 1 + 1 := ⟨k - 2, by omega⟩
    have hil : i < l.length := by omega
    have hbad : badAt l sp i = true → ∃ b, some false = some b ∧ (b = true ↔ ∀ j, j < l.length → badAt l sp j = false) := fun h => ⟨false, rfl, ⟨fun h' => (by cases h'), fun h' => by rw [h' i hil] at h; cases h⟩⟩
    have hno : ∀ P : Prop, (badAt l sp i = false → P) → ¬ P → badAt l sp i = true := fun P h1 h2 => by
      cases h : badAt l sp i with
      | true => rfl
      | false => exact absurd (h1 h) h2
    have hjt : smithyref22_May.j1 (k + 1) l sp (i : Int) true = some false := by rw [smithyref22_May.j1, if_pos rfl]
    rw [smithyref22_May.l0, if_pos (by omega), if_pos (by omega), rd_nat43 hil, hjt]
    by_cases c1 : l[i].f0 < 0
    · rw [if_pos c1]; exact hbad (hno (0 ≤ l[i].f0) (fun h => ((badAt_false hil).1 h).1) (by omega))
    rw [if_neg c1]
    by_cases c2 : l[i].f1 < 0
    · rw [if_pos c2]; exact hbad (hno (0 ≤ l[i].f1) (fun h => ((badAt_false hil).1 h).2.1) (by omega))
    rw [if_neg c2]
    by_cases c3 : l[i].f0 = sp
    · rw [if_pos c3]; exact hbad (hno (l[i].f0 ≠ sp) (fun h => ((badAt_false hil).1 h).2.2.1) (fun h => h c3))
    rw [if_neg c3]
    by_cases c4 : l[i].f1 = sp
    · have : (l[i].f1 == sp) = true := by simpa using c4
      rw [this, hjt]; exact hbad (hno (l[i].f1 ≠ sp) (fun h => ((badAt_false hil).1 h).2.2.2.1) (fun h => h c4))
    have : (l[i].f1 == sp) = false := by simpa using c4
    rw [this, smithyref22_May.j1, if_neg (by simp)]
    rcases may_inner l hl sp i hil i 0 k (by omega) (by omega) with ⟨⟨y, hy, e⟩, h2⟩ | ⟨h1, k', h2, h3⟩
    · rw [show ((0 : Nat) : Int) = 0 from rfl] at h2
      rw [h2]; exact hbad (badAt_dup hil hy e)
    · rw [show ((0 : Nat) : Int) = 0 from rfl] at h3
      rw [h3]
      refine ih (i + 1) k' (by omega) (by omega) (fun j hj hjl => ?_)
      by_cases ej : j = i
      · subst ej
        refine (badAt_false hil).2 ⟨by omega, by omega, c3, c4, fun m hm => ?_⟩
        rw [List.mem_take_iff_getElem] at hm
        obtain ⟨y, hy, rfl⟩ := hm
        exact h1 y (by omega) (Nat.zero_le _)
      · exact hb j (by omega) hjl
theorem may_some {l : List S43} (hl : l.length ≤ 1000000) (sp : Int) {k : Nat} (hk : l.length * (l.length + 4) + 2 < k) : smithyref22_May.f k l sp = some (mayB l sp) := by
  unfold smithyref22_May.f
  by_cases hs : sp < -1
  · rw [if_pos hs]
    congr 1
    unfold mayB
    rw [show decide (sp ≥ -1) = false by simp; omega, Bool.and_false]
  · rw [if_neg hs]
    obtain ⟨b, h1, h2⟩ := may_outer l hl sp l.length 0 k (by omega) hk (fun j hj => absurd hj (by omega))
    rw [show ((0 : Nat) : Int) = 0 from rfl] at h1
    rw [h1]
    congr 1
    cases hb : b with
    | true =>
      rw [mayB_end (h2.1 hb)]
      symm; simp; omega
    | false =>
      have : ¬ ∀ j, j < l.length → badAt l sp j = false := fun h => by rw [h2.2 h] at hb; cases hb
      have h3 : ∃ j, j < l.length ∧ badAt l sp j = true := by
        apply Classical.byContradiction
        intro hn
        refine this fun j hj => ?_
        cases h : badAt l sp j with
        | false => rfl
        | true => exact absurd ⟨j, hj, h⟩ hn
      obtain ⟨j, hj, h4⟩ := h3
      rw [mayB_bad hj h4]
theorem refused_some {l : List S43} (hl : l.length ≤ 1000000) (sp : Int) {k : Nat} (hk : l.length * (l.length + 5) + l.length + 6 < k) : smithyref22_Refused.f k l sp = some (if mayB l sp = true then (if sp = -1 then (if 0 < circ l then 4 else 0) else 0) else 2) := by
  unfold smithyref22_Refused.f
  have h0 : l.length * (l.length + 4) + 2 < k := by
    have : l.length * (l.length + 5) = l.length * (l.length + 4) + l.length := by rw [← Nat.mul_succ]
    omega
  rw [may_some hl sp h0, Option.bind_some]
  by_cases h1 : mayB l sp = true
  · rw [if_pos h1, if_pos h1]
    by_cases h2 : sp = -1
    · rw [if_pos h2, if_pos h2, circ_some hl hk, Option.bind_some]
      by_cases h3 : 0 < circ l
      · rw [if_pos h3, if_pos (by omega)]
      · rw [if_neg h3, if_neg (by omega)]
    · rw [if_neg h2, if_neg h2]
  · rw [if_neg h1, if_neg h1]

/-- what the law asks of the row: refused alike, or a row that does. -/
theorem rows_facts {l : List S43} {sp : Int} (hl : l.length ≤ 150) (hok : okM l = true) (hws : (Lit.int .i64 sp).wf = true) :
    ∃ K out r, rowG K l sp = some (out, r) ∧ smithyref22_Refused.f K l sp = some r ∧ out.length ≤ 300 ∧ ((out = [] ∧ (r = 2 ∨ r = 4)) ∨ (r = 0 ∧ smithyref22_Does.f K out l sp = some true)) := by
  have hlen : l.length ≤ 1000000 := by omega
  by_cases h1 : mayB l sp = true
  · have hm := (may_iff l sp).1 h1
    obtain ⟨K, hK⟩ := row_full hm hlen hok hws
    have hr := refused_some hlen sp (k := K + 100000) (by
      have : l.length * (l.length + 5) ≤ 150 * 155 := Nat.mul_le_mul hl (by omega)
      omega)
    rw [if_pos h1] at hr
    rcases hK (K + 100000) (by omega) with ⟨hs, h2, h3⟩ | ⟨out, h2, h3, h4, h5⟩
    · refine ⟨K + 100000, [], 4, h2, ?_, by simp, .inl ⟨rfl, .inr rfl⟩⟩
      have hlow := hm.low
      rw [hr, if_pos (by omega), if_pos h3]
    · have hb : nbusy l ≤ l.length := List.countP_le_length
      have hc : circ l ≤ l.length := List.countP_le_length
      refine ⟨K + 100000, out, 0, h2, ?_, by omega, .inr ⟨rfl, does_some hm (by omega) (by omega) h3 h4 (by
        have : l.length * (l.length + 5) ≤ 150 * 155 := Nat.mul_le_mul hl (by omega)
        omega)⟩⟩
      rw [hr]
      by_cases hs : sp = -1
      · rw [if_pos hs, h5 (by omega), if_neg (by omega)]
      · rw [if_neg hs]
  · refine ⟨100000, [], 2, ?_, ?_, by simp, .inl ⟨rfl, .inl rfl⟩⟩
    · unfold rowG
      rw [if_pos ⟨hlen, hok, hws⟩]
      unfold rowF
      rw [if_neg h1]
    · rw [refused_some hlen sp (by
        have : l.length * (l.length + 5) ≤ 150 * 155 := Nat.mul_le_mul hl (by omega)
        omega), if_neg h1]
end Go.Proofs.Ytchmddbenohmnaa.Mv
