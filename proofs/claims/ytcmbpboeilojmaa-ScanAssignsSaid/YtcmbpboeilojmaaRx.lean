/- What the document's functions answer: Ordered, May, Once, Holds, told plainly. -/
import Derived.Test.YtcmbpboeilojmaaHd
import Derived.Test.YtcmbpboeilojmaaFxf12
namespace Go.Proofs.Ytcmbpboeilojmaa.Sw
open Go Go.RowKit Go.Proofs.YtcmbpboeilojmaaW.PrintWords Go.Proofs.YtcmbpboeilojmaaW.PrintLast Go.Proofs.YtcmbpboeilojmaaW.PrintMore Go.Proofs.Ytcmbpboeilojmaa.Mi Go.Proofs.Ytcmbpboeilojmaa.F Go.Proofs.Ytcmbpboeilojmaa.Scan
set_option linter.unusedVariables false
set_option linter.unusedSimpArgs false
theorem fuel' {α : Type} {f : Nat → Option α} (hm : ∀ k, LeO (f k) (f (k + 1))) {k K : Nat} {r : α} (h : f k = some r) (hk : k ≤ K) : f K = some r := by
  induction K with
  | zero => obtain rfl : k = 0 := by omega
            exact h
  | succ K ih =>
    by_cases e : k = K + 1
    · subst e; exact h
    · exact hm K r (ih (by omega))
def OrdFrom (l : List S40) (i : Nat) : Prop := ∀ q, i ≤ q → q < l.length → OrdAt l q
theorem wsucc (i : Nat) (h : i ≤ 1000000) : wrap64 ((i : Int) + 1) = ((i + 1 : Nat) : Int) := by rw [wrap64_small (by omega) (by omega)]; omega
section
variable {l : List S40}
theorem ord_l1 (hl : l.length ≤ 1000000) {i : Nat} (hi : i < l.length) {R : Prop} (next : ∃ k b, smithyref25_Ordered.l0 k l (wrap64 ((i : Int) + 1)) = some b ∧ (b = true ↔ R)) :
    ∀ (m j : Nat), i - j ≤ m → j ≤ i → ∃ k b, smithyref25_Ordered.l1 k l i j = some b ∧ (b = true ↔ (∀ q, j ≤ q → q < i → (sp l q).f0 ≠ (sp l i).f0) ∧ R) := by
  have fin : ∃ k b, smithyref25_Ordered.l1 k l i i = some b ∧ (b = true ↔ (∀ q, i ≤ q → q < i → (sp l q).f0 ≠ (sp l i).f0) ∧ R) := by
    obtain ⟨k, b, hk, hb⟩ := next
    refine ⟨k + 1, b, ?_, hb.trans ⟨fun h => ⟨fun q h1 h2 => absurd h2 (by omega), h⟩, fun h => h.2⟩⟩
    rw [smithyref25_Ordered.l1, if_neg (by omega)]
    exact hk
  intro m
  induction m with
  | zero =>
    intro j h1 h2
    obtain rfl : j = i := by omega
    exact fin
  | succ m ih =>
    intro j h1 h2
    by_cases c : j < i
    · by_cases e : (sp l j).f0 = (sp l i).f0
      · refine ⟨1, false, ?_, ⟨fun h => (by cases h), fun h => absurd e (h.1 j (Nat.le_refl _) c)⟩⟩
        rw [smithyref25_Ordered.l1, if_pos (by omega), if_pos (by omega), if_pos (by omega), if_pos (by omega), if_pos (by omega), rd_sp, rd_sp, if_pos e]
      · obtain ⟨k, b, hk, hb⟩ := ih (j + 1) (by omega) (by omega)
        refine ⟨k + 1, b, ?_, hb.trans ⟨fun h => ⟨fun q h3 h4 => ?_, h.2⟩, fun h => ⟨fun q h3 h4 => h.1 q (by omega) h4, h.2⟩⟩⟩
        · rw [smithyref25_Ordered.l1, if_pos (by omega), if_pos (by omega), if_pos (by omega), if_pos (by omega), if_pos (by omega), rd_sp, rd_sp, if_neg e, wsucc j (by omega)]
          exact hk
        · by_cases e2 : q = j
          · subst e2; exact e
          · exact h.1 q (by omega) h4
    · obtain rfl : j = i := by omega
      exact fin
theorem ord_l0 (hl : l.length ≤ 1000000) : ∀ (m i : Nat), l.length - i ≤ m → i ≤ l.length → ∃ k b, smithyref25_Ordered.l0 k l i = some b ∧ (b = true ↔ OrdFrom l i) := by
  have fin : ∃ k b, smithyref25_Ordered.l0 k l (l.length : Int) = some b ∧ (b = true ↔ OrdFrom l l.length) := by
    refine ⟨1, true, ?_, ⟨fun _ q h1 h2 => absurd h2 (by omega), fun _ => rfl⟩⟩
    rw [smithyref25_Ordered.l0, if_neg (by omega)]
  intro m
  induction m with
  | zero =>
    intro i h1 h2
    obtain rfl : i = l.length := by omega
    exact fin
  | succ m ih =>
    intro i h1 h2
    by_cases c : i < l.length
    · have hbad : ∀ {P : Prop}, ¬ OrdAt l i → (false = true ↔ OrdFrom l i) := fun hn => ⟨fun h => (by cases h), fun h => absurd (h i (Nat.le_refl _) c) hn⟩
      have e1 : (i : Int) < (l.length : Int) := by omega
      have e0 : (0 : Int) ≤ (i : Int) := by omega
      by_cases c1 : (sp l i).f1 < -1
      · refine ⟨2, false, ?_, hbad (P := True) (fun h => by have := h.a; omega)⟩
        rw [smithyref25_Ordered.l0, if_pos e1, if_pos e0, rd_sp, if_pos c1, smithyref25_Ordered.j1, if_pos rfl]
      by_cases c2 : (sp l i).f2 < (sp l i).f1
      · refine ⟨2, false, ?_, hbad (P := True) (fun h => by have := h.b; omega)⟩
        rw [smithyref25_Ordered.l0, if_pos e1, if_pos e0, rd_sp, if_neg c1, if_pos c2, smithyref25_Ordered.j1, if_pos rfl]
      by_cases c3 : (sp l i).f2 > 1099511627776
      · refine ⟨2, false, ?_, hbad (P := True) (fun h => by have := h.c; omega)⟩
        rw [smithyref25_Ordered.l0, if_pos e1, if_pos e0, rd_sp, if_neg c1, if_neg c2, if_pos c3, smithyref25_Ordered.j1, if_pos rfl]
      by_cases c4 : (sp l i).f0 < 0
      · refine ⟨2, false, ?_, hbad (P := True) (fun h => by have := h.d; omega)⟩
        rw [smithyref25_Ordered.l0, if_pos e1, if_pos e0, rd_sp, if_neg c1, if_neg c2, if_neg c3, decide_eq_true c4, smithyref25_Ordered.j1, if_pos rfl]
      obtain ⟨k, b, hk, hb⟩ := ord_l1 hl c (by rw [wsucc i (by omega)]; exact ih (i + 1) (by omega) (by omega)) i 0 (by omega) (by omega)
      have hall : ∀ (hlex : 0 < i → lexLt (sp l (i - 1)) (sp l i)), (b = true ↔ OrdFrom l i) := fun hlex => hb.trans ⟨fun h q h3 h4 => by
        by_cases e : q = i
        · subst e; exact ⟨by omega, by omega, by omega, by omega, hlex, fun j hj => h.1 j (Nat.zero_le _) hj⟩
        · exact h.2 q (by omega) h4, fun h => ⟨fun q _ h4 => (h i (Nat.le_refl _) c).f q h4, fun q h3 h4 => h q (by omega) h4⟩⟩
      by_cases c5 : 0 < i
      · have ew : wrap64 ((i : Int) - 1) = ((i - 1 : Nat) : Int) := by rw [wrap64_small (by omega) (by omega)]; omega
        by_cases c6 : lexLt (sp l (i - 1)) (sp l i)
        · refine ⟨k + 3, b, ?_, hall (fun _ => c6)⟩
          rw [smithyref25_Ordered.l0, if_pos e1, if_pos e0, rd_sp, if_neg c1, if_neg c2, if_neg c3, decide_eq_false c4, smithyref25_Ordered.j1, if_neg (by decide), if_pos (by omega), if_pos e0, if_pos e1, ew, if_pos (by omega), if_pos (by omega), rd_sp, rd_sp]
          unfold lexLt at c6
          rw [if_neg (by omega)]
          by_cases c7 : (sp l i).f1 = (sp l (i - 1)).f1
          · rw [if_pos c7, decide_eq_false (by omega), smithyref25_Ordered.j2, if_neg (by decide)]; exact hk
          · rw [if_neg c7, smithyref25_Ordered.j2, if_neg (by decide)]; exact hk
        · refine ⟨3, false, ?_, hbad (P := True) (fun h => c6 (h.e c5))⟩
          rw [smithyref25_Ordered.l0, if_pos e1, if_pos e0, rd_sp, if_neg c1, if_neg c2, if_neg c3, decide_eq_false c4, smithyref25_Ordered.j1, if_neg (by decide), if_pos (by omega), if_pos e0, if_pos e1, ew, if_pos (by omega), if_pos (by omega), rd_sp, rd_sp]
          unfold lexLt at c6
          by_cases c8 : (sp l i).f1 < (sp l (i - 1)).f1
          · rw [if_pos c8, smithyref25_Ordered.j2, if_pos rfl]
          · rw [if_neg c8, if_pos (by omega), decide_eq_true (by omega), smithyref25_Ordered.j2, if_pos rfl]
      · refine ⟨k + 3, b, ?_, hall (fun h => absurd h c5)⟩
        rw [smithyref25_Ordered.l0, if_pos e1, if_pos e0, rd_sp, if_neg c1, if_neg c2, if_neg c3, decide_eq_false c4, smithyref25_Ordered.j1, if_neg (by decide), if_neg (by omega), smithyref25_Ordered.j2, if_neg (by decide)]
        exact hk
    · obtain rfl : i = l.length := by omega
      exact fin
theorem ord_f (hl : l.length ≤ 1000000) : ∃ k, smithyref25_Ordered.f k l = some (ordB l) := by
  obtain ⟨k, b, hk, hb⟩ := ord_l0 hl l.length 0 (by omega) (by omega)
  have : b = ordB l := by
    rw [Bool.eq_iff_iff, hb, ordB_iff]
    exact ⟨fun h q hq => h q (Nat.zero_le _) hq, fun h q _ hq => h q hq⟩
  subst this
  exact ⟨k, hk⟩
theorem may_f (hl : l.length ≤ 1000000) (regs : Int) : ∃ k, smithyref25_May.f k l regs = some (mayB l regs) := by
  obtain ⟨k, hk⟩ := ord_f hl
  refine ⟨k, ?_⟩
  unfold smithyref25_May.f mayB
  by_cases c1 : regs ≥ 0
  · by_cases c2 : regs ≤ 64
    · rw [if_pos c1, if_pos c2, hk, Option.bind_some, decide_eq_true c1, decide_eq_true c2]; rfl
    · rw [if_pos c1, if_neg c2, decide_eq_false c2, Bool.and_false]; rfl
  · rw [if_neg c1, decide_eq_false c1]; rfl
end
/-! ### Once -/
section
variable {s : List Int}
theorem rd_nat (s : List Int) (i : Nat) : rd s (i : Int) = s.getD i 0 := by unfold rd; rw [Int.toNat_natCast]
theorem once_l0 (hl : s.length ≤ 1000000) (hp : ∀ x ∈ s, 0 ≤ x) : ∀ (m i : Nat) (seen : List Bool), s.length - i ≤ m → i ≤ s.length → seen.length = s.length → (∀ v : Nat, v < s.length → (seen.getD v false = true ↔ (v : Int) ∈ s.take i)) →
    ∃ k b, smithyref25_Once.l0 k s seen i = some b ∧ (b = true ↔ ∀ q, i ≤ q → q < s.length → s.getD q 0 < (s.length : Int) ∧ s.getD q 0 ∉ s.take q) := by
  have fin : ∀ seen, ∃ k b, smithyref25_Once.l0 k s seen (s.length : Int) = some b ∧ (b = true ↔ ∀ q, s.length ≤ q → q < s.length → s.getD q 0 < (s.length : Int) ∧ s.getD q 0 ∉ s.take q) := by
    intro seen
    refine ⟨1, true, ?_, ⟨fun _ q h1 h2 => absurd h2 (by omega), fun _ => rfl⟩⟩
    rw [smithyref25_Once.l0, if_neg (by omega)]
  intro m
  induction m with
  | zero =>
    intro i seen h1 h2 _ _
    obtain rfl : i = s.length := by omega
    exact fin seen
  | succ m ih =>
    intro i seen h1 h2 hs hv
    by_cases c : i < s.length
    · have hget : s.getD i 0 = s[i] := by rw [List.getD_eq_getElem?_getD, List.getElem?_eq_getElem c]; rfl
      have hx0 : 0 ≤ s.getD i 0 := by rw [hget]; exact hp _ (List.getElem_mem c)
      obtain ⟨x, hx⟩ : ∃ x : Nat, s.getD i 0 = (x : Int) := ⟨(s.getD i 0).toNat, by omega⟩
      by_cases c1 : (x : Int) ≥ (s.length : Int)
      · refine ⟨1, false, ?_, ⟨fun h => (by cases h), fun h => by have := (h i (Nat.le_refl _) c).1; rw [hx] at this; omega⟩⟩
        rw [smithyref25_Once.l0, if_pos (by omega), if_pos (by omega), rd_nat, hx, if_pos c1]
      · have hxl : x < s.length := by omega
        have e1 : rdOf false seen (x : Int) = seen.getD x false := by unfold rdOf; rw [Int.toNat_natCast]
        by_cases c2 : seen.getD x false = true
        · refine ⟨1, false, ?_, ⟨fun h => (by cases h), fun h => absurd ((hv x hxl).1 c2) (by rw [← hx]; exact (h i (Nat.le_refl _) c).2)⟩⟩
          rw [smithyref25_Once.l0, if_pos (by omega), if_pos (by omega), rd_nat, hx, if_neg c1, if_pos (by omega), if_pos (by omega), e1, if_pos c2]
        · obtain ⟨k, b, hk, hb⟩ := ih (i + 1) (seen.set x true) (by omega) (by omega) (by rw [List.length_set]; exact hs) (fun v hvl => by
            rw [List.take_succ_eq_append_getElem c, List.mem_append, List.mem_singleton, ← hget, hx, List.getD_eq_getElem?_getD, List.getElem?_set]
            by_cases e : x = v
            · subst e
              rw [if_pos rfl, if_pos (by omega)]
              exact ⟨fun _ => .inr rfl, fun _ => rfl⟩
            · rw [if_neg e, ← List.getD_eq_getElem?_getD, hv v hvl]
              exact ⟨fun h => .inl h, fun h => h.elim id (fun h => absurd h (by omega))⟩)
          refine ⟨k + 1, b, ?_, hb.trans ⟨fun h q h3 h4 => ?_, fun h q h3 h4 => h q (by omega) h4⟩⟩
          · rw [smithyref25_Once.l0, if_pos (by omega), if_pos (by omega), rd_nat, hx, if_neg c1, if_pos (by omega), if_pos (by omega), e1, if_neg c2, wsucc i (by omega), Int.toNat_natCast]
            exact hk
          · by_cases e : q = i
            · subst e
              exact ⟨by rw [hx]; omega, by rw [hx]; exact fun hm => c2 ((hv x hxl).2 hm)⟩
            · exact h q (by omega) h4
    · obtain rfl : i = s.length := by omega
      exact fin seen
theorem nodup_take : ∀ {s : List Int}, s.Nodup ↔ ∀ q, q < s.length → s.getD q 0 ∉ s.take q := by
  intro s
  unfold List.Nodup
  rw [List.pairwise_iff_getElem]
  constructor
  · intro h q hq hm
    rw [List.getD_eq_getElem?_getD, List.getElem?_eq_getElem hq] at hm
    obtain ⟨j, hj, e⟩ := List.getElem_of_mem hm
    rw [List.length_take] at hj
    rw [List.getElem_take] at e
    exact h j q (by omega) hq (by omega) e
  · intro h a b ha hb hab e
    have := h b hb
    rw [List.getD_eq_getElem?_getD, List.getElem?_eq_getElem hb] at this
    exact this (List.mem_take_iff_getElem.2 ⟨a, by omega, e⟩)
theorem once_f (hl : s.length ≤ 1000000) (hp : ∀ x ∈ s, 0 ≤ x) : ∃ k, smithyref25_Once.f k s = some (onceB s) := by
  obtain ⟨k, b, hk, hb⟩ := once_l0 hl hp s.length 0 (List.replicate s.length false) (by omega) (by omega) (by simp) (fun v hv => by
    rw [List.getD_eq_getElem?_getD, List.getElem?_replicate, if_pos hv]
    simp)
  have : b = onceB s := by
    rw [Bool.eq_iff_iff, hb, onceB_iff, nodup_take]
    constructor
    · intro h
      refine ⟨fun q hq => (h q (Nat.zero_le _) hq).2, fun x hx => ⟨hp x hx, ?_⟩⟩
      obtain ⟨j, hj, rfl⟩ := List.getElem_of_mem hx
      have := (h j (Nat.zero_le _) hj).1
      rwa [List.getD_eq_getElem?_getD, List.getElem?_eq_getElem hj] at this
    · rintro ⟨h1, h2⟩ q _ hq
      refine ⟨?_, h1 q hq⟩
      rw [List.getD_eq_getElem?_getD, List.getElem?_eq_getElem hq]
      exact (h2 _ (List.getElem_mem hq)).2
  subst this
  refine ⟨k, ?_⟩
  unfold smithyref25_Once.f
  rw [if_pos (by omega), if_pos (by rw [Int.toNat_natCast]; omega), Int.toNat_natCast]
  exact hk
end
/-! ### Holds -/
section
variable {l : List S40} {h : List S43} {regs : Int}
theorem rd_ho' (h : List S43) (k : Nat) : rd_T43 h (k : Int) = ho h k := by unfold rd_T43 ho; rw [Int.toNat_natCast]; rfl
theorem holds_l1 (hl : l.length ≤ 1000000) (hh : h.length = l.length) {sl : List Int} {i : Nat} (hi : i < l.length) {R : Prop} (next : ∃ k b, smithyref25_Holds.l0 k l h regs sl (wrap64 ((i : Int) + 1)) = some b ∧ (b = true ↔ R)) :
    ∀ (m j : Nat), i - j ≤ m → j ≤ i → ∃ k b, smithyref25_Holds.l1 k l h regs sl i j = some b ∧ (b = true ↔ (∀ q, j ≤ q → q < i → 0 ≤ (ho h i).f0 → (ho h q).f0 = (ho h i).f0 → (ho h q).f2 ≤ (sp l i).f1 ∨ (ho h i).f2 ≤ (sp l q).f1) ∧ R) := by
  have fin : ∀ j, j ≤ i → (j = i ∨ ¬ 0 ≤ (ho h i).f0) → ∃ k b, smithyref25_Holds.l1 k l h regs sl i j = some b ∧ (b = true ↔ (∀ q, j ≤ q → q < i → 0 ≤ (ho h i).f0 → (ho h q).f0 = (ho h i).f0 → (ho h q).f2 ≤ (sp l i).f1 ∨ (ho h i).f2 ≤ (sp l q).f1) ∧ R) := by
    intro j hj hc
    obtain ⟨k, b, hk, hb⟩ := next
    refine ⟨k + 2, b, ?_, hb.trans ⟨fun h => ⟨fun q h1 h2 h3 => ?_, h⟩, fun h => h.2⟩⟩
    · by_cases c : (j : Int) < (i : Int)
      · rw [smithyref25_Holds.l1, if_pos c, if_pos (by omega), if_pos (by omega), rd_ho', decide_eq_false (by omega), smithyref25_Holds.j4, if_neg (by decide)]
        exact hk
      · rw [smithyref25_Holds.l1, if_neg c, smithyref25_Holds.j4, if_neg (by decide)]
        exact hk
    · rcases hc with hc | hc
      · omega
      · exact absurd h3 hc
  intro m
  induction m with
  | zero =>
    intro j h1 h2
    exact fin j h2 (.inl (by omega))
  | succ m ih =>
    intro j h1 h2
    by_cases c : j < i ∧ 0 ≤ (ho h i).f0
    · obtain ⟨c, c0⟩ := c
      obtain ⟨k, b, hk, hb⟩ := ih (j + 1) (by omega) (by omega)
      have step : ∀ (hok : (ho h j).f0 = (ho h i).f0 → (ho h j).f2 ≤ (sp l i).f1 ∨ (ho h i).f2 ≤ (sp l j).f1), (b = true ↔ (∀ q, j ≤ q → q < i → 0 ≤ (ho h i).f0 → (ho h q).f0 = (ho h i).f0 → (ho h q).f2 ≤ (sp l i).f1 ∨ (ho h i).f2 ≤ (sp l q).f1) ∧ R) := fun hok =>
        hb.trans ⟨fun h => ⟨fun q h3 h4 h5 h6 => by
          by_cases e : q = j
          · subst e; exact hok h6
          · exact h.1 q (by omega) h4 h5 h6, h.2⟩, fun h => ⟨fun q h3 h4 h5 h6 => h.1 q (by omega) h4 h5 h6, h.2⟩⟩
      have enter : ∀ K : Nat, smithyref25_Holds.l1 (K + 2) l h regs sl i j = (if (ho h j).f0 = (ho h i).f0 then (if (ho h j).f2 > (sp l i).f1 then (if (ho h i).f2 > (sp l j).f1 then some false else smithyref25_Holds.l1 K l h regs sl i (wrap64 ((j : Int) + 1))) else smithyref25_Holds.l1 K l h regs sl i (wrap64 ((j : Int) + 1))) else smithyref25_Holds.l1 K l h regs sl i (wrap64 ((j : Int) + 1))) := fun K => by
        rw [smithyref25_Holds.l1, if_pos (by omega), if_pos (by omega), if_pos (by omega), rd_ho', decide_eq_true (by omega), smithyref25_Holds.j4, if_pos rfl, if_pos (by omega), if_pos (by omega), if_pos (by omega), if_pos (by omega), rd_ho', rd_ho', rd_sp, rd_sp, if_pos (show (i : Int) < (l.length : Int) by omega), if_pos (show (j : Int) < (l.length : Int) by omega)]
      by_cases d1 : (ho h j).f0 = (ho h i).f0
      · by_cases d2 : (ho h j).f2 > (sp l i).f1
        · by_cases d3 : (ho h i).f2 > (sp l j).f1
          · refine ⟨2, false, ?_, ⟨fun h => (by cases h), fun h => ?_⟩⟩
            · rw [enter 0, if_pos d1, if_pos d2, if_pos d3]
            · have := h.1 j (Nat.le_refl _) c c0 d1
              omega
          · refine ⟨k + 2, b, ?_, step (fun _ => .inr (by omega))⟩
            rw [enter, if_pos d1, if_pos d2, if_neg d3, wsucc j (by omega)]; exact hk
        · refine ⟨k + 2, b, ?_, step (fun _ => .inl (by omega))⟩
          rw [enter, if_pos d1, if_neg d2, wsucc j (by omega)]; exact hk
      · refine ⟨k + 2, b, ?_, step (fun h => absurd h d1)⟩
        rw [enter, if_neg d1, wsucc j (by omega)]; exact hk
    · exact fin j h2 (by omega)
theorem holds_l0 (hl : l.length ≤ 1000000) (hh : h.length = l.length) : ∀ (m i : Nat), l.length - i ≤ m → i ≤ l.length →
    ∃ k b, smithyref25_Holds.l0 k l h regs (slotsOf (h.take i)) i = some b ∧ (b = true ↔ (∀ q, i ≤ q → q < l.length → oneB (sp l q) (ho h q) regs = true ∧ PairsR l h q) ∧ onceB (slotsOf h) = true) := by
  have hsl : ∀ i, (slotsOf (h.take i)).length ≤ 1000000 := fun i => by
    have h1 := slots_len h i
    by_cases e : i ≤ h.length
    · omega
    · rw [List.take_of_length_le (by omega)]
      have := slots_len h h.length
      rw [List.take_length] at this
      omega
  have fin : ∃ k b, smithyref25_Holds.l0 k l h regs (slotsOf (h.take l.length)) (l.length : Int) = some b ∧ (b = true ↔ (∀ q, l.length ≤ q → q < l.length → oneB (sp l q) (ho h q) regs = true ∧ PairsR l h q) ∧ onceB (slotsOf h) = true) := by
    have hs := hsl l.length
    rw [← hh, List.take_length] at hs
    obtain ⟨k, hk⟩ := once_f (s := slotsOf h) hs (fun x hx => by obtain ⟨j, _, _, hp⟩ := mem_slotsOf.1 hx; exact hp)
    refine ⟨k + 1, onceB (slotsOf h), ?_, ⟨fun hb => ⟨fun q h1 h2 => absurd h2 (by omega), hb⟩, fun hb => hb.2⟩⟩
    rw [smithyref25_Holds.l0, if_neg (by omega), ← hh, List.take_length, hk]
    rfl
  intro m
  induction m with
  | zero =>
    intro i h1 h2
    obtain rfl : i = l.length := by omega
    exact fin
  | succ m ih =>
    intro i h1 h2
    by_cases c : i < l.length
    · have e1 : (i : Int) < (l.length : Int) := by omega
      have e0 : (0 : Int) ≤ (i : Int) := by omega
      have e2 : (i : Int) < (h.length : Int) := by omega
      cases hone : oneB (sp l i) (ho h i) regs with
      | false =>
        refine ⟨2, false, ?_, ⟨fun h => (by cases h), fun h => by have := (h.1 i (Nat.le_refl _) c).1; rw [hone] at this; cases this⟩⟩
        rw [smithyref25_Holds.l0, if_pos e1, if_pos e0, if_pos e2, rd_sp, rd_ho', home_f, hone, Option.bind_some, if_neg (by decide)]
      | true =>
        obtain ⟨k, b, hk, hb⟩ := holds_l1 hl hh c (sl := slotsOf (h.take (i + 1))) (regs := regs) (by rw [wsucc i (by omega)]; exact ih (i + 1) (by omega) (by omega)) i 0 (by omega) (by omega)
        refine ⟨k + 2, b, ?_, hb.trans ⟨fun h => ⟨fun q h3 h4 => ?_, h.2.2⟩, fun h => ⟨fun q _ h4 h5 h6 => (h.1 i (Nat.le_refl _) c).2 q h4 h5 h6, fun q h3 h4 => h.1 q (by omega) h4, h.2⟩⟩⟩
        · rw [smithyref25_Holds.l0, if_pos e1, if_pos e0, if_pos e2, rd_sp, rd_ho', home_f, hone, Option.bind_some, if_pos rfl]
          rw [slotsOf_succ (by omega)] at hk
          by_cases s0 : (ho h i).f1 ≥ 0
          · rw [if_pos s0] at hk
            rw [if_pos s0, if_pos (by have := hsl i; omega), smithyref25_Holds.j2]
            exact hk
          · rw [if_neg s0, List.append_nil] at hk
            rw [if_neg s0, smithyref25_Holds.j2]
            exact hk
        · by_cases e : q = i
          · subst e
            exact ⟨hone, fun j hj hp he => h.1 j (Nat.zero_le _) hj hp he⟩
          · exact h.2.1 q (by omega) h4
    · obtain rfl : i = l.length := by omega
      exact fin
/-- the document's Holds says what the program's says. -/
theorem refHolds_f (hl : l.length ≤ 1000000) (hw : ∀ x ∈ h, wf x.f2) : ∃ k, smithyref25_Holds.f k l h regs = some (holdsB l h regs) := by
  obtain ⟨k0, hk0⟩ := may_f hl regs
  cases hm : mayB l regs with
  | false =>
    refine ⟨k0 + 1, ?_⟩
    have e0 : holdsB l h regs = false := by unfold holdsB; rw [hm]; rfl
    unfold smithyref25_Holds.f
    rw [fuel' (fun k => smithyref25_May.mono _ _ k) hk0 (by omega), Option.bind_some, hm, if_neg (by decide), smithyref25_Holds.j0, if_pos rfl, e0]
  | true =>
    by_cases hh : h.length = l.length
    · obtain ⟨k, b, hk, hb⟩ := holds_l0 (regs := regs) hl hh l.length 0 (by omega) (by omega)
      have hO : Ord l := ordB_ord (by unfold mayB at hm; simp only [Bool.and_eq_true] at hm; exact hm.2)
      have hhf : ∀ i, wf (ho h i).f2 := fun i => by
        by_cases e : i < h.length
        · rw [ho_lt e]; exact hw _ (List.getElem_mem e)
        · unfold ho
          rw [List.getD_eq_getElem?_getD, List.getElem?_eq_none (by omega)]
          exact wf_zero
      have : b = holdsB l h regs := by
        rw [Bool.eq_iff_iff, hb]
        unfold holdsB
        rw [hm, decide_eq_true hh, Bool.and_true, Bool.true_and, Bool.and_eq_true, List.all_eq_true]
        have hat : (∀ x ∈ List.range l.length, atB l h regs x = true) ↔ (∀ i, i < l.length → oneB (sp l i) (ho h i) regs = true ∧ PairsS l h i) := by
          constructor
          · intro h1 i hi
            have := h1 i (List.mem_range.2 hi)
            unfold atB at this
            rw [Bool.and_eq_true, pairB_iff] at this
            exact this
          · intro h1 i hi
            unfold atB
            rw [Bool.and_eq_true, pairB_iff]
            exact h1 i (List.mem_range.1 hi)
        rw [hat]
        have hH : ∀ i, i < l.length → (oneB (sp l i) (ho h i) regs = true ↔ Home (sp l i) (ho h i) regs) := fun i hi => oneB_iff (hO.low i hi).1 (hO.low i hi).2.1 (hhf i)
        constructor
        · rintro ⟨h1, h2⟩
          have h3 := (pairs_iff hO (fun i hi => (hH i hi).1 (h1 i (Nat.zero_le _) hi).1)).2 (fun i hi => (h1 i (Nat.zero_le _) hi).2)
          exact ⟨fun i hi => ⟨(h1 i (Nat.zero_le _) hi).1, h3 i hi⟩, h2⟩
        · rintro ⟨h1, h2⟩
          have h3 := (pairs_iff hO (fun i hi => (hH i hi).1 (h1 i hi).1)).1 (fun i hi => (h1 i hi).2)
          exact ⟨fun i _ hi => ⟨(h1 i hi).1, h3 i hi⟩, h2⟩
      subst this
      refine ⟨k0 + k + 1, ?_⟩
      unfold smithyref25_Holds.f
      rw [fuel' (fun k => smithyref25_May.mono _ _ k) hk0 (by omega), Option.bind_some, hm, if_pos rfl, smithyref25_Holds.j0, if_neg (by simp [hh])]
      exact fuel' (f := fun k => smithyref25_Holds.l0 k l h regs [] 0) (fun k => ((smithyref25_Holds.mono_l k).2.1 _ _ _ _ _)) hk (by omega)
    · refine ⟨k0 + 1, ?_⟩
      have e0 : holdsB l h regs = false := by unfold holdsB; rw [decide_eq_false hh, Bool.and_false]; rfl
      unfold smithyref25_Holds.f
      rw [fuel' (fun k => smithyref25_May.mono _ _ k) hk0 (by omega), Option.bind_some, hm, if_pos rfl, smithyref25_Holds.j0, if_pos (by simp; omega), e0]
end
end Go.Proofs.Ytcmbpboeilojmaa.Sw
