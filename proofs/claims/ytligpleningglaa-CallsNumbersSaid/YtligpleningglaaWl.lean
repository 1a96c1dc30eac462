/- What the walker's memory holds, out of the machine told plainly; bounds. -/
import Derived.Test.YtligpleningglaaWm
namespace Go.Proofs.Ytligpleningglaa.Cw
open Go Go.RowKit Go.Proofs.Ytligpleningglaa.Tarjan
set_option linter.unusedVariables false
set_option linter.unusedSimpArgs false
def mm (s : T) (rv wv pv : Value) (ps : List Value) : Mm := ⟨s.wh, s.lo, fun j => decide (j ∈ s.row), s.n, s.row, s.way, s.parts, rv, wv, pv, ps⟩
theorem on_meet (row : List Nat) (i : Nat) : upO (fun j => decide (j ∈ row)) i true = fun j => decide (j ∈ row ++ [i]) := by
  funext j
  unfold upO
  by_cases e : j = i
  · subst e; simp
  · simp [e]
/-- nodes that are on no row any more. -/
def clr (on : Nat → Bool) (l : List Nat) : Nat → Bool := fun j => if j ∈ l then false else on j
theorem clr_nil (on : Nat → Bool) : clr on [] = on := by funext j; simp [clr]
theorem clr_next (on : Nat → Bool) (l : List Nat) (t : Nat) (ht : t < l.length) : upO (clr on (l.take t)) l[t] false = clr on (l.take (t + 1)) := by
  funext j
  unfold upO clr
  have hm : j ∈ l.take (t + 1) ↔ j ∈ l.take t ∨ j = l[t] := by
    rw [List.take_succ_eq_append_getElem ht, List.mem_append, List.mem_singleton]
  by_cases e : j = l[t]
  · rw [if_pos e, if_pos (hm.2 (.inr e))]
  · rw [if_neg e]
    by_cases h : j ∈ l.take t
    · rw [if_pos h, if_pos (hm.2 (.inl h))]
    · rw [if_neg h, if_neg (fun h' => (hm.1 h').elim h e)]
section
variable {nx : Nat → List Nat} {N : Nat} {s : T}
theorem Inv.row_nodup (I : Inv nx N s) : s.row.Nodup := I.rw_.imp (fun h e => by subst e; omega)
theorem Inv.row_lt (I : Inv nx N s) {v : Nat} (h : v ∈ s.row) : v < N := I.dom v ((I.met v).2 (.inl h))
/-- where a node stands on the row. -/
def idx (s : T) (v : Nat) : Nat := (s.row.takeWhile (fun j => j != v)).length
theorem idx_split (I : Inv nx N s) {v : Nat} (hv : v ∈ s.row) : idx s v < s.row.length ∧ s.row[idx s v]? = some v ∧ (∀ j, j < s.row.length → j ≠ idx s v → s.row[j]? ≠ some v) ∧ s.row.take (idx s v) = s.row.takeWhile (fun j => j != v) ∧ s.row.drop (idx s v) = s.row.dropWhile (fun j => j != v) := by
  have ht : s.row.takeWhile (fun j => j != v) ++ s.row.dropWhile (fun j => j != v) = s.row := List.takeWhile_append_dropWhile
  have h1 : s.row.take (idx s v) = s.row.takeWhile (fun j => j != v) := by
    have := congrArg (List.take (idx s v)) ht
    unfold idx at this ⊢
    rw [List.take_left] at this
    exact this.symm
  have h2 : s.row.drop (idx s v) = s.row.dropWhile (fun j => j != v) := by
    have := congrArg (List.drop (idx s v)) ht
    unfold idx at this ⊢
    rw [List.drop_left] at this
    exact this.symm
  have h3 : ∃ B, s.row.dropWhile (fun j => j != v) = v :: B := by
    cases hd : s.row.dropWhile (fun j => j != v) with
    | nil =>
      rw [hd, List.append_nil] at ht
      rw [← ht] at hv
      have : ∀ l : List Nat, v ∉ l.takeWhile (fun j => j != v) := by
        intro l
        induction l with
        | nil => simp
        | cons a l ih =>
          rw [List.takeWhile_cons]
          by_cases e : a = v
          · subst e; simp
          · have : (a != v) = true := by simpa using e
            rw [if_pos this, List.mem_cons]
            rintro (h | h)
            · exact e h.symm
            · exact ih h
      exact absurd hv (this _)
    | cons x B =>
      have : ∀ l : List Nat, l.dropWhile (fun j => j != v) = x :: B → x = v := by
        intro l
        induction l with
        | nil => intro h; cases h
        | cons a l ih =>
          intro h
          rw [List.dropWhile_cons] at h
          by_cases e : a = v
          · have : (a != v) = false := by simpa using e
            rw [this] at h
            simp at h
            rw [← h.1]; exact e
          · have : (a != v) = true := by simpa using e
            rw [if_pos this] at h
            exact ih h
      exact ⟨B, by rw [this _ hd]⟩
  obtain ⟨B, hB⟩ := h3
  have hlt : idx s v < s.row.length := by
    have := congrArg List.length ht
    rw [List.length_append, hB, List.length_cons] at this
    unfold idx; omega
  have hat : s.row[idx s v]? = some v := by
    have := congrArg List.head? h2
    rw [hB, List.head?_drop] at this
    exact this
  refine ⟨hlt, hat, fun j hj hne he => ?_, h1, h2⟩
  have hn := Inv.row_nodup I
  rw [List.getElem?_eq_getElem hj] at he
  rw [List.getElem?_eq_getElem hlt] at hat
  injection he with he; injection hat with hat
  have hp := List.pairwise_iff_getElem.1 hn
  rcases Nat.lt_trichotomy j (idx s v) with h | h | h
  · exact hp j _ hj hlt h (he.trans hat.symm)
  · exact hne h
  · exact hp _ j hlt hj h (hat.trans he.symm)
theorem on_leave (I : Inv nx N s) {v : Nat} (hv : v ∈ s.row) {cmp : List Nat → List Nat} (hcm : ∀ l x, x ∈ cmp l ↔ x ∈ l) : clr (fun j => decide (j ∈ s.row)) (cmp (s.row.dropWhile (fun j => j != v))) = fun j => decide (j ∈ s.row.takeWhile (fun j => j != v)) := by
  funext j
  unfold clr
  have ht : s.row.takeWhile (fun j => j != v) ++ s.row.dropWhile (fun j => j != v) = s.row := List.takeWhile_append_dropWhile
  have hn := Inv.row_nodup I
  rw [← ht] at hn
  have hdis := (List.nodup_append.1 hn).2.2
  have hmem : j ∈ s.row ↔ j ∈ s.row.takeWhile (fun j => j != v) ∨ j ∈ s.row.dropWhile (fun j => j != v) := by
    have := List.mem_append (a := j) (s := s.row.takeWhile (fun j => j != v)) (t := s.row.dropWhile (fun j => j != v))
    rw [ht] at this; exact this
  by_cases h : j ∈ s.row.dropWhile (fun j => j != v)
  · rw [if_pos ((hcm _ _).2 h)]
    have : j ∉ s.row.takeWhile (fun j => j != v) := fun h' => hdis j h' j h rfl
    simp [this]
  · rw [if_neg (fun h' => h ((hcm _ _).1 h'))]
    by_cases h2 : j ∈ s.row.takeWhile (fun j => j != v)
    · have := hmem.2 (.inl h2); simp [h2, this]
    · have : j ∉ s.row := fun h3 => (hmem.1 h3).elim h2 h
      simp [h2, this]
/-- bounds of what the machine makes. -/
structure Bd (N : Nat) (s : T) : Prop where
  n : s.n + cnt N (metB s) = N
  r : s.parts.length + s.row.length ≤ s.n
  w : s.way.length ≤ s.n
theorem Bd.le (h : Bd N s) : s.n ≤ N := by have := h.n; omega
theorem Bd.meet (h : Bd N s) {i : Nat} (hi : i < N) (hm : s.wh i = 0) : Bd N (meetP i s) := by
  have hb : metB s i = false := by simp [metB, hm]
  have hc := cnt_up hi hb
  refine ⟨?_, ?_, ?_⟩
  · rw [metB_meet]; have := h.n; show s.n + 1 + _ = N; omega
  · show s.parts.length + (s.row ++ [i]).length ≤ s.n + 1
    have := h.r; simp; omega
  · show ((i, 0) :: s.way).length ≤ s.n + 1
    have := h.w; simp; omega
theorem Bd.lt (h : Bd N s) {i : Nat} (hi : i < N) (hm : s.wh i = 0) : s.n < N := by
  have hb : metB s i = false := by simp [metB, hm]
  have hc := cnt_up hi hb
  have := h.n
  omega
theorem Bd.adv (h : Bd N s) {v k : Nat} {r : List (Nat × Nat)} (hw : s.way = (v, k) :: r) (lo : Nat → Nat) : Bd N { adv v k r s with lo := lo } :=
  ⟨h.n, h.r, by have := h.w; rw [hw] at this; exact this⟩
theorem Bd.leave (h : Bd N s) (I : Inv nx N s) {cmp : List Nat → List Nat} {v k : Nat} {r : List (Nat × Nat)} (hw : s.way = (v, k) :: r) : Bd N (leaveP cmp v s) := by
  have hvr : v ∈ s.row := I.gr ⟨k, by rw [hw]; exact List.mem_cons_self⟩
  have h3 : s.way.tail.length ≤ s.n := by have := h.w; rw [hw] at this ⊢; simp at this ⊢; omega
  unfold leaveP
  split
  · exact ⟨h.n, h.r, h3⟩
  · refine ⟨h.n, ?_, h3⟩
    show (s.parts ++ [_]).length + (s.row.takeWhile (fun j => j != v)).length ≤ s.n
    have h1 := (idx_split I hvr).1
    unfold idx at h1
    have := h.r
    simp; omega
theorem Bd.round (h : Bd N s) (I : Inv nx N s) {cmp : List Nat → List Nat} (hnx : ∀ v, ∀ x ∈ nx v, x < N) : Bd N (roundP cmp nx s) := by
  unfold roundP
  cases hw : s.way with
  | nil => exact h
  | cons q r =>
    obtain ⟨v, k⟩ := q
    show Bd N (if k = (nx v).length then leaveP cmp v s else if s.wh ((nx v).getD k 0) = 0 then meetP ((nx v).getD k 0) (Tarjan.adv v k r s) else if (nx v).getD k 0 ∈ s.row then { Tarjan.adv v k r s with lo := _ } else Tarjan.adv v k r s)
    have hk' : k ≤ (nx v).length := (I.wr (v, k) (by rw [hw]; exact List.mem_cons_self)).2
    by_cases hk : k = (nx v).length
    · rw [if_pos hk]; exact h.leave I hw
    · rw [if_neg hk]
      have hto : (nx v).getD k 0 < N := by
        have hkl : k < (nx v).length := by omega
        rw [List.getD_eq_getElem?_getD, List.getElem?_eq_getElem hkl]
        exact hnx v _ (List.getElem_mem hkl)
      split
      · rename_i hm
        exact (h.adv hw s.lo).meet hto hm
      · split
        · exact h.adv hw _
        · exact h.adv hw s.lo
theorem Bd.iter {cmp : List Nat → List Nat} (hcm : ∀ l x, x ∈ cmp l ↔ x ∈ l) (hnx : ∀ v, ∀ x ∈ nx v, x < N) : ∀ (m : Nat) (s : T), Inv nx N s → Bd N s → Bd N (iterP cmp nx m s) := by
  intro m
  induction m with
  | zero => intro s _ h; exact h
  | succ m ih =>
    intro s I h
    unfold iterP
    split
    · exact h
    · exact ih _ (round_inv hcm hnx I) (h.round I hnx)
theorem Bd.start : Bd N startP := ⟨by
  show 0 + cnt N (metB startP) = N
  have : metB startP = fun _ => false := by funext v; simp [metB, startP]
  rw [this]; unfold cnt; simp, Nat.le_refl _, Nat.le_refl _⟩
theorem Bd.upto {cmp : List Nat → List Nat} (hcm : ∀ l x, x ∈ cmp l ↔ x ∈ l) (hnx : ∀ v, ∀ x ∈ nx v, x < N) : ∀ i, i ≤ N → Bd N (uptoP cmp nx N i) := by
  intro i
  induction i with
  | zero => intro _; exact Bd.start
  | succ i ih =>
    intro hi
    obtain ⟨I, hw, _⟩ := upto_ok hcm hnx i (by omega)
    rw [uptoP_succ]
    unfold fromP
    split
    · rename_i hm
      exact Bd.iter hcm hnx _ _ (start_inv I hw (row_nil I hw) (i := i) (by omega) hm) ((ih (by omega)).meet (by omega) hm)
    · exact ih (by omega)
/-- the machine's end, told by rounds. -/
def finP (cmp : List Nat → List Nat) (nx : Nat → List Nat) (N : Nat) (s : T) : T := iterP cmp nx (total nx N s) s
theorem iter_stable {cmp : List Nat → List Nat} (hcm : ∀ l x, x ∈ cmp l ↔ x ∈ l) (hnx : ∀ v, ∀ x ∈ nx v, x < N) : ∀ (m m' : Nat) (s : T), Inv nx N s → total nx N s ≤ m → total nx N s ≤ m' → iterP cmp nx m s = iterP cmp nx m' s := by
  have hz : ∀ (m : Nat) (s : T), Inv nx N s → s.way = [] → iterP cmp nx m s = s := by
    intro m s I h
    cases m with
    | zero => rfl
    | succ m => unfold iterP; rw [h]; rfl
  intro m
  induction m with
  | zero =>
    intro m' s I h _
    have hw : s.way = [] := by
      cases hw : s.way with
      | nil => rfl
      | cons p r => have := round_lt (cmp := cmp) I (by rw [hw]; simp); omega
    rw [hz 0 s I hw, hz m' s I hw]
  | succ m ih =>
    intro m' s I h h'
    cases hw : s.way with
    | nil => rw [hz _ s I hw, hz m' s I hw]
    | cons p r =>
      have hlt := round_lt (cmp := cmp) I (by rw [hw]; simp)
      cases m' with
      | zero => omega
      | succ m' =>
        unfold iterP
        rw [hw]
        simp only [List.isEmpty_cons, Bool.false_eq_true, if_false]
        exact ih m' _ (round_inv hcm hnx I) (by omega) (by omega)
theorem fin_round {cmp : List Nat → List Nat} (hcm : ∀ l x, x ∈ cmp l ↔ x ∈ l) (hnx : ∀ v, ∀ x ∈ nx v, x < N) (I : Inv nx N s) (hw : s.way ≠ []) : finP cmp nx N (roundP cmp nx s) = finP cmp nx N s := by
  have hlt := round_lt (cmp := cmp) I hw
  obtain ⟨t, ht⟩ : ∃ t, total nx N s = t + 1 := ⟨total nx N s - 1, by omega⟩
  unfold finP
  rw [ht]
  have e : iterP cmp nx (t + 1) s = iterP cmp nx t (roundP cmp nx s) := by
    show (if s.way.isEmpty then s else iterP cmp nx t (roundP cmp nx s)) = _
    cases hw' : s.way with
    | nil => exact absurd hw' hw
    | cons p r => rfl
  rw [e]
  exact iter_stable hcm hnx _ t _ (round_inv hcm hnx I) (Nat.le_refl _) (by omega)
theorem fin_end {cmp : List Nat → List Nat} (hw : s.way = []) : finP cmp nx N s = s := by
  unfold finP
  cases total nx N s with
  | zero => rfl
  | succ m => unfold iterP; rw [hw]; rfl
theorem fin_from {cmp : List Nat → List Nat} (i : Nat) (hm : s.wh i = 0) : fromP cmp nx N i s = finP cmp nx N (meetP i s) := by
  unfold fromP walkP finP; rw [if_pos hm]
end
end Go.Proofs.Ytligpleningglaa.Cw
