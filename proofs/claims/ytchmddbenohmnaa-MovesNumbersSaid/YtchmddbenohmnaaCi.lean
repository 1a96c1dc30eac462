/- Circles of moves, told plainly: what the document counts is there just if the row of moves meets a circle, and no more circles are gone round than are counted. No walk. -/
import Derived.Test.YtchmddbenohmnaaMvD
namespace Go.Proofs.Ytchmddbenohmnaa.Mv
open Go Go.RowKit Go.Proofs.YtchmddbenohmnaaW.PrintWords Go.Proofs.Ytchmddbenohmnaa.Mi Go.Proofs.Ytchmddbenohmnaa.F
set_option linter.unusedVariables false
set_option linter.unusedSimpArgs false

/-! ### what a place is moved from -/
def frm : List S43 → Int → Option Int
  | [], _ => none
  | m :: l, p => if m.f0 = p then some m.f1 else frm l p
theorem frm_mem {l : List S43} (hn : nod l) {m : S43} (hm : m ∈ l) : frm l m.f0 = some m.f1 := by
  induction l with
  | nil => cases hm
  | cons a r ih =>
    unfold nod at hn
    rw [List.map_cons, List.nodup_cons] at hn
    rw [frm]
    rcases List.mem_cons.1 hm with rfl | hm
    · rw [if_pos rfl]
    · rw [if_neg (fun e => hn.1 (List.mem_map.2 ⟨m, hm, e.symm⟩))]
      exact ih hn.2 hm
theorem frm_some {l : List S43} {p q : Int} (h : frm l p = some q) : ∃ m ∈ l, m.f0 = p ∧ m.f1 = q := by
  induction l with
  | nil => cases h
  | cons a r ih =>
    rw [frm] at h
    by_cases e : a.f0 = p
    · rw [if_pos e] at h; injection h with h; exact ⟨a, List.mem_cons_self, e, h⟩
    · rw [if_neg e] at h
      obtain ⟨m, hm, h⟩ := ih h
      exact ⟨m, List.mem_cons_of_mem _ hm, h⟩
theorem frm_none {l : List S43} {p : Int} : frm l p = none ↔ ∀ m ∈ l, m.f0 ≠ p := by
  induction l with
  | nil => simp [frm]
  | cons a r ih =>
    rw [frm]
    by_cases e : a.f0 = p
    · rw [if_pos e]; constructor
      · intro h; cases h
      · intro h; exact absurd e (h a List.mem_cons_self)
    · rw [if_neg e, ih]; constructor
      · intro h m hm; rcases List.mem_cons.1 hm with rfl | hm
        · exact e
        · exact h m hm
      · intro h m hm; exact h m (List.mem_cons_of_mem _ hm)
def frmV (l : List S43) (p : Int) : Int × Bool := match frm l p with | some q => (q, true) | none => (0, false)

theorem wrap_nat {i : Nat} (h : i < 100000000) : wrap64 ((i : Int) + 1) = ((i + 1 : Nat) : Int) := by rw [wrap64_small (by omega) (by omega)]; omega
theorem rd_nat43 {l : List S43} {i : Nat} (h : i < l.length) : rd_T43 l (i : Int) = l[i] := rd_eq h

theorem from_go (l : List S43) (hl : l.length ≤ 10000000) (p : Int) : ∀ (d i k : Nat), i ≤ l.length → l.length - i = d → d < k → smithyref22_from.l0 k l p (i : Int) = some (frmV (l.drop i) p) := by
  intro d
  induction d with
  | zero =>
    intro i k hi hd hk
    obtain ⟨k, rfl⟩ : ∃ m, k = m + 1 := ⟨k - 1, by omega⟩
    rw [smithyref22_from.l0, if_neg (by omega), List.drop_eq_nil_of_le (by omega)]
    rfl
  | succ d ih =>
    intro i k hi hd hk
    obtain ⟨k, rfl⟩ : ∃ m, k = m + 1 := ⟨k - 1, by omega⟩
    have hil : i < l.length := by omega
    rw [smithyref22_from.l0, if_pos (by omega), if_pos (by omega), rd_nat43 hil, List.drop_eq_getElem_cons hil]
    unfold frmV
    rw [frm]
    by_cases e : l[i].f0 = p
    · rw [if_pos e, if_pos e]
    · rw [if_neg e, if_neg e, wrap_nat (by omega), ih (i + 1) k (by omega) (by omega) (by omega)]
      rfl
theorem from_some {l : List S43} (hl : l.length ≤ 10000000) (p : Int) {k : Nat} (hk : l.length < k) : smithyref22_from.f k l p = some (frmV l p) := by
  unfold smithyref22_from.f
  have := from_go l hl p l.length 0 k (Nat.zero_le _) rfl hk
  rwa [List.drop_zero] at this

/-! ### the document's look at one move -/
def loopC (l : List S43) (p0 : Int) : Nat → Int → Bool → Bool → Bool
  | 0, at_, ok, le => ok && (le && decide (at_ = p0))
  | n + 1, at_, ok, le => if ok = true then (if at_ = p0 then le else loopC l p0 n (frmV l at_).1 (frmV l at_).2 (le && decide (at_ > p0))) else false
def counted (l : List S43) (m : S43) : Bool := loopC l m.f0 (l.length + 1) m.f1 (m.f1 != m.f0) true
def circ (l : List S43) : Nat := l.countP (counted l)

theorem circ_walk (l : List S43) (hl : l.length ≤ 10000000) (c : Int) (i : Nat) (hi : i < l.length) : ∀ (n x : Nat) (at_ : Int) (ok le : Bool) (k : Nat), x + n = l.length + 1 → n + l.length + 2 < k →
    ∃ k', k' < k ∧ k ≤ k' + n + 2 ∧ smithyref22_Circles.l1 k l c (i : Int) at_ ok le (x : Int) = if loopC l l[i].f0 n at_ ok le = true then smithyref22_Circles.l0 k' l (wrap64 (c + 1)) (wrap64 ((i : Int) + 1)) else smithyref22_Circles.l0 k' l c (wrap64 ((i : Int) + 1)) := by
  intro n
  induction n with
  | zero =>
    intro x at_ ok le k hx hk
    obtain ⟨k, rfl⟩ : ∃ m, k = m + 1 := ⟨k - 1, by omega⟩
    refine ⟨k, by omega, by omega, ?_⟩
    rw [smithyref22_Circles.l1, if_neg (by omega), rd_nat43 hi]
    unfold loopC
    cases ok with
    | false => simp
    | true =>
      cases le with
      | false => simp
      | true =>
        rw [if_pos rfl, if_pos rfl, if_pos (by omega), if_pos (by omega)]
        by_cases e : at_ = l[i].f0
        · rw [if_pos e]; simp [e]
        · rw [if_neg e]; simp [e]
  | succ n ih =>
    intro x at_ ok le k hx hk
    obtain ⟨k, rfl⟩ : ∃ m, k = m + 1 := ⟨k - 1, by omega⟩
    rw [smithyref22_Circles.l1, if_pos (by omega), rd_nat43 hi]
    unfold loopC
    cases ok with
    | false => exact ⟨k, by omega, by omega, by simp⟩
    | true =>
      rw [if_pos rfl, if_pos (by omega), if_pos (by omega)]
      simp only [if_true]
      by_cases e : at_ = l[i].f0
      · rw [if_pos e, if_pos e]
        exact ⟨k, by omega, by omega, by cases le <;> simp⟩
      · rw [if_neg e, if_neg e]
        have hf := from_some hl at_ (k := k) (by omega)
        cases le with
        | true =>
          rw [if_pos rfl, hf, Option.bind_some, wrap_nat (by omega)]
          obtain ⟨k', a1, a2, a3⟩ := ih (x + 1) (frmV l at_).1 (frmV l at_).2 (decide (at_ > l[i].f0)) k (by omega) (by omega)
          exact ⟨k', by omega, by omega, by rw [a3, Bool.true_and]⟩
        | false =>
          rw [if_neg (by simp), hf, Option.bind_some, wrap_nat (by omega)]
          obtain ⟨k', a1, a2, a3⟩ := ih (x + 1) (frmV l at_).1 (frmV l at_).2 false k (by omega) (by omega)
          exact ⟨k', by omega, by omega, by rw [a3, Bool.false_and]⟩

theorem circ_go (l : List S43) (hl : l.length ≤ 1000000) : ∀ (d i c k : Nat), i ≤ l.length → l.length - i = d → c + d ≤ 1000000 → d * (l.length + 5) + l.length + 6 < k → smithyref22_Circles.l0 k l (c : Int) (i : Int) = some ((c + (l.drop i).countP (counted l) : Nat) : Int) := by
  intro d
  induction d with
  | zero =>
    intro i c k hi hd hc hk
    obtain ⟨k, rfl⟩ : ∃ m, k = m + 1 := ⟨k - 1, by omega⟩
    rw [smithyref22_Circles.l0, if_neg (by omega), List.drop_eq_nil_of_le (by omega)]
    simp
  | succ d ih =>
    intro i c k hi hd hc hk
    obtain ⟨k, rfl⟩ : ∃ m, k = m + 1 := ⟨k - 1, by omega⟩
    have hil : i < l.length := by omega
    rw [Nat.succ_mul] at hk
    rw [smithyref22_Circles.l0, if_pos (by omega), if_pos (by omega), rd_nat43 hil]
    obtain ⟨k', a1, a2, a3⟩ := circ_walk l (by omega) (c : Int) i hil (l.length + 1) 0 l[i].f1 (l[i].f1 != l[i].f0) true k (by omega) (by omega)
    rw [show ((0 : Nat) : Int) = 0 from rfl] at a3
    rw [a3, wrap_nat (by omega), wrap_nat (by omega), List.drop_eq_getElem_cons hil, List.countP_cons]
    have h1 := ih (i + 1) (c + 1) k' (by omega) (by omega) (by omega) (by omega)
    have h2 := ih (i + 1) c k' (by omega) (by omega) (by omega) (by omega)
    rw [h1, h2]
    show (if counted l l[i] = true then _ else _) = _
    by_cases e : counted l l[i] = true
    · simp only [e, if_true]; congr 1; omega
    · simp only [e, if_false]; congr 1
theorem circ_some {l : List S43} (hl : l.length ≤ 1000000) {k : Nat} (hk : l.length * (l.length + 5) + l.length + 6 < k) : smithyref22_Circles.f k l = some (circ l : Int) := by
  unfold smithyref22_Circles.f
  have := circ_go l hl l.length 0 0 k (Nat.zero_le _) rfl (by omega) hk
  rw [List.drop_zero, Nat.zero_add] at this
  exact this

/-! ### a ring has a place that is counted -/
section
variable {l : List S43} {fr : Int → Option Int}
theorem sub_val (hn : nod l) (hs : ∀ p q, fr p = some q → ∃ m ∈ l, m.f0 = p ∧ m.f1 = q ∧ p ≠ q) : ∀ m ∈ pend l fr, fr m.f0 = some m.f1 := by
  intro m hm
  obtain ⟨h1, h2⟩ := List.mem_filter.1 hm
  have h3 := some_of_mhas h2
  obtain ⟨m', hm', e1, e2, _⟩ := hs _ _ h3
  have := nod_uniq hn hm' h1 e1
  subst this
  rw [h3, e2]
theorem pend_mem (hs : ∀ p q, fr p = some q → ∃ m ∈ l, m.f0 = p ∧ m.f1 = q ∧ p ≠ q) (p : Int) : p ∈ (pend l fr).map (·.f0) ↔ mhas fr p = true := by
  rw [List.mem_map]
  constructor
  · rintro ⟨m, hm, rfl⟩; exact (List.mem_filter.1 hm).2
  · intro hp
    obtain ⟨m, hm, e1, _⟩ := hs _ _ (some_of_mhas hp)
    exact ⟨m, List.mem_filter.2 ⟨hm, by rw [e1]; exact hp⟩, e1⟩
theorem ring_pred (hn : nod l) (hs : ∀ p q, fr p = some q → ∃ m ∈ l, m.f0 = p ∧ m.f1 = q ∧ p ≠ q) (hR : Ring fr) : ∀ p, mhas fr p = true → ∃ p', fr p' = some p := by
  intro p hp
  have hval := sub_val hn hs
  have hnd1 : ((pend l fr).map (·.f1)).Nodup := by
    have hnd0 : ((pend l fr).map (·.f0)).Nodup := List.Sublist.nodup (List.Sublist.map _ List.filter_sublist) hn
    have : ∀ L : List S43, (∀ m ∈ L, fr m.f0 = some m.f1) → (L.map (·.f0)).Nodup → (L.map (·.f1)).Nodup := by
      intro L
      induction L with
      | nil => intro _ _; simp
      | cons a r ih2 =>
        intro h1 h2
        rw [List.map_cons, List.nodup_cons] at h2 ⊢
        refine ⟨?_, ih2 (fun m hm => h1 m (List.mem_cons_of_mem _ hm)) h2.2⟩
        intro hx
        obtain ⟨b, hb, eb⟩ := List.mem_map.1 hx
        have := hR.inj a.f0 b.f0 a.f1 (h1 a List.mem_cons_self) (by rw [h1 b (List.mem_cons_of_mem _ hb)]; rw [show b.f1 = a.f1 from eb])
        exact h2.1 (List.mem_map.2 ⟨b, hb, this.symm⟩)
    exact this _ hval hnd0
  have hsub : ∀ x ∈ (pend l fr).map (·.f1), x ∈ (pend l fr).map (·.f0) := by
    intro x hx
    obtain ⟨m, hm, rfl⟩ := List.mem_map.1 hx
    exact (pend_mem hs _).2 (hR.clo _ _ (hval m hm))
  have hperm := perm_of_subset hnd1 hsub (by simp)
  obtain ⟨m, hm, e⟩ := List.mem_map.1 (hperm.mem_iff.1 ((pend_mem hs p).2 hp))
  exact ⟨m.f0, by rw [hval m hm]; rw [show m.f1 = p from e]⟩

theorem least_of : ∀ L : List S43, L ≠ [] → ∃ m ∈ L, ∀ m' ∈ L, m.f0 ≤ m'.f0 := by
  intro L
  induction L with
  | nil => intro h; exact absurd rfl h
  | cons a r ih =>
    intro _
    cases r with
    | nil => exact ⟨a, List.mem_cons_self, fun m' hm' => by rw [List.mem_singleton] at hm'; subst hm'; exact Int.le_refl _⟩
    | cons b r =>
      obtain ⟨m, hm, h⟩ := ih (by simp)
      by_cases e : a.f0 ≤ m.f0
      · refine ⟨a, List.mem_cons_self, fun m' hm' => ?_⟩
        rcases List.mem_cons.1 hm' with rfl | hm'
        · exact Int.le_refl _
        · exact Int.le_trans e (h m' hm')
      · refine ⟨m, List.mem_cons_of_mem _ hm, fun m' hm' => ?_⟩
        rcases List.mem_cons.1 hm' with rfl | hm'
        · omega
        · exact h m' hm'

/-- the places behind one, along a list of moves. -/
def it (l : List S43) (p : Int) : Nat → Int
  | 0 => p
  | n + 1 => (frmV l (it l p n)).1

theorem frmV_some {p q : Int} (h : frm l p = some q) : frmV l p = (q, true) := by unfold frmV; rw [h]
theorem ring_frm (hn : nod l) (hs : ∀ p q, fr p = some q → ∃ m ∈ l, m.f0 = p ∧ m.f1 = q ∧ p ≠ q) {p q : Int} (h : fr p = some q) : frm l p = some q := by
  obtain ⟨m, hm, e1, e2, _⟩ := hs _ _ h
  rw [← e1, ← e2]; exact frm_mem hn hm
theorem it_ring (hn : nod l) (hs : ∀ p q, fr p = some q → ∃ m ∈ l, m.f0 = p ∧ m.f1 = q ∧ p ≠ q) (hR : Ring fr) {p : Int} (hp : mhas fr p = true) : ∀ n, mhas fr (it l p n) = true ∧ fr (it l p n) = some (it l p (n + 1)) := by
  have step : ∀ x, mhas fr x = true → fr x = some (frmV l x).1 := by
    intro x hx
    have h1 := some_of_mhas hx
    rw [frmV_some (ring_frm hn hs h1)]; exact h1
  intro n
  induction n with
  | zero => exact ⟨hp, step _ hp⟩
  | succ n ih =>
    have h1 := hR.clo _ _ ih.2
    exact ⟨h1, step _ h1⟩
theorem it_back (hn : nod l) (hs : ∀ p q, fr p = some q → ∃ m ∈ l, m.f0 = p ∧ m.f1 = q ∧ p ≠ q) (hR : Ring fr) {p : Int} (hp : mhas fr p = true) : ∃ n, 0 < n ∧ n ≤ l.length ∧ it l p n = p := by
  apply Classical.byContradiction
  intro hno
  have hne : ∀ n, 0 < n → n ≤ l.length → it l p n ≠ p := fun n h1 h2 e => hno ⟨n, h1, h2, e⟩
  have hinj : ∀ i j, i < j → j ≤ l.length → it l p i ≠ it l p j := by
    intro i
    induction i with
    | zero => intro j h1 h2 e; exact hne j h1 h2 e.symm
    | succ i ih =>
      intro j h1 h2 e
      obtain ⟨j, rfl⟩ : ∃ m, j = m + 1 := ⟨j - 1, by omega⟩
      refine ih j (by omega) (by omega) ?_
      have a1 := (it_ring hn hs hR hp i).2
      have a2 := (it_ring hn hs hR hp j).2
      rw [← e] at a2
      exact hR.inj _ _ _ a1 a2
  have hnd : ((List.range (l.length + 1)).map (it l p)).Nodup := by
    unfold List.Nodup
    rw [List.pairwise_iff_getElem]
    intro i j hi hj hij
    rw [List.length_map, List.length_range] at hj
    rw [List.getElem_map, List.getElem_map, List.getElem_range, List.getElem_range]
    exact hinj i j hij (by omega)
  have hsub : ∀ x ∈ (List.range (l.length + 1)).map (it l p), x ∈ (pend l fr).map (·.f0) := by
    intro x hx
    obtain ⟨n, _, rfl⟩ := List.mem_map.1 hx
    exact (pend_mem hs _).2 (it_ring hn hs hR hp n).1
  have h1 := length_le_of_subset hnd hsub
  rw [List.length_map, List.length_range, List.length_map] at h1
  have h2 : (pend l fr).length ≤ l.length := List.length_filter_le _ _
  omega
theorem ring_counted (hn : nod l) (hs : ∀ p q, fr p = some q → ∃ m ∈ l, m.f0 = p ∧ m.f1 = q ∧ p ≠ q) (hR : Ring fr) (hne : ∃ p, mhas fr p = true) : ∃ m ∈ l, counted l m = true ∧ mhas fr m.f0 = true := by
  obtain ⟨p0, hp0⟩ := hne
  have hne : pend l fr ≠ [] := by
    intro e
    have := (pend_mem hs p0).2 hp0
    rw [e] at this; cases this
  obtain ⟨m, hm, hle⟩ := least_of _ hne
  have hval := sub_val hn hs m hm
  obtain ⟨hml, hmh⟩ := List.mem_filter.1 hm
  have hle' : ∀ x, mhas fr x = true → m.f0 ≤ x := by
    intro x hx
    obtain ⟨m', hm', e⟩ := List.mem_map.1 ((pend_mem hs x).2 hx)
    have := hle m' hm'
    rw [show m'.f0 = x from e] at this; exact this
  have hpq : m.f0 ≠ m.f1 := by
    obtain ⟨_, _, e1, e2, e3⟩ := hs _ _ hval
    exact e3
  obtain ⟨N, hN0, hN, hback⟩ := it_back hn hs hR hmh
  refine ⟨m, hml, ?_, hmh⟩
  unfold counted
  have e1 : (m.f1 != m.f0) = true := by simpa using fun e => hpq e.symm
  rw [e1]
  have key : ∀ d j r, j + d = N → 0 < j → d ≤ r → loopC l m.f0 r (it l m.f0 j) true true = true := by
    intro d
    induction d with
    | zero =>
      intro j r hj h0 hr
      have : it l m.f0 j = m.f0 := by rw [show j = N by omega]; exact hback
      rw [this]
      cases r with
      | zero => simp [loopC]
      | succ r => simp [loopC]
    | succ d ih =>
      intro j r hj h0 hr
      obtain ⟨r, rfl⟩ : ∃ r', r = r' + 1 := ⟨r - 1, by omega⟩
      have hmj := it_ring hn hs hR hmh j
      rw [loopC, if_pos rfl]
      by_cases e : it l m.f0 j = m.f0
      · rw [if_pos e]
      · rw [if_neg e, frmV_some (ring_frm hn hs hmj.2)]
        have : decide (it l m.f0 j > m.f0) = true := by
          have := hle' _ hmj.1
          simp; omega
        rw [this]
        exact ih (j + 1) r (by omega) (by omega) (by omega)
  have h1 : it l m.f0 1 = m.f1 := by
    show (frmV l m.f0).1 = m.f1
    rw [frmV_some (ring_frm hn hs hval)]
  have := key (N - 1) 1 (l.length + 1) (by omega) (by omega) (by omega)
  rw [h1] at this
  exact this
end

/-! ### what is counted is in a ring -/
theorem loopC_path (l : List S43) (p0 : Int) : ∀ (n : Nat) (at_ : Int) (ok le : Bool), loopC l p0 n at_ ok le = true → ok = true ∧ ∃ N, (∀ j, j < N → frm l (it l at_ j) = some (it l at_ (j + 1)) ∧ it l at_ j ≠ p0) ∧ it l at_ N = p0 := by
  intro n
  induction n with
  | zero =>
    intro at_ ok le h
    rw [loopC, Bool.and_eq_true, Bool.and_eq_true, decide_eq_true_eq] at h
    exact ⟨h.1, 0, fun j hj => absurd hj (by omega), h.2.2⟩
  | succ n ih =>
    intro at_ ok le h
    rw [loopC] at h
    by_cases e : ok = true
    · rw [if_pos e] at h
      refine ⟨e, ?_⟩
      by_cases e2 : at_ = p0
      · exact ⟨0, fun j hj => absurd hj (by omega), e2⟩
      · rw [if_neg e2] at h
        obtain ⟨h1, N, h2, h3⟩ := ih _ _ _ h
        have hf : frm l at_ = some (frmV l at_).1 := by
          unfold frmV at h1 ⊢
          cases hq : frm l at_ with
          | none => rw [hq] at h1; cases h1
          | some q => rfl
        have hit : ∀ j, it l (frmV l at_).1 j = it l at_ (j + 1) := by
          intro j
          induction j with
          | zero => rfl
          | succ j ihj => rw [it, ihj]; rfl
        refine ⟨N + 1, ?_, by rw [← hit]; exact h3⟩
        intro j hj
        cases j with
        | zero => exact ⟨hf, e2⟩
        | succ j =>
          have := h2 j (by omega)
          rw [hit, hit] at this
          exact this
    · rw [if_neg e] at h; cases h
theorem counted_rings {l : List S43} (hn : nod l) {m : S43} (hm : m ∈ l) (h : counted l m = true) : Rings l := by
  obtain ⟨h1, N, h2, h3⟩ := loopC_path _ _ _ _ _ _ h
  have hpq : m.f1 ≠ m.f0 := by simpa using h1
  have hdet : ∀ i j t, it l m.f1 i = it l m.f1 j → it l m.f1 (i + t) = it l m.f1 (j + t) := by
    intro i j t e
    induction t with
    | zero => exact e
    | succ t ih => show (frmV l (it l m.f1 (i + t))).1 = (frmV l (it l m.f1 (j + t))).1; rw [ih]
  have hdis : ∀ i j, i < j → j ≤ N → it l m.f1 i ≠ it l m.f1 j := by
    intro i j hij hj e
    have := hdet i j (N - j) e
    rw [show j + (N - j) = N by omega, h3] at this
    exact (h2 (i + (N - j)) (by omega)).2 this
  have heq : ∀ i j, i ≤ N → j ≤ N → it l m.f1 i = it l m.f1 j → i = j := by
    intro i j hi hj e
    rcases Nat.lt_trichotomy i j with h | h | h
    · exact absurd e (hdis i j h hj)
    · exact h
    · exact absurd e.symm (hdis j i h hi)
  have hfm := frm_mem hn hm
  let V : Int → Prop := fun p => ∃ j, j ≤ N ∧ it l m.f1 j = p
  have hV : ∀ p, V p → ∃ q, frm l p = some q ∧ V q ∧ p ≠ q := by
    rintro p ⟨j, hj, rfl⟩
    by_cases e : j = N
    · subst e; rw [h3]; exact ⟨m.f1, hfm, ⟨0, Nat.zero_le _, rfl⟩, fun e => hpq e.symm⟩
    · exact ⟨_, (h2 j (by omega)).1, ⟨j + 1, by omega, rfl⟩, hdis j (j + 1) (by omega) (by omega)⟩
  refine ⟨fun p => open Classical in if V p then frm l p else none, ?_, ⟨?_, ?_⟩, m.f0, ?_⟩
  · intro p q hp
    by_cases e : V p
    · simp only [e, if_true] at hp
      obtain ⟨q', hq', _, hne⟩ := hV p e
      rw [hq'] at hp; injection hp with hp; subst hp
      obtain ⟨x, hx, e1, e2⟩ := frm_some hq'
      exact ⟨x, hx, e1, e2, hne⟩
    · simp only [e, if_false] at hp; cases hp
  · intro p q hp
    by_cases e : V p
    · simp only [e, if_true] at hp
      obtain ⟨q', hq', hv, _⟩ := hV p e
      rw [hq'] at hp; injection hp with hp; subst hp
      obtain ⟨r, hr, _, _⟩ := hV _ hv
      exact mhas_iff.2 ⟨r, by simp only [hv, if_true]; exact hr⟩
    · simp only [e, if_false] at hp; cases hp
  · intro p p' q hp hp'
    by_cases e : V p
    · by_cases e' : V p'
      · simp only [e, e', if_true] at hp hp'
        obtain ⟨i, hi, rfl⟩ := e
        obtain ⟨j, hj, rfl⟩ := e'
        by_cases ei : i = N
        · by_cases ej : j = N
          · rw [ei, ej]
          · exfalso
            subst ei
            rw [h3, hfm] at hp
            rw [(h2 j (by omega)).1] at hp'
            injection hp with hp; injection hp' with hp'
            have : it l m.f1 (j + 1) = it l m.f1 0 := by rw [hp', ← hp]; rfl
            have := heq _ _ (by omega) (by omega) this
            omega
        · by_cases ej : j = N
          · exfalso
            subst ej
            rw [h3, hfm] at hp'
            rw [(h2 i (by omega)).1] at hp
            injection hp with hp; injection hp' with hp'
            have : it l m.f1 (i + 1) = it l m.f1 0 := by rw [hp, ← hp']; rfl
            have := heq _ _ (by omega) (by omega) this
            omega
          · rw [(h2 i (by omega)).1] at hp
            rw [(h2 j (by omega)).1] at hp'
            injection hp with hp; injection hp' with hp'
            have := heq (i + 1) (j + 1) (by omega) (by omega) (hp.trans hp'.symm)
            rw [show i = j by omega]
      · simp only [e', if_false] at hp'; cases hp'
    · simp only [e, if_false] at hp; cases hp
  · exact mhas_iff.2 ⟨m.f1, by have : V m.f0 := ⟨N, Nat.le_refl _, h3⟩; simp only [this, if_true]; exact hfm⟩
theorem circ_rings {l : List S43} (hn : nod l) : 0 < circ l ↔ Rings l := by
  unfold circ
  rw [List.countP_pos_iff]
  constructor
  · rintro ⟨m, hm, h⟩; exact counted_rings hn hm h
  · rintro ⟨fr, h1, h2, h3⟩
    obtain ⟨m, hm, h4, _⟩ := ring_counted hn h1 h2 h3
    exact ⟨m, hm, h4⟩

/-! ### no more circles are gone round than are counted -/
def cs (l : List S43) (fr : Int → Option Int) : Nat := l.countP (fun m => counted l m && mhas fr m.f0)
theorem countP_lt {l : List S43} {P Q : S43 → Bool} (h : ∀ m ∈ l, P m = true → Q m = true) {m : S43} (hm : m ∈ l) (h1 : Q m = true) (h2 : P m = false) : l.countP P + 1 ≤ l.countP Q := by
  induction l with
  | nil => cases hm
  | cons a r ih =>
    have hr := countP_le' (l := r) (fun m hm => h m (List.mem_cons_of_mem _ hm))
    rw [List.countP_cons, List.countP_cons]
    rcases List.mem_cons.1 hm with rfl | hm
    · rw [h1, h2]; simp; omega
    · have := ih (fun m hm => h m (List.mem_cons_of_mem _ hm)) hm
      have ha := h a List.mem_cons_self
      cases hp : P a with
      | false => simp; omega
      | true => rw [ha hp]; simp; omega
theorem cs_less {l : List S43} (hn : nod l) {fr fr1 : Int → Option Int} (hs : ∀ p q, fr p = some q → ∃ m ∈ l, m.f0 = p ∧ m.f1 = q ∧ p ≠ q) (hR : Ring fr) (hs1 : ∀ p q, fr1 p = some q → ∃ m ∈ l, m.f0 = p ∧ m.f1 = q ∧ p ≠ q) (hR1 : Ring fr1) (h6 : ∀ p q, fr1 p = some q → fr p = some q) {c : Int} (hc : mhas fr c = true) (hc1 : mhas fr1 c = false) : cs l fr1 + 1 ≤ cs l fr := by
  let f2 : Int → Option Int := fun p => if mhas fr1 p = true then none else fr p
  have hf2 : ∀ p q, f2 p = some q ↔ mhas fr1 p = false ∧ fr p = some q := by
    intro p q
    show (if mhas fr1 p = true then none else fr p) = some q ↔ _
    cases h : mhas fr1 p <;> simp
  have hs2 : ∀ p q, f2 p = some q → ∃ m ∈ l, m.f0 = p ∧ m.f1 = q ∧ p ≠ q := fun p q h => hs p q ((hf2 p q).1 h).2
  have hR2 : Ring f2 := by
    refine ⟨fun p q h => ?_, fun p p' q h h' => hR.inj p p' q ((hf2 p q).1 h).2 ((hf2 p' q).1 h').2⟩
    obtain ⟨h1, h2⟩ := (hf2 p q).1 h
    have hq := hR.clo p q h2
    obtain ⟨r, hr⟩ := mhas_iff.1 hq
    refine mhas_iff.2 ⟨r, (hf2 q r).2 ⟨?_, hr⟩⟩
    cases hq1 : mhas fr1 q with
    | false => rfl
    | true =>
      obtain ⟨p', hp'⟩ := ring_pred hn hs1 hR1 q hq1
      have := hR.inj _ _ _ (h6 _ _ hp') h2
      subst this
      rw [mhas_of hp'] at h1; cases h1
  obtain ⟨q, hq⟩ := mhas_iff.1 hc
  obtain ⟨m, hm, h1, h2⟩ := ring_counted hn hs2 hR2 ⟨c, mhas_iff.2 ⟨q, (hf2 c q).2 ⟨hc1, hq⟩⟩⟩
  obtain ⟨r, hr⟩ := mhas_iff.1 h2
  obtain ⟨h3, h4⟩ := (hf2 _ _).1 hr
  refine countP_lt (fun x hx h => ?_) hm (by simp [h1, mhas_of h4]) (by simp [h3])
  rw [Bool.and_eq_true] at h ⊢
  exact ⟨h.1, mhas_of (h6 _ _ (some_of_mhas h.2))⟩

theorem row4_circ {l : List S43} (hn : nod l) (sp : Int) (hsp : ∀ m ∈ l, m.f0 ≠ sp) (hsp1 : ∀ m ∈ l, m.f1 ≠ sp) : ∀ (d j : Nat) (fr : Int → Option Int) (out : List S43), l.length - j = d → out.length + 2 * pn l fr ≤ 4000000 →
    Inv l sp fr out → Ring fr → ∀ k out1, row4 k l sp j fr out = some (out1, 0) → out1.length ≤ out.length + pn l fr + cs l fr := by
  intro d
  induction d with
  | zero =>
    intro j fr out hd hb hI hR k out1 h
    cases k with
    | zero => rw [row4] at h; cases h
    | succ k =>
      rw [row4, if_neg (by omega)] at h
      injection h with h
      injection h with h
      rw [← h]; omega
  | succ d ih =>
    intro j fr out hd hb hI hR k out1 h
    cases k with
    | zero => rw [row4] at h; cases h
    | succ k =>
      have hj : j < l.length := by omega
      rw [row4, if_pos hj] at h
      by_cases hc : mhas fr (rd_T43 l j).f0 = true
      · simp only [hc, if_true] at h
        by_cases hs : sp < 0
        · rw [if_pos hs] at h; injection h with h; injection h with _ h; cases h
        · rw [if_neg hs] at h
          by_cases ho : ¬ out.length < 10000000
          · rw [if_pos ho] at h; cases h
          · rw [if_neg ho] at h
            have hG := go5_start hn (by omega) hsp hsp1 hI hR hc
            obtain ⟨fr1, out2, g1, g2, g3, g4, g5, g6, g7⟩ := row5_spec hn sp _ (by omega) hsp _ _ fr _ rfl (by rw [List.length_append, List.length_singleton]; omega) hG (k + pn l fr + 1) (by omega)
            rw [Option.bind_eq_some_iff] at h
            obtain ⟨x, hx1, hx2⟩ := h
            have hx3 : x = (fr1, out2) := by
              have : ∀ t, row5 (k + t) (rd_T43 l j).f0 sp (rd_T43 l j).f0 fr (out ++ [⟨sp, (rd_T43 l j).f0⟩]) = some x := by
                intro t
                induction t with
                | zero => exact hx1
                | succ t iht => exact row5_mono _ _ _ _ _ _ _ iht
              have h1 := this (pn l fr + 1)
              rw [← Nat.add_assoc, g1] at h1
              injection h1 with h1; exact h1.symm
            subst hx3
            rw [List.length_append, List.length_singleton] at g4
            have h1 := ih (j + 1) fr1 out2 (by omega) (by omega) g2 g3 k out1 hx2
            have h2 := cs_less hn hI.sub hR g2.sub g3 g6 hc g7
            omega
      · simp only [hc, if_false] at h
        exact ih (j + 1) fr out (by omega) hb hI hR k out1 h

theorem cs_le (l : List S43) (fr : Int → Option Int) : cs l fr ≤ circ l := countP_le' fun m _ h => by rw [Bool.and_eq_true] at h; exact h.1

theorem row_full {l : List S43} {sp : Int} (hm : May l sp) (hlen : l.length ≤ 1000000) (hok : okM l = true) (hws : (Lit.int .i64 sp).wf = true) :
    ∃ K, ∀ k, K ≤ k → (sp < 0 ∧ rowG k l sp = some ([], 4) ∧ 0 < circ l) ∨
      (∃ out, rowG k l sp = some (out, 0) ∧ Inv l sp mnil out ∧ out.length ≤ nbusy l + circ l ∧ (sp < 0 → circ l = 0)) := by
  have hn := hm.nod
  have hnb : nbusy l ≤ l.length := List.countP_le_length
  have hp0 : pn l (fromOf l) = nbusy l := pn_start hn
  have hrd : ∀ p, p ∈ (readyOf l (askOf l)).drop 0 ↔ (mhas (fromOf l) p = true ∧ asks l (fromOf l) p = 0) := by
    intro p
    rw [List.drop_zero]
    unfold readyOf
    rw [List.mem_map]
    constructor
    · rintro ⟨m, hmm, rfl⟩
      obtain ⟨h1, h2⟩ := List.mem_filter.1 hmm
      rw [Bool.and_eq_true, decide_eq_true_eq, beq_iff_eq, asks_start hn hlen] at h2
      exact ⟨mhas_of ((fromOf_iff hn _ _).2 ⟨m, h1, rfl, rfl, h2.1⟩), by omega⟩
    · rintro ⟨h1, h2⟩
      obtain ⟨q, hq⟩ := mhas_iff.1 h1
      obtain ⟨m, hmm, e1, e2, e3⟩ := (fromOf_iff hn _ _).1 hq
      refine ⟨m, List.mem_filter.2 ⟨hmm, ?_⟩, e1⟩
      rw [Bool.and_eq_true, decide_eq_true_eq, beq_iff_eq, e1, e2, asks_start hn hlen, h2]
      exact ⟨e3, rfl⟩
  have hnd : ((readyOf l (askOf l)).drop 0).Nodup := by
    rw [List.drop_zero]
    exact List.Sublist.nodup (List.Sublist.map _ List.filter_sublist) hn
  refine ⟨2 * l.length + 2, fun k hk => ?_⟩
  obtain ⟨fr1, out1, g1, g2, g3, g4, g5, g6⟩ := row3_spec hn hlen sp hm.sp0 _ (fromOf l) (askOf l) (readyOf l (askOf l)) 0 [] rfl (by rw [hp0]; omega) (by rw [hp0]; simp; omega) (inv_start hn sp) (asks_start hn hlen) hnd hrd k (by rw [hp0]; omega)
  have hR := ring_of hn g2 g3
  rw [hp0] at g4
  simp only [List.length_nil, Nat.zero_add] at g4
  have hgo : rowG k l sp = row4 k l sp 0 fr1 out1 := by
    unfold rowG
    rw [if_pos ⟨hlen, hok, hws⟩]
    unfold rowF
    rw [if_pos ((may_iff l sp).2 hm), g1]
    rfl
  rw [hgo]
  rcases row4_spec hn sp hm.sp0 hm.sp1 l.length 0 fr1 out1 rfl (by omega) g2 hR (fun i hi _ => absurd hi (by omega)) k (by omega) with ⟨h1, h2, h3⟩ | ⟨out2, c, h1, h2, h3, h4, h5⟩
  · exact .inl ⟨h1, h2, (circ_rings hn).2 ⟨fr1, g2.sub, hR, h3⟩⟩
  · refine .inr ⟨out2, h1, h2, ?_, fun hs => ?_⟩
    · have := row4_circ hn sp hm.sp0 hm.sp1 l.length 0 fr1 out1 rfl (by omega) g2 hR k out2 h1
      have := cs_le l fr1
      omega
    · apply Classical.byContradiction
      intro hc
      obtain ⟨R, hs2, hR2, p, hp⟩ := (circ_rings hn).1 (by omega)
      have hsame : ∀ p q, R p = some q → fromOf l p = some q := fun p q h => (fromOf_iff hn p q).2 (by obtain ⟨m, a, b, c, d⟩ := hs2 p q h; exact ⟨m, a, b, c, d⟩)
      have := g5 (fun p => mhas R p = true) (fun p hp => by
        obtain ⟨q, hq⟩ := mhas_iff.1 hp
        obtain ⟨p', hp'⟩ := ring_pred hn hs2 hR2 p hp
        exact ⟨mhas_of (hsame _ _ hq), p', mhas_of hp', hsame _ _ hp'⟩) p hp
      obtain ⟨q, hq⟩ := mhas_iff.1 hp
      have h6 := h5 hs p
      unfold mhas at h6
      rw [this, hsame _ _ hq] at h6
      simp at h6
end Go.Proofs.Ytchmddbenohmnaa.Mv
