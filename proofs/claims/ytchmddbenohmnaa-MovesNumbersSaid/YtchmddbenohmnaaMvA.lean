/- Plain facts on moves: what a list of moves does one by one, maps of pending moves, counts. No program. -/
import Derived.Test.YtchmddbenohmnaaMay
namespace Go.Proofs.Ytchmddbenohmnaa.Mv
open Go.RowKit Go.Proofs.Ytchmddbenohmnaa.Mi Go.Proofs.Ytchmddbenohmnaa.F
set_option linter.unusedVariables false
set_option linter.unusedSimpArgs false

/-! ### maps -/
theorem mhas_del (f : Int → Option Int) (x y : Int) : mhas (mdel f x) y = (mhas f y && decide (y ≠ x)) := by
  unfold mhas mdel; by_cases h : y = x <;> simp [h]
theorem mhas_put (f : Int → Option Int) (x v y : Int) : mhas (mput f x v) y = (mhas f y || decide (y = x)) := by
  unfold mhas mput; by_cases h : y = x <;> simp [h]
theorem mget_put (f : Int → Option Int) (x v y : Int) : mget (mput f x v) y = if y = x then v else mget f y := by
  unfold mget mput; by_cases h : y = x <;> simp [h]
theorem mdel_some {f : Int → Option Int} {x p q : Int} : mdel f x p = some q ↔ f p = some q ∧ p ≠ x := by
  unfold mdel; by_cases h : p = x <;> simp [h]
theorem mhas_iff {f : Int → Option Int} {p : Int} : mhas f p = true ↔ ∃ q, f p = some q := by
  unfold mhas; rw [Option.isSome_iff_exists]
theorem mget_some {f : Int → Option Int} {p q : Int} (h : f p = some q) : mget f p = q := by unfold mget; rw [h]; rfl
theorem some_of_mhas {f : Int → Option Int} {p : Int} (h : mhas f p = true) : f p = some (mget f p) := by
  obtain ⟨q, hq⟩ := mhas_iff.1 h; rw [mget_some hq]; exact hq
theorem mhas_of {f : Int → Option Int} {p q : Int} (h : f p = some q) : mhas f p = true := mhas_iff.2 ⟨q, h⟩

/-! ### one by one -/
def upd (σ : Int → Int) (p v : Int) : Int → Int := fun x => if x = p then v else σ x
def exec (l : List S43) (σ : Int → Int) : Int → Int := l.foldl (fun σ m => upd σ m.f0 (σ m.f1)) σ
theorem exec_snoc (l : List S43) (m : S43) (σ : Int → Int) : exec (l ++ [m]) σ = upd (exec l σ) m.f0 (exec l σ m.f1) := by
  unfold exec; rw [List.foldl_append]; rfl
theorem upd_same (σ : Int → Int) (p v : Int) : upd σ p v p = v := by simp [upd]
theorem upd_other {σ : Int → Int} {p v x : Int} (h : x ≠ p) : upd σ p v x = σ x := by simp [upd, h]

/-! ### counts -/
def nod (l : List S43) : Prop := (l.map (·.f0)).Nodup
theorem nod_uniq {l : List S43} (h : nod l) {m m' : S43} (hm : m ∈ l) (hm' : m' ∈ l) (e : m.f0 = m'.f0) : m = m' := by
  unfold nod at h
  induction l with
  | nil => cases hm
  | cons a r ih =>
    rw [List.map_cons, List.nodup_cons] at h
    rcases List.mem_cons.1 hm with rfl | hm1
    · rcases List.mem_cons.1 hm' with rfl | hm2
      · rfl
      · exact absurd (List.mem_map.2 ⟨m', hm2, e.symm⟩) h.1
    · rcases List.mem_cons.1 hm' with rfl | hm2
      · exact absurd (List.mem_map.2 ⟨m, hm1, e⟩) h.1
      · exact ih h.2 hm1 hm2
theorem countP_congr' {l : List S43} {P Q : S43 → Bool} (h : ∀ m ∈ l, P m = Q m) : l.countP P = l.countP Q := by
  induction l with
  | nil => rfl
  | cons a r ih =>
    rw [List.countP_cons, List.countP_cons, ih (fun m hm => h m (List.mem_cons_of_mem _ hm)), h a List.mem_cons_self]
theorem count_drop {l : List S43} (h : nod l) {m : S43} (hm : m ∈ l) {P : S43 → Bool} (hP : P m = true) :
    l.countP P = l.countP (fun x => P x && decide (x.f0 ≠ m.f0)) + 1 := by
  unfold nod at h
  induction l with
  | nil => cases hm
  | cons a r ih =>
    rw [List.map_cons, List.nodup_cons] at h
    rw [List.countP_cons, List.countP_cons]
    rcases List.mem_cons.1 hm with rfl | hm1
    · have : r.countP (fun x => P x && decide (x.f0 ≠ m.f0)) = r.countP P := by
        refine countP_congr' fun x hx => ?_
        have : x.f0 ≠ m.f0 := fun e => h.1 (List.mem_map.2 ⟨x, hx, e⟩)
        simp [this]
      rw [this, hP]; simp
    · have hne : a.f0 ≠ m.f0 := fun e => h.1 (List.mem_map.2 ⟨m, hm1, e.symm⟩)
      rw [ih h.2 hm1]
      simp only [hne, ne_eq, not_false_eq_true, decide_true, Bool.and_true]
      omega
theorem countP_le' {l : List S43} {P Q : S43 → Bool} (h : ∀ m ∈ l, P m = true → Q m = true) : l.countP P ≤ l.countP Q := by
  induction l with
  | nil => simp
  | cons a r ih =>
    rw [List.countP_cons, List.countP_cons]
    have := ih (fun m hm => h m (List.mem_cons_of_mem _ hm))
    have h2 := h a List.mem_cons_self
    cases hP : P a <;> cases hQ : Q a <;> simp_all <;> omega

/-! ### the maps of the moves -/
def busy (m : S43) : Bool := decide (m.f0 ≠ m.f1)
def fromOf (l : List S43) : Int → Option Int := l.foldl (fun f m => if m.f0 = m.f1 then f else mput f m.f0 m.f1) mnil
def askOf (l : List S43) : Int → Option Int := l.foldl (fun f m => if m.f0 = m.f1 then f else mput f m.f1 (wrap64 (mget f m.f1 + 1))) mnil
def readyOf (l : List S43) (A : Int → Option Int) : List Int := (l.filter (fun m => decide (m.f0 ≠ m.f1) && (mget A m.f0 == 0))).map (·.f0)
theorem fromOf_snoc (l : List S43) (m : S43) : fromOf (l ++ [m]) = if m.f0 = m.f1 then fromOf l else mput (fromOf l) m.f0 m.f1 := by
  unfold fromOf; rw [List.foldl_append]; rfl
theorem askOf_snoc (l : List S43) (m : S43) : askOf (l ++ [m]) = if m.f0 = m.f1 then askOf l else mput (askOf l) m.f1 (wrap64 (mget (askOf l) m.f1 + 1)) := by
  unfold askOf; rw [List.foldl_append]; rfl
theorem readyOf_snoc (l : List S43) (m : S43) (A : Int → Option Int) : readyOf (l ++ [m]) A = if m.f0 ≠ m.f1 ∧ mget A m.f0 = 0 then readyOf l A ++ [m.f0] else readyOf l A := by
  unfold readyOf
  rw [List.filter_append, List.map_append]
  by_cases h : m.f0 ≠ m.f1 ∧ mget A m.f0 = 0
  · rw [if_pos h]; simp [List.filter_cons, h.1, h.2]
  · rw [if_neg h]
    have : (decide (m.f0 ≠ m.f1) && (mget A m.f0 == 0)) = false := by
      rw [Bool.eq_false_iff]
      intro e
      rw [Bool.and_eq_true, decide_eq_true_eq, beq_iff_eq] at e
      exact h e
    rw [List.filter_cons, this]; simp

theorem snoc_ind {α : Type} {P : List α → Prop} (h0 : P []) (h1 : ∀ l a, P l → P (l ++ [a])) (l : List α) : P l := by
  have : ∀ r : List α, P r.reverse := by
    intro r
    induction r with
    | nil => exact h0
    | cons a r ih => rw [List.reverse_cons]; exact h1 _ _ ih
  rw [← List.reverse_reverse l]; exact this _

theorem fromOf_iff {l : List S43} (h : nod l) : ∀ p q, fromOf l p = some q ↔ ∃ m ∈ l, m.f0 = p ∧ m.f1 = q ∧ p ≠ q := by
  revert h
  refine snoc_ind (P := fun l => nod l → ∀ p q, fromOf l p = some q ↔ ∃ m ∈ l, m.f0 = p ∧ m.f1 = q ∧ p ≠ q) ?_ ?_ l
  · intro _ p q; simp [fromOf, mnil]
  · intro l m ih h p q
    have hd : nod l ∧ ∀ x ∈ l, x.f0 ≠ m.f0 := by
      unfold nod at h ⊢
      rw [List.map_append, List.nodup_append] at h
      exact ⟨h.1, fun x hx => h.2.2 _ (List.mem_map.2 ⟨x, hx, rfl⟩) _ (by simp)⟩
    have ih := ih hd.1 p q
    rw [fromOf_snoc]
    by_cases e : m.f0 = m.f1
    · rw [if_pos e, ih]
      constructor
      · rintro ⟨x, hx, h2⟩; exact ⟨x, List.mem_append_left _ hx, h2⟩
      · rintro ⟨x, hx, h1, h2, h3⟩
        rcases List.mem_append.1 hx with hx | hx
        · exact ⟨x, hx, h1, h2, h3⟩
        · rw [List.mem_singleton] at hx; subst hx; exact absurd (h1.symm.trans (e.trans h2)) h3
    · rw [if_neg e]
      unfold mput
      by_cases hp : p = m.f0
      · rw [if_pos hp]
        constructor
        · intro h1; injection h1 with h1
          exact ⟨m, by simp, hp.symm, h1, by rw [hp, ← h1]; exact e⟩
        · rintro ⟨x, hx, h1, h2, h3⟩
          rcases List.mem_append.1 hx with hx | hx
          · exact absurd (h1.trans hp) (hd.2 x hx)
          · rw [List.mem_singleton] at hx; subst hx; rw [h2]
      · rw [if_neg hp, ih]
        constructor
        · rintro ⟨x, hx, h2⟩; exact ⟨x, List.mem_append_left _ hx, h2⟩
        · rintro ⟨x, hx, h1, h2, h3⟩
          rcases List.mem_append.1 hx with hx | hx
          · exact ⟨x, hx, h1, h2, h3⟩
          · rw [List.mem_singleton] at hx; subst hx; exact absurd h1.symm hp

theorem wrap64_small {x : Int} (h0 : -9223372036854775808 ≤ x) (h1 : x ≤ 9223372036854775807) : wrap64 x = x := by unfold wrap64; omega

theorem askOf_count {l : List S43} (hlen : l.length ≤ 1000000) (q : Int) : mget (askOf l) q = (l.countP (fun m => busy m && decide (m.f1 = q)) : Nat) := by
  revert hlen
  refine snoc_ind (P := fun l => l.length ≤ 1000000 → mget (askOf l) q = (l.countP (fun m => busy m && decide (m.f1 = q)) : Nat)) ?_ ?_ l
  · intro _; simp [askOf, mget, mnil]
  · intro l m ih hlen
    rw [List.length_append, List.length_singleton] at hlen
    have ih := ih (by omega)
    rw [askOf_snoc, List.countP_append]
    by_cases e : m.f0 = m.f1
    · rw [if_pos e, ih]; simp [busy, e, List.countP_cons]
    · rw [if_neg e, mget_put]
      by_cases hq : q = m.f1
      · subst hq
        rw [if_pos rfl, ih]
        have := List.countP_le_length (p := fun x : S43 => busy x && decide (x.f1 = m.f1)) (l := l)
        rw [wrap64_small (by omega) (by omega)]
        simp [busy, e, List.countP_cons]
      · rw [if_neg hq, ih]
        have : decide (m.f1 = q) = false := by simp; exact fun h => hq h.symm
        simp [busy, e, List.countP_cons, this]
end Go.Proofs.Ytchmddbenohmnaa.Mv
