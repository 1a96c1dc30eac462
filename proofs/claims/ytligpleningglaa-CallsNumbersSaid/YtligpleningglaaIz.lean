/- A rising row, each number once, reckoned by putting in: what calls.compact's plain form is, for closed nets. -/
import Derived.Test.YtligpleningglaaCd
namespace Go.Proofs.Ytligpleningglaa.Cw
open Go Go.RowKit Go.Proofs.Ytligpleningglaa.Tarjan Go.Proofs.Ytligpleningglaa.F
set_option linter.unusedVariables false
def insD (x : Int) : List Int → List Int
  | [] => [x]
  | y :: r => if x < y then x :: y :: r else if x = y then y :: r else y :: insD x r
def cmpI : List Int → List Int
  | [] => []
  | x :: r => insD x (cmpI r)
theorem insD_mem (x : Int) : ∀ (l : List Int) (z : Int), z ∈ insD x l ↔ z = x ∨ z ∈ l := by
  intro l
  induction l with
  | nil => intro z; simp [insD]
  | cons y r ih =>
    intro z
    unfold insD
    split
    · simp
    · split
      · rename_i h; subst h; simp
      · rw [List.mem_cons, ih, List.mem_cons]
        constructor
        · rintro (h | h | h)
          · exact .inr (.inl h)
          · exact .inl h
          · exact .inr (.inr h)
        · rintro (h | h | h)
          · exact .inr (.inl h)
          · exact .inl h
          · exact .inr (.inr h)
theorem insD_lt (x : Int) : ∀ (l : List Int), l.Pairwise (· < ·) → (insD x l).Pairwise (· < ·) := by
  intro l
  induction l with
  | nil => intro _; simp [insD]
  | cons y r ih =>
    intro h
    rw [List.pairwise_cons] at h
    unfold insD
    split
    · rename_i hxy
      exact List.pairwise_cons.2 ⟨fun z hz => by
        rcases List.mem_cons.1 hz with e | e
        · omega
        · have := h.1 z e; omega, List.pairwise_cons.2 h⟩
    · split
      · exact List.pairwise_cons.2 h
      · refine List.pairwise_cons.2 ⟨fun z hz => ?_, ih h.2⟩
        rcases (insD_mem x r z).1 hz with e | e
        · omega
        · exact h.1 z e
theorem cmpI_mem : ∀ (l : List Int) (z : Int), z ∈ cmpI l ↔ z ∈ l := by
  intro l
  induction l with
  | nil => intro z; simp [cmpI]
  | cons y r ih => intro z; unfold cmpI; rw [insD_mem, ih, List.mem_cons]
theorem cmpI_lt : ∀ (l : List Int), (cmpI l).Pairwise (· < ·) := by
  intro l
  induction l with
  | nil => simp [cmpI]
  | cons y r ih => unfold cmpI; exact insD_lt y _ ih
theorem sortedI_eq : ∀ {a b : List Int}, a.Pairwise (· < ·) → b.Pairwise (· < ·) → (∀ x, x ∈ a ↔ x ∈ b) → a = b := by
  intro a
  induction a with
  | nil =>
    intro b _ _ h
    cases b with
    | nil => rfl
    | cons y b => exact absurd ((h y).2 List.mem_cons_self) (by simp)
  | cons x a ih =>
    intro b ha hb h
    cases b with
    | nil => exact absurd ((h x).1 List.mem_cons_self) (by simp)
    | cons y b =>
      rw [List.pairwise_cons] at ha hb
      have e : x = y := by
        have h1 := (h x).1 List.mem_cons_self
        have h2 := (h y).2 List.mem_cons_self
        rw [List.mem_cons] at h1 h2
        rcases h1 with h1 | h1
        · exact h1
        · rcases h2 with h2 | h2
          · exact h2.symm
          · have := ha.1 y h2; have := hb.1 x h1; omega
      subst e
      congr 1
      refine ih ha.2 hb.2 (fun z => ?_)
      have := h z
      rw [List.mem_cons, List.mem_cons] at this
      constructor
      · intro hz
        rcases this.1 (.inr hz) with h1 | h1
        · subst h1; have := ha.1 z hz; omega
        · exact h1
      · intro hz
        rcases this.2 (.inr hz) with h1 | h1
        · subst h1; have := hb.1 z hz; omega
        · exact h1
theorem cmpZ_eq : cmpZ = cmpI := funext fun l => sortedI_eq (cmpZ_lt l) (cmpI_lt l) (fun x => by rw [cmpZ_mem, cmpI_mem])
def cmpJ (l : List Nat) : List Nat := (cmpI (l.map Int.ofNat)).map Int.toNat
theorem cmpN_eq : cmpN = cmpJ := funext fun l => by unfold cmpN cmpJ; rw [cmpZ_eq]
def resJ (l0 : List (List Int)) : List (List Int) × Int := if okB l0 then ((partsP cmpJ (fun v => cmpJ ((l0.getD v []).map Int.toNat)) l0.length).map (fun l => l.map Int.ofNat), 0) else ([], 4)
theorem resP_eq (l0 : List (List Int)) : resP l0 = resJ l0 := by
  have e : nxc l0 = fun v => cmpJ ((l0.getD v []).map Int.toNat) := by funext v; unfold nxc; rw [cmpN_eq]
  unfold resP resJ partsZ
  rw [e, cmpN_eq]
theorem t1 : resJ [[1], [2], [1], [0]] = ([[1, 2], [0], [3]], 0) := by kernel_rfl
end Go.Proofs.Ytligpleningglaa.Cw
