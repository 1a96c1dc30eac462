/- Two rows of one's own that lie apart; the head of a row. -/
import Derived.Test.YtcmbpboeilojmaaGreatBah
namespace Go.Proofs.YtcmbpboeilojmaaGreat.Sw
open Go Go.RowKit Go.Proofs.YtcmbpboeilojmaaGreatW.PrintWords Go.Proofs.YtcmbpboeilojmaaGreatW.PrintLast Go.Proofs.YtcmbpboeilojmaaGreatW.PrintMore Go.Proofs.YtcmbpboeilojmaaGreat.Mi Go.Proofs.YtcmbpboeilojmaaGreat.F Go.Proofs.YtcmbpboeilojmaaGreat.Keep
set_option linter.unusedVariables false
set_option linter.unusedSimpArgs false

theorem apart2 {v u : Value} (h : disj v u) : Apart [v, u] [v, u] := by
  intro i j hij
  match i, j with
  | 0, 0 => exact absurd rfl hij
  | 0, 1 => exact h
  | 1, 0 => exact h.symm
  | 1, 1 => exact absurd rfl hij
  | i + 2, j => exact .inl rfl
  | 0, j + 2 => exact disj.symm (.inl rfl)
  | 1, j + 2 => exact disj.symm (.inl rfl)
theorem rowsO2 {w : World} {base e sz n : Nat} {v u : Value} {xs ys : List Value} (h : w.ownsRow base e sz v n xs) (h' : w.ownsRow base e sz u n ys) : ∃ cs, RowsO w base e sz [v, u] [n, n] cs :=
  ⟨fun j => if j = 0 then xs else ys, fun j hj => by
    match j with
    | 0 => exact h
    | 1 => exact h'
    | j + 2 => simp at hj; omega⟩
theorem own_lower {w : World} {base base' e sz n : Nat} {v : Value} {xs : List Value} (h : w.ownsRow base e sz v n xs) (hb : base' ≤ base) : w.ownsRow base' e sz v n xs := by
  rcases h with ⟨h1, h2 | ⟨g, cap, cur, h3, h4, h5⟩⟩
  · exact ⟨h1, .inl h2⟩
  · exact ⟨h1, .inr ⟨g, cap, cur, h3, Nat.le_trans hb h4, h5⟩⟩
theorem disj_of {w w1 : World} {base base' e sz n e' sz' n' : Nat} {v u : Value} {xs ys : List Value} (h : w.ownsRow base e sz v n xs) (h' : w1.ownsRow base' e' sz' u n' ys) (hb : w.heap.size ≤ base') : disj v u := by
  cases hu : u.ownBlock with
  | none => exact disj.symm (.inl hu)
  | some q => exact disj_fresh h hu (Nat.le_trans hb (h'.lt q hu).1)

end Go.Proofs.YtcmbpboeilojmaaGreat.Sw
