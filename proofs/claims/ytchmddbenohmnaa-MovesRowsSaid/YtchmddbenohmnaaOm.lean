/- A list of moves that is handed in, opened: it reads as a plain list of pairs of 64-bit numbers, and its size is bounded. -/
import Derived.Test.YtchmddbenohmnaaMvE
import Derived.Deep.SlicePairs
import Derived.SizedLaws
namespace Go.Proofs.Ytchmddbenohmnaa.Mv
open Go Go.ChangeShapes Go.WideShapes Go.Deep Go.RowKit Go.Proofs.YtchmddbenohmnaaW.PrintWords Go.Proofs.Ytchmddbenohmnaa.F
set_option linter.unusedVariables false
set_option linter.unusedSimpArgs false

theorem open_moves {H : Type} {enc : TypeId × Value → H} {W : World} {base : Nat} {spare : Nat → Bool} {held : Bool} {a : Option Addr} {len cap : Nat} {d : DataW H} {ps : List MemPlace}
    (h : DataW.Trod enc Try.prog W base spare held 22 (.slice a len cap) d ps) :
    ∃ l : List S43, l.length = len ∧ len ≤ cap ∧ Kd.C k43 W a len l ∧ okM l = true ∧ (∀ {ts : List TypeId} {ds : List (DataW H)} {j : Nat}, (DataW.weightsEach Try.prog ts ds).all (· ≤ reachBytes) = true → ts[j]? = some 22 → ds[j]? = some d → len * 16 ≤ 140737488351232) := by
  obtain ⟨fuel, hf⟩ := h
  rcases open_slice_pairs (e := 43) Try.underlying22 Try.underlying43 (by kernel_rfl) (by rfl) (by rfl) (by kernel_rfl) (by kernel_rfl) hf with ⟨hcs, hx⟩ | ⟨x, l', c', m, n, V0, V1, D0, D1, P0, P1, hcs, hb, hl, hm, hmm, hx, hi⟩
  · simp [Value.cells] at hcs
    obtain ⟨rfl, rfl, rfl⟩ := hcs
    exact ⟨[], rfl, Nat.le_refl _, ⟨rfl, Nat.zero_le _, fun h => absurd h (by omega)⟩, rfl, fun _ _ _ => by simp⟩
  · simp [Value.cells] at hcs
    obtain ⟨rfl, rfl, rfl⟩ := hcs
    have hlm : len ≤ m := by rw [hmm]; split <;> omega
    have hint : ∀ i, ∃ p q : Int, i < m → V0 i = .int .i64 p ∧ V1 i = .int .i64 q ∧ (Lit.int .i64 p).wf = true ∧ (Lit.int .i64 q).wf = true := by
      intro i
      by_cases him : i < m
      · obtain ⟨h0, h1, t0, t1⟩ := hi i him
        obtain ⟨p, e0, _, w0⟩ := DataW.trod_int Try.underlying3 t0
        obtain ⟨q, e1, _, w1⟩ := DataW.trod_int Try.underlying3 t1
        injection e0 with e0
        injection e1 with e1
        exact ⟨p, q, fun _ => ⟨e0, e1, w0, w1⟩⟩
      · exact ⟨0, 0, fun h => absurd h him⟩
    obtain ⟨p, hp⟩ := Classical.axiomOfChoice hint
    obtain ⟨q, hq⟩ := Classical.axiomOfChoice hp
    have hlen : ((List.range len).map fun i => (⟨p i, q i⟩ : S43)).length = len := by simp
    refine ⟨(List.range len).map fun i => ⟨p i, q i⟩, hlen, hl, ⟨hlen, ?_, fun _ => ⟨x, rfl, ?_⟩⟩, ?_, ?_⟩
    · unfold maxLen at hm; omega
    · intro j s hj
      rw [List.getElem?_map] at hj
      by_cases hjl : j < len
      · rw [List.getElem?_range hjl] at hj
        injection hj with hj
        subst hj
        obtain ⟨e0, e1, _, _⟩ := hq j (by omega)
        obtain ⟨h0, h1, _, _⟩ := hi j (by omega)
        refine ⟨[.int .i64 (p j), .int .i64 (q j)], rfl, ⟨[.int .i64 (p j)], [.int .i64 (q j)], rfl, rfl, rfl⟩, ?_⟩
        intro i u hu
        match i with
        | 0 => simp at hu; subst hu; rw [← e0]; exact h0
        | 1 => simp at hu; subst hu; rw [← e1]; exact h1
        | i + 2 => simp at hu
      · rw [List.getElem?_eq_none (by simp; omega)] at hj
        cases hj
    · unfold okM
      rw [List.all_eq_true]
      intro s hs
      obtain ⟨j, hj, rfl⟩ := List.mem_map.1 hs
      rw [List.mem_range] at hj
      obtain ⟨_, _, w0, w1⟩ := hq j (by omega)
      rw [Bool.and_eq_true]
      exact ⟨w0, w1⟩
    · intro ts ds j hsz ht hd
      obtain ⟨hx, _⟩ := Prod.mk.inj hx
      subst hx
      have z := sized_slice hsz ht hd Try.underlying22
      rw [show Try.prog.bytesOf 43 = 16 by kernel_rfl, List.length_map, List.length_map, List.length_range, List.length_range] at z
      have : reachBytes = 140737488351232 := by rfl
      rw [this] at z
      exact Nat.le_trans (Nat.mul_le_mul_right _ (Nat.le_add_right _ _)) z
end Go.Proofs.Ytchmddbenohmnaa.Mv
