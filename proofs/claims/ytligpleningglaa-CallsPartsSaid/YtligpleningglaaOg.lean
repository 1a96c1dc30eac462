/- A net that is handed in, opened: it reads as a plain list of lists of numbers, no longer than memory lets it be. -/
import Derived.Test.YtligpleningglaaRd
import Derived.Deep.Matrix
import Derived.SizedLaws
namespace Go.Proofs.Ytligpleningglaa.Cw
open Go Go.ChangeShapes Go.WideShapes Go.Deep Go.RowKit Go.Proofs.YtligpleningglaaW.PrintWords Go.Proofs.Ytligpleningglaa.F
set_option linter.unusedVariables false
set_option linter.unusedSimpArgs false
theorem weightsAll_mem {H : Type} {P : Program} {e : TypeId} : ∀ {l : List (DataW H)} {d : DataW H}, d ∈ l → ∀ n ∈ d.weights P e, n ∈ DataW.weightsAll P e l
  | d' :: r, d, hd, n, hn => by
    simp only [DataW.weightsAll, List.mem_append]
    rcases List.mem_cons.1 hd with rfl | h
    · exact Or.inl hn
    · exact Or.inr (weightsAll_mem h n hn)
theorem sized_in {H : Type} {P : Program} {ts : List TypeId} {ds : List (DataW H)} (h : (DataW.weightsEach P ts ds).all (· ≤ reachBytes) = true) {j : Nat} {t e q : TypeId} {elems spare e' sp' : List (DataW H)}
    (ht : ts[j]? = some t) (hd : ds[j]? = some (.slice elems spare)) (hu : P.underlying t = some (.slice e)) (hu2 : P.underlying e = some (.slice q)) (hx : DataW.slice e' sp' ∈ elems) : (e'.length + sp'.length) * P.bytesOf q ≤ reachBytes := by
  refine of_decide_eq_true (List.all_eq_true.1 h _ (DataW.weights_mem_each ht hd _ ?_))
  simp only [DataW.weights, hu, List.mem_cons, List.mem_append]
  exact Or.inr (Or.inl (weightsAll_mem hx _ (by simp [DataW.weights, hu2])))
theorem open_net {H : Type} {enc : TypeId × Value → H} {W : World} {a : Option Addr} {len cap : Nat} {d : DataW H} {ps : List MemPlace}
    (h : DataW.Trod enc Try.prog W 0 (fun _ => true) true 22 (.slice a len cap) d ps) :
    ∃ l : List (List Int), l.length = len ∧ len ≤ cap ∧ Kd.C (Kd.slice 3 (Kd.int .i64)) W a len l ∧ ∀ {ts : List TypeId} {ds : List (DataW H)} {j : Nat}, (DataW.weightsEach Try.prog ts ds).all (· ≤ reachBytes) = true → ts[j]? = some 22 → ds[j]? = some d → netOk l = true := by
  obtain ⟨fuel, hf⟩ := h
  rcases open_int_rows Try.underlying22 Try.underlying35 Try.underlying3 (by kernel_rfl) (by kernel_rfl) hf with ⟨hcs, hx⟩ | ⟨x, len', cap', A, L, C, Z, hcs, hb, hl, hm, hx, hrows⟩
  · simp [Value.cells] at hcs
    obtain ⟨rfl, rfl, rfl⟩ := hcs
    exact ⟨[], rfl, Nat.le_refl _, Kd.C_nil _ _, fun _ _ _ => rfl⟩
  · simp [Value.cells] at hcs
    obtain ⟨rfl, rfl, rfl⟩ := hcs
    have hZ : ∀ r, r < cap → ((Z r).take (L r)).length = L r := fun r hr => by
      obtain ⟨_, h2, _, h4, _⟩ := hrows r hr
      rw [List.length_take, h4]; omega
    have hll : ((List.range len).map fun r => (Z r).take (L r)).length = len := by simp
    refine ⟨(List.range len).map fun r => (Z r).take (L r), hll, hl, ⟨hll, by unfold maxLen at hm; omega, fun hn => ⟨x, rfl, fun j p hj => ?_⟩⟩, fun {ts ds j} hsz ht hd => ?_⟩
    · rw [List.getElem?_map] at hj
      by_cases hjl : j < len
      · rw [List.getElem?_range hjl] at hj
        injection hj with hj
        subst hj
        obtain ⟨h1, h2, h3, h4, h5, h6, h7⟩ := hrows j (by omega)
        have hlz := hZ j (by omega)
        refine ⟨[.slice (A j) (L j) (C j)], rfl, ⟨A j, C j, by rw [hlz], by rw [hlz]; exact h2, ?_⟩, fun i u hu => ?_⟩
        · refine Kd.C_of_reads (enc := Value.int .i64) (d := (0 : Int)) (h1 := fun _ => rfl) ⟨rfl, by rw [hlz]; unfold maxLen at h3; omega, fun hp => ?_⟩
          rw [hlz] at hp
          cases hA : A j with
          | none => have := h6 hA; omega
          | some a' =>
            refine ⟨a', rfl, fun i hi => ?_⟩
            rw [hlz] at hi
            rw [(h7 a' hA).2 i (by omega)]
            congr 2
            rw [List.getD_eq_getElem?_getD, List.getD_eq_getElem?_getD, List.getElem?_take_of_lt hi]
        · match i with
          | 0 =>
            simp at hu
            subst hu
            have : j * (Kd.slice 3 (Kd.int .i64)).sz + 0 = j := by show j * 1 + 0 = j; omega
            rw [this]; exact h1
          | i + 1 => simp at hu
      · rw [List.getElem?_eq_none (by simp; omega)] at hj
        cases hj
    · obtain ⟨hx1, _⟩ := Prod.mk.inj hx
      subst hx1
      have z := sized_slice hsz ht hd Try.underlying22
      rw [show Try.prog.bytesOf 35 = 24 by kernel_rfl, show reachBytes = 140737488351232 from rfl] at z
      simp only [List.length_map, List.length_range] at z
      unfold netOk
      rw [Bool.and_eq_true, decide_eq_true_eq, List.all_eq_true, hll]
      refine ⟨by omega, fun l hl' => ?_⟩
      obtain ⟨r, hr, rfl⟩ := List.mem_map.1 hl'
      rw [List.mem_range] at hr
      rw [decide_eq_true_eq, hZ r (by omega)]
      obtain ⟨h1, h2, h3, h4, h5, h6, h7⟩ := hrows r (by omega)
      cases hA : A r with
      | none => have := h6 hA; omega
      | some a' =>
        have hin : DataW.slice (lits (H := H) .i64 ((Z r).take (L r))) (lits .i64 ((Z r).drop (L r))) ∈ (List.range len).map fun r => intRow (H := H) .i64 (A r) (L r) (Z r) := by
          refine List.mem_map.2 ⟨r, List.mem_range.2 hr, ?_⟩
          unfold intRow
          rw [hA]
        have y := sized_in hsz ht hd Try.underlying22 Try.underlying35 hin
        rw [show Try.prog.bytesOf 3 = 8 by kernel_rfl, show reachBytes = 140737488351232 from rfl] at y
        simp only [lits, List.length_map, List.length_take, List.length_drop, h4] at y
        omega
end Go.Proofs.Ytligpleningglaa.Cw
