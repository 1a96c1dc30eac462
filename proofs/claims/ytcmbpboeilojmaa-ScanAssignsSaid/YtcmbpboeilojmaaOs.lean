/- Lists of spans and of homes that are handed in, opened: they read as plain lists of triples of 64-bit numbers. -/
import Derived.Test.YtcmbpboeilojmaaHd
import Derived.Deep.Slices
import Derived.SizedLaws
namespace Go.Proofs.Ytcmbpboeilojmaa.Sw
open Go Go.ChangeShapes Go.WideShapes Go.Deep Go.RowKit Go.Proofs.YtcmbpboeilojmaaW.PrintWords Go.Proofs.Ytcmbpboeilojmaa.Mi Go.Proofs.Ytcmbpboeilojmaa.F
set_option linter.unusedVariables false
set_option linter.unusedSimpArgs false
theorem open_triples {t e : TypeId} {f0 f1 f2 : Field} (ht : Try.prog.underlying t = some (.slice e)) (he : Try.prog.underlying e = some (.struct #[f0, f1, f2])) (ce : Try.prog.cellsOf e = 3)
    (o0 : f0.offset = 0) (o1 : f1.offset = 1) (o2 : f2.offset = 2) (t0 : f0.type = 3) (t1 : f1.type = 3) (t2 : f2.type = 3) (c3 : Try.prog.cellsOf 3 = 1)
    {H : Type} {enc : TypeId × Value → H} {W : World} {base : Nat} {spare : Nat → Bool} {held : Bool} {a : Option Addr} {len cap : Nat} {d : DataW H} {ps : List MemPlace}
    (h : DataW.Trod enc Try.prog W base spare held t (.slice a len cap) d ps) :
    ∃ xs : List (Int × Int × Int), xs.length = len ∧ len ≤ cap ∧ cap ≤ maxLen ∧ (0 < len → ∃ x, a = some x ∧ ∀ j q, xs[j]? = some q → W.cell? (x.add (j * 3)) = some (.int .i64 q.1) ∧ W.cell? (x.add (j * 3 + 1)) = some (.int .i64 q.2.1) ∧ W.cell? (x.add (j * 3 + 2)) = some (.int .i64 q.2.2)) ∧
      (∀ q ∈ xs, wf q.1 ∧ wf q.2.1 ∧ wf q.2.2) := by
  obtain ⟨fuel, hf⟩ := h
  rcases open_slice ht hf with ⟨hcs, hx⟩ | ⟨x, l', c', m, n, D, Pl, hcs, hb, hl, hm, hmm, hx, hi⟩
  · simp [Value.cells] at hcs
    obtain ⟨rfl, rfl, rfl⟩ := hcs
    exact ⟨[], rfl, Nat.le_refl _, Nat.zero_le _, fun h => absurd h (by omega), fun q hq => by cases hq⟩
  · simp [Value.cells] at hcs
    obtain ⟨rfl, rfl, rfl⟩ := hcs
    have hlm : len ≤ m := by rw [hmm]; split <;> omega
    have hint : ∀ i, ∃ q : Int × Int × Int, i < m → (W.cell? (x.add (i * 3)) = some (.int .i64 q.1) ∧ W.cell? (x.add (i * 3 + 1)) = some (.int .i64 q.2.1) ∧ W.cell? (x.add (i * 3 + 2)) = some (.int .i64 q.2.2)) ∧ wf q.1 ∧ wf q.2.1 ∧ wf q.2.2 := by
      intro i
      by_cases him : i < m
      · obtain ⟨cs', h1, h2⟩ := hi i him
        rw [ce] at h1
        obtain ⟨_, hlen, hcell⟩ := World.cells?_some h1
        obtain ⟨xs, k, hk, hxy, _, hxl, hf⟩ := DataW.trod_struct he h2
        match xs, hxl, cs', hlen with
        | [y0, y1, y2], _, [v0, v1, v2], _ =>
          have g0 := hf 0 f0 rfl
          have g1 := hf 1 f1 rfl
          have g2 := hf 2 f2 rfl
          simp [o0, o1, o2, t0, t1, t2, c3] at g0 g1 g2
          have e0 := hcell 0 (by omega)
          have e1 := hcell 1 (by omega)
          have e2 := hcell 2 (by omega)
          rw [Go.Deep.add_add] at e0 e1 e2
          obtain ⟨p0, q0, _, w0⟩ := DataW.trod_int Try.underlying3 g0
          obtain ⟨p1, q1, _, w1⟩ := DataW.trod_int Try.underlying3 g1
          obtain ⟨p2, q2, _, w2⟩ := DataW.trod_int Try.underlying3 g2
          injection q0 with q0
          injection q1 with q1
          injection q2 with q2
          subst q0 q1 q2
          exact ⟨(p0, p1, p2), fun _ => ⟨⟨by simpa using e0, by simpa using e1, by simpa using e2⟩, w0, w1, w2⟩⟩
      · exact ⟨(0, 0, 0), fun h => absurd h him⟩
    obtain ⟨q, hq⟩ := Classical.axiomOfChoice hint
    refine ⟨(List.range len).map q, by simp, hl, hm, fun _ => ⟨x, rfl, fun j s hj => ?_⟩, fun s hs => ?_⟩
    · rw [List.getElem?_map] at hj
      by_cases hjl : j < len
      · rw [List.getElem?_range hjl] at hj
        injection hj with hj
        subst hj
        exact (hq j (by omega)).1
      · rw [List.getElem?_eq_none (by simp; omega)] at hj
        cases hj
    · obtain ⟨j, hj, rfl⟩ := List.mem_map.1 hs
      rw [List.mem_range] at hj
      exact (hq j (by omega)).2
def toS (q : Int × Int × Int) : S40 := ⟨q.1, q.2.1, q.2.2⟩
def toH (q : Int × Int × Int) : S43 := ⟨q.1, q.2.1, q.2.2⟩
theorem open_spans {H : Type} {enc : TypeId × Value → H} {W : World} {base : Nat} {spare : Nat → Bool} {held : Bool} {a : Option Addr} {len cap : Nat} {d : DataW H} {ps : List MemPlace}
    (h : DataW.Trod enc Try.prog W base spare held 22 (.slice a len cap) d ps) : ∃ l : List S40, l.length = len ∧ len ≤ cap ∧ Kd.C k40 W a len l ∧ wfS l := by
  obtain ⟨xs, h1, h2, h3, h4, h5⟩ := open_triples (e := 40) Try.underlying22 Try.underlying40 (by kernel_rfl) rfl rfl rfl rfl rfl rfl (by kernel_rfl) h
  refine ⟨xs.map toS, by simpa using h1, h2, ⟨by simpa using h1, by unfold maxLen at h3; omega, fun hp => ?_⟩, fun s hs => ?_⟩
  · obtain ⟨x, rfl, hx⟩ := h4 hp
    refine ⟨x, rfl, fun j s hj => ?_⟩
    rw [List.getElem?_map] at hj
    cases hq : xs[j]? with
    | none => rw [hq] at hj; cases hj
    | some q =>
      rw [hq] at hj
      injection hj with hj
      subst hj
      obtain ⟨g0, g1, g2⟩ := hx j q hq
      refine ⟨[.int .i64 q.1, .int .i64 q.2.1, .int .i64 q.2.2], rfl, k40_mk W (toS q), ?_⟩
      intro i u hu
      match i with
      | 0 => simp at hu; subst hu; exact g0
      | 1 => simp at hu; subst hu; exact g1
      | 2 => simp at hu; subst hu; exact g2
      | i + 3 => simp at hu
  · obtain ⟨q, hq, rfl⟩ := List.mem_map.1 hs
    exact (h5 q hq).1
theorem open_homes {H : Type} {enc : TypeId × Value → H} {W : World} {base : Nat} {spare : Nat → Bool} {held : Bool} {a : Option Addr} {len cap : Nat} {d : DataW H} {ps : List MemPlace}
    (h : DataW.Trod enc Try.prog W base spare held 25 (.slice a len cap) d ps) : ∃ l : List S43, l.length = len ∧ len ≤ cap ∧ Kd.C k43 W a len l ∧ ∀ x ∈ l, wf x.f2 := by
  obtain ⟨xs, h1, h2, h3, h4, h5⟩ := open_triples (e := 43) Try.underlying25 Try.underlying43 (by kernel_rfl) rfl rfl rfl rfl rfl rfl (by kernel_rfl) h
  refine ⟨xs.map toH, by simpa using h1, h2, ⟨by simpa using h1, by unfold maxLen at h3; omega, fun hp => ?_⟩, fun s hs => ?_⟩
  · obtain ⟨x, rfl, hx⟩ := h4 hp
    refine ⟨x, rfl, fun j s hj => ?_⟩
    rw [List.getElem?_map] at hj
    cases hq : xs[j]? with
    | none => rw [hq] at hj; cases hj
    | some q =>
      rw [hq] at hj
      injection hj with hj
      subst hj
      obtain ⟨g0, g1, g2⟩ := hx j q hq
      refine ⟨[.int .i64 q.1, .int .i64 q.2.1, .int .i64 q.2.2], rfl, k43_mk W (toH q), ?_⟩
      intro i u hu
      match i with
      | 0 => simp at hu; subst hu; exact g0
      | 1 => simp at hu; subst hu; exact g1
      | 2 => simp at hu; subst hu; exact g2
      | i + 3 => simp at hu
  · obtain ⟨q, hq, rfl⟩ := List.mem_map.1 hs
    exact (h5 q hq).2.2
end Go.Proofs.Ytcmbpboeilojmaa.Sw
