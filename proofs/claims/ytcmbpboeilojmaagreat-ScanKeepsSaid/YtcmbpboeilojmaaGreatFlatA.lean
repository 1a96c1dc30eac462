/- Rows of rows, told cell by cell: several rows of one's own in different blocks, and what a write to one of them leaves of the others. -/
import Derived.Test.YtcmbpboeilojmaaGreatKeep
namespace Go.Proofs.YtcmbpboeilojmaaGreat.Keep
open Go Go.RowKit Go.Proofs.YtcmbpboeilojmaaGreatW.PrintWords
set_option linter.unusedVariables false
set_option linter.unusedSimpArgs false

abbrev nilV : Value := .slice none 0 0
def at_ (vs : List Value) (j : Nat) : Value := vs.getD j nilV
/-- two rows lie in different blocks. -/
def disj (v u : Value) : Prop := v.ownBlock = none ∨ v.ownBlock ≠ u.ownBlock
theorem disj_nil (u : Value) : disj nilV u := .inl rfl
theorem disj.symm {v u : Value} (h : disj v u) : disj u v := by
  rcases h with h | h
  · by_cases hu : u.ownBlock = none
    · exact .inl hu
    · exact .inr (by rw [h]; exact hu)
  · exact .inr h.symm

section
variable {w w1 : World} {base e sz n m : Nat} {v u g : Value} {xs ys : List Value}
theorem own_grown (h : w.ownsRow base e sz v n xs) (hg : w.grownBy w1 u.ownBlock) (hd : disj v u) : w1.ownsRow base e sz v n xs := h.kept hg (hd.imp id (fun h => h))
theorem own_below' (h : w.ownsRow base e sz v n xs) (hb : Below w.heap.size w w1) : w1.ownsRow base e sz v n xs := pw_own_below h hb
theorem disj_fresh (h : w.ownsRow base e sz v n xs) {b : Nat} (hb : g.ownBlock = some b) (hge : w.heap.size ≤ b) : disj v g := by
  cases hv : v.ownBlock with
  | none => exact .inl hv
  | some q => exact .inr (by rw [hv, hb]; intro e'; injection e' with e'; have := (h.lt q hv).2; omega)
theorem disj_step {r u' : Value} (h7 : u'.ownBlock = v.ownBlock ∨ ∃ b, u'.ownBlock = some b ∧ w.heap.size ≤ b) (hown : w.ownsRow base e sz r n xs) (hd : disj r v) : disj r u' := by
  rcases h7 with h | ⟨b, h, hge⟩
  · rcases hd with h1 | h1
    · exact .inl h1
    · exact .inr (by rw [h]; exact h1)
  · exact disj_fresh hown h hge
/-- a row that lies at the head of another one of its block: what keeps the longer one keeps it. -/
theorem own_under (hsz : 0 < sz) (hv : w.ownsRow base e sz v n xs) (hg : w.ownsRow base e sz g m ys) (hb : g.ownBlock = v.ownBlock) (hg1 : w1.ownsRow base e sz g m ys) (hnm : n ≤ m) (hpre : ys.take (n * sz) = xs) : w1.ownsRow base e sz v n xs := by
  rcases hv with ⟨hxl, ⟨rfl, rfl⟩ | ⟨b, cap, cur, rfl, hbb, hh, hnc, hcm, hcs, htake⟩⟩
  · exact ⟨hxl, .inl ⟨rfl, rfl⟩⟩
  · rcases hg with ⟨hyl, ⟨rfl, rfl⟩ | ⟨b', cap', cur', rfl, hbb', hh', hnc', hcm', hcs', htake'⟩⟩
    · simp [Value.ownBlock] at hb
    · have : b' = b := by simpa [Value.ownBlock] using hb
      subst this
      rw [hh] at hh'
      injection hh' with hh'
      injection hh' with hh'
      subst hh'
      have hcap : cap' = cap := Nat.eq_of_mul_eq_mul_right hsz (by rw [← hcs, ← hcs'])
      subst hcap
      rcases hg1 with ⟨_, ⟨h, _⟩ | ⟨b2, cap2, cur2, h2, hbb2, hh2, hnc2, hcm2, hcs2, htake2⟩⟩
      · cases h
      · injection h2 with h2 _ h2b
        injection h2 with h2
        injection h2 with h2
        subst h2 h2b
        refine ⟨hxl, .inr ⟨b', cap', cur2, rfl, hbb2, hh2, hnc, hcm, hcs2, ?_⟩⟩
        rw [← hpre, ← htake2, List.take_take, Nat.min_eq_left (Nat.mul_le_mul_right _ hnm)]
end

theorem row_cell {w : World} {base e G n c : Nat} {m : Nat} {gs : List Value} (h : w.ownsRow base e 1 (.slice (some ⟨G, 0, none⟩) n c) m gs) (k : Nat) (hk : k < gs.length) : ∃ z, w.cell? ⟨G, k, none⟩ = some z :=
  ⟨gs[k], by have := h.cells (g := G) rfl k gs[k] (List.getElem?_eq_getElem hk); rwa [add_plain] at this⟩

theorem cells_lit1 (w : World) (v : Value) (e : TypeId) : ∀ (j : Nat) (u : Value), [v][j]? = some u → (w.alloc (Obj.cells #[v] e)).cell? ((⟨w.heap.size, 0, none⟩ : Addr).add j) = some u := by
  intro j u h
  cases j with
  | zero => simp at h; subst h; exact (World.ownsRow_lit (e := e) (base := 0) (size := 1) w #[v] 1 (Nat.zero_le _) (by simp [maxLen]) rfl).cells (g := w.heap.size) rfl 0 v rfl
  | succ j => simp at h
/-- rows v 0, v 1, .. with their lengths and cells. -/
def RowsO (w : World) (base e sz : Nat) (vs : List Value) (ns : List Nat) (cs : Nat → List Value) : Prop := ∀ j, j < vs.length → w.ownsRow base e sz (at_ vs j) (ns.getD j 0) (cs j)
/-- no two of them, nor of the others, lie in one block. -/
def Apart (vs gs : List Value) : Prop := ∀ i j, i ≠ j → disj (at_ vs i) (at_ gs j)
def upd1 (cs : Nat → List Value) (k : Nat) (c : List Value) : Nat → List Value := fun j => if j = k then c else cs j
theorem upd1_same (cs : Nat → List Value) (k : Nat) (c : List Value) : upd1 cs k c k = c := by simp [upd1]
theorem upd1_other {cs : Nat → List Value} {k j : Nat} {c : List Value} (h : j ≠ k) : upd1 cs k c j = cs j := by simp [upd1, h]
section
variable {w w1 : World} {base e sz : Nat} {vs : List Value} {ns : List Nat} {cs : Nat → List Value}
theorem RowsO.below (h : RowsO w base e sz vs ns cs) (hb : Below w.heap.size w w1) : RowsO w1 base e sz vs ns cs := fun j hj => own_below' (h j hj) hb
theorem RowsO.other (h : RowsO w base e sz vs ns cs) {u : Value} (hg : w.grownBy w1 u.ownBlock) (hd : ∀ j, j < vs.length → disj (at_ vs j) u) : RowsO w1 base e sz vs ns cs := fun j hj => own_grown (h j hj) hg (hd j hj)
theorem RowsO.set (h : RowsO w base e sz vs ns cs) {k : Nat} {c : List Value} (ha : Apart vs vs) (hg : w.grownBy w1 (at_ vs k).ownBlock) (hk : w1.ownsRow base e sz (at_ vs k) (ns.getD k 0) c) : RowsO w1 base e sz vs ns (upd1 cs k c) := by
  intro j hj
  by_cases e' : j = k
  · subst e'; rw [upd1_same]; exact hk
  · rw [upd1_other e']; exact own_grown (h j hj) hg (ha j k e')
theorem RowsO.congr (h : RowsO w base e sz vs ns cs) {cs' : Nat → List Value} (hc : ∀ j, j < vs.length → cs j = cs' j) : RowsO w base e sz vs ns cs' := fun j hj => by rw [← hc j hj]; exact h j hj
end

/-- what was there ahead stays, but for the rows vs. -/
def KQ (w w' : World) (vs : List Value) : Prop := ∀ q, q < w.heap.size → (∀ j, (at_ vs j).ownBlock ≠ some q) → w'.heap[q]? = w.heap[q]?
theorem KQ.refl (w : World) (vs : List Value) : KQ w w vs := fun _ _ _ => rfl
theorem KQ.step {w w1 w2 : World} {vs : List Value} (h : KQ w w1 vs) (hs : w.heap.size ≤ w1.heap.size) {row : Option Nat} (hg : w1.grownBy w2 row) (hr : ∀ q, row = some q → w.heap.size ≤ q ∨ ∃ j, (at_ vs j).ownBlock = some q) : KQ w w2 vs := fun q hq hv => by
  rw [hg.block q (by omega) (fun e => by
    rcases hr q e.symm with h1 | ⟨j, h1⟩
    · omega
    · exact hv j h1)]
  exact h q hq hv
theorem KQ.below {w w1 w2 : World} {vs : List Value} (h : KQ w w1 vs) (hs : w.heap.size ≤ w1.heap.size) (hb : Below w1.heap.size w1 w2) : KQ w w2 vs := fun q hq hv => by
  rw [hb.block q (by omega)]; exact h q hq hv

section
variable {P : Program} {ops : Array Oper} {rest : List Oper} {o : Oper} {a : Act} {Q : Exit → Act → World → Prop}
/-- append(v, x..), told cell by cell, at an operation that is carried out: the row that was appended to stays. -/
theorem O_append_keep {w0 W : World} (base : Nat) (hgd : o.guard = none) (s x : Operand) (t e : TypeId) (z : Value) (size bytes : Nat)
    (ho : o.op = .call { callee := .builtin .append, args := #[s, x], argTypes := #[t, t] })
    (ht : P.underlying t = some (.slice e)) (hinfo : (P.info? e).map (fun i => (i.zero, i.size, i.bytes)) = some (some z, size, bytes)) (hz : z.cells.size = size) (hs0 : 0 < size) (hb0 : 0 < bytes)
    (v : Value) (n : Nat) (xs : List Value) (m c : Nat) (news : List Value) (ad : Addr) (hs : a.eval s = v) (hx : a.eval x = .slice (some ad) m c)
    (hlen : news.length = m * size) (hcells : ∀ j u, news[j]? = some u → W.cell? (ad.add j) = some u) (hone : ∀ u ∈ news, u.oneCell' = true)
    (HO : W.ownsRow base e size v n xs) (HB : Below base w0 W) (hbase : base ≤ W.heap.size) (hl : (n + m) * bytes ≤ 140737488355328)
    (h : ∀ v1 w1, w1.ownsRow base e size v1 (n + m) (xs ++ news) → w1.ownsRow base e size v n xs → Below base w0 w1 → W.grownBy w1 v.ownBlock → (v1.ownBlock = v.ownBlock ∨ v1.ownBlock = some W.heap.size) → wpList P ops Q rest (a.put o.dst v1) w1) :
    wpList P ops Q (o :: rest) a W := by
  obtain ⟨i0, hi, hzz⟩ := Option.map_eq_some_iff.1 hinfo
  simp only [Prod.mk.injEq] at hzz
  obtain ⟨hz0, hz1, hz2⟩ := hzz
  have hle : n + m ≤ 140737488355328 := Nat.le_trans (Nat.le_mul_of_pos_right _ hb0) hl
  obtain ⟨v1, w1, hrun, h2, h3, h5, h6⟩ := run_append_keep (P := P) W base t o.type e i0 z size bytes ht hi hz0 hz1 hz2 hz hs0 v n xs HO ad m c news hlen hcells hone (by simp only [maxLen]; omega) hl hbase
  refine wpList_plain hgd fun K hK => ?_
  unfold Oper.wp execOp
  simp only [ho, resolve, invoke, builtin, Sem.run_bind, Sem.run_pure, Result.andThen_ok, List.map_toArray, List.map_cons, List.map_nil, hs, hx, hrun]
  exact hK _ _ (h v1 w1 h2 h6 (HB.grown h3 hbase (own_base HO)) h3 h5)
end
end Go.Proofs.YtcmbpboeilojmaaGreat.Keep
