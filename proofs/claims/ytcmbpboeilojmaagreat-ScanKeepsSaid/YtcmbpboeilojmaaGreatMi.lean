/- Maps from int to int that a call makes, read as functions Int → Option Int: the laws for look-up, look-up with ok, store, delete. -/
import Derived.Maps.OwnSet
import Derived.Maps.OwnOps
import Derived.WalkKit
import Derived.Deep.QuietTactic
import Derived.Deep.Draws
namespace Go.Proofs.YtcmbpboeilojmaaGreat.Mi
open Go Go.Maps Go.RowKit

def mget (f : Int → Option Int) (x : Int) : Int := (f x).getD 0
def mhas (f : Int → Option Int) (x : Int) : Bool := (f x).isSome
def mput (f : Int → Option Int) (x v : Int) : Int → Option Int := fun y => if y = x then some v else f y
def mdel (f : Int → Option Int) (x : Int) : Int → Option Int := fun y => if y = x then none else f y
def mnil : Int → Option Int := fun _ => none

def wf (x : Int) : Prop := (Lit.int .i64 x).wf = true

/-- block b of w is a map[int]int of at most n entries that reads as f. -/
def MapIs (P : Program) (K : TypeId) (w : World) (b n : Nat) (f : Int → Option Int) : Prop :=
  ∃ D : DataW Unit, w.ownsMap P K (plainElem P K) b n D ∧ ∀ x, (Maps.has D (.int .i64 x) = (f x).isSome) ∧ (∀ z, f x = none → D.atKey (.int .i64 x) z = z) ∧ (∀ v z, f x = some v → D.atKey (.int .i64 x) z = .lit (.int .i64 v))

section
variable {P : Program} {K t : TypeId} {w : World} {b n : Nat} {f : Int → Option Int}

theorem MapIs.made (w : World) (P : Program) (K : TypeId) : MapIs P K (w.alloc (.map #[] 0)) w.heap.size 0 mnil := by
  refine ⟨.map [], World.ownsMap_made w P K _, fun x => ⟨rfl, fun z _ => rfl, fun v z h => by simp [mnil] at h⟩⟩
theorem MapIs.lt (h : MapIs P K w b n f) : b < w.heap.size := by obtain ⟨D, h, _⟩ := h; exact h.lt
theorem MapIs.mono (h : MapIs P K w b n f) {n' : Nat} (hn : n ≤ n') : MapIs P K w b n' f := by obtain ⟨D, h, hr⟩ := h; exact ⟨D, h.mono hn, hr⟩
theorem MapIs.kept {w' : World} {row : Option Nat} (h : MapIs P K w b n f) (hg : w.grownBy w' row) (hne : some b ≠ row) : MapIs P K w' b n f := by
  obtain ⟨D, h, hr⟩ := h
  exact ⟨D, h.kept hg hne, hr⟩
theorem MapIs.alloc (h : MapIs P K w b n f) (o : Obj) : MapIs P K (w.alloc o) b n f := by
  obtain ⟨D, h, hr⟩ := h
  exact ⟨D, h.alloc o, hr⟩
theorem MapIs.drewN (h : MapIs P K w b n f) (m : Nat) : MapIs P K (w.drewN m) b n f := by
  obtain ⟨D, h, hr⟩ := h
  exact ⟨D, h, hr⟩
theorem MapIs.below {w' : World} (h : MapIs P K w b n f) (hb : Below w.heap.size w w') : MapIs P K w' b n f :=
  h.kept (row := none) ⟨hb.os, hb.tape, hb.output, hb.size, fun i hi _ => hb.block i hi⟩ (by simp)

theorem isKey (x : Int) : WideAt.IsKeyLit (.int .i64 x) := trivial
theorem key_ne {x y : Int} (h : y ≠ x) : Lit.int .i64 y ≠ Lit.int .i64 x := by intro e; injection e with _ e; exact h e

variable {ops : Array Oper} {rest : List Oper} {o : Oper} {a : Act} {Q : Exit → Act → World → Prop}

/-- the same two as equations on the run, to be laid ahead of a walk. -/
theorem MapIs.run_look (hown : MapIs P K w b n f) (hk : P.underlying K = some (.int .i64)) (ht : P.underlying t = some (.map K K)) (hz : ∀ w, (zeroValue K).run P w = .ok (.int .i64 0) w) (key : Int) (hwf : wf key) :
    (Instr.lookup t (.map (some b)) (.int .i64 key) false).run P w = .ok (.int .i64 (mget f key)) w := by
  obtain ⟨D, hD, hr⟩ := hown
  obtain ⟨c, hrun, hat, _⟩ := hD.lookup_int (int_keyed hk) ht hk (hz w) (keyOf_int_mk hk hwf)
  obtain ⟨h1, h2, h3⟩ := hr key
  have : c = mget f key := by
    unfold mget
    cases hf : f key with
    | none => rw [h2 _ hf] at hat; injection hat with hat; injection hat with _ hat; exact hat.symm
    | some v => rw [h3 v _ hf] at hat; injection hat with hat; injection hat with _ hat; exact hat.symm
  rw [← this]; exact hrun
theorem MapIs.run_lookOk (hown : MapIs P K w b n f) (hk : P.underlying K = some (.int .i64)) (ht : P.underlying t = some (.map K K)) (hz : ∀ w, (zeroValue K).run P w = .ok (.int .i64 0) w) (key : Int) (hwf : wf key) :
    (Instr.lookup t (.map (some b)) (.int .i64 key) true).run P w = .ok (.tuple #[.int .i64 (mget f key), .bool (mhas f key)]) w := by
  obtain ⟨D, hD, hr⟩ := hown
  obtain ⟨v, ps, hrun, hv⟩ := hD.look_ok (int_keyed hk) ht (hz w) (plainElem_int hk (by decide)) (keyOf_int_mk hk hwf)
  obtain ⟨c, rfl, hc, _⟩ := plainElem_int_inv hk hv
  have hat := congrArg Prod.fst hc
  obtain ⟨h1, h2, h3⟩ := hr key
  have : c = mget f key := by
    unfold mget
    cases hf : f key with
    | none => rw [show _ = _ from h2 _ hf] at hat; injection hat with hat; injection hat with _ hat; exact hat.symm
    | some v => rw [show _ = _ from h3 v _ hf] at hat; injection hat with hat; injection hat with _ hat; exact hat.symm
  rw [← this, show mhas f key = Maps.has D (.int .i64 key) from h1.symm]; exact hrun

theorem MapIs.run_store (hown : MapIs P K w b n f) (hk : P.underlying K = some (.int .i64)) (ht : P.underlying t = some (.map K K)) (hn : n < maxLen) (key val : Int) (hwf : wf key) (hwv : wf val) :
    ∃ w1, (Instr.mapUpdate t (.map (some b)) (.int .i64 key) (.int .i64 val)).run P w = .ok () w1 ∧ MapIs P K w1 b (n + 1) (mput f key val) ∧ w.grownBy w1 (some b) := by
  obtain ⟨D, hD, hr⟩ := hown
  have hmap := hD.isMap
  obtain ⟨w1, hrun, h1, h2⟩ := hD.update (int_keyed hk) ht hn (keyOf_int_mk hk hwf) (plainElem_int hk hwv)
  refine ⟨w1, hrun, ⟨_, h1, fun y => ?_⟩, h2⟩
  unfold mput
  by_cases hy : y = key
  · subst hy
    simp only [if_true]
    exact ⟨has_put_same hmap (isKey y) _, by simp, fun v' z e => by injection e with e; subst e; exact atKey_put_same hmap (isKey y) _ z⟩
  · rw [if_neg hy]
    obtain ⟨g1, g2, g3⟩ := hr y
    exact ⟨by rw [has_put_other (key_ne hy)]; exact g1, fun z e => by rw [atKey_put_other (key_ne hy)]; exact g2 z e, fun v' z e => by rw [atKey_put_other (key_ne hy)]; exact g3 v' z e⟩
theorem MapIs.run_del (hown : MapIs P K w b n f) (hk : P.underlying K = some (.int .i64)) (ht : P.underlying t = some (.map K K)) (key : Int) (hwf : wf key) (ty : TypeId) :
    ∃ w1, (Builtin.delete_ #[t, K] ty #[.map (some b), .int .i64 key]).run P w = .ok (.tuple #[]) w1 ∧ MapIs P K w1 b n (mdel f key) ∧ w.grownBy w1 (some b) := by
  obtain ⟨D, hD, hr⟩ := hown
  obtain ⟨w1, hrun, h1, h2⟩ := hD.drop (int_keyed hk) ht (keyOf_int_mk hk hwf) ty
  refine ⟨w1, hrun, ⟨_, h1, fun y => ?_⟩, h2.grown⟩
  unfold mdel
  by_cases hy : y = key
  · subst hy
    simp only [if_true]
    exact ⟨has_del_same, fun z _ => atKey_del_same z, fun v' z e => by simp at e⟩
  · rw [if_neg hy]
    obtain ⟨g1, g2, g3⟩ := hr y
    exact ⟨by rw [has_del_other (key_ne hy)]; exact g1, fun z e => by rw [atKey_del_other (key_ne hy)]; exact g2 z e, fun v' z e => by rw [atKey_del_other (key_ne hy)]; exact g3 v' z e⟩

theorem look (hg : o.guard = none) (m x : Operand) (hop : o.op = Op.lookup t m x false)
    (hk : P.underlying K = some (.int .i64)) (ht : P.underlying t = some (.map K K)) (hz : ∀ w, (zeroValue K).run P w = .ok (.int .i64 0) w)
    (hm : a.eval m = .map (some b)) (hown : MapIs P K w b n f) (key : Int) (hx : a.eval x = .int .i64 key) (hwf : wf key)
    (hK : wpList P ops Q rest (a.put o.dst (.int .i64 (mget f key))) w) : wpList P ops Q (o :: rest) a w := by
  obtain ⟨D, hD, hr⟩ := hown
  refine wpList_lookup_own_int w hg m x t hop K K .i64 (int_keyed hk) ht hk (hz w) b n D hm hD _ _ hx (keyOf_int_mk hk hwf) ?_
  intro c hat _
  obtain ⟨h1, h2, h3⟩ := hr key
  have : c = mget f key := by
    unfold mget
    cases hf : f key with
    | none => rw [h2 _ hf] at hat; injection hat with hat; injection hat with _ hat; exact hat.symm
    | some v => rw [h3 v _ hf] at hat; injection hat with hat; injection hat with _ hat; exact hat.symm
  rw [this]
  exact hK

theorem lookOk (hg : o.guard = none) (m x : Operand) (hop : o.op = Op.lookup t m x true)
    (hk : P.underlying K = some (.int .i64)) (ht : P.underlying t = some (.map K K)) (hz : ∀ w, (zeroValue K).run P w = .ok (.int .i64 0) w)
    (hm : a.eval m = .map (some b)) (hown : MapIs P K w b n f) (key : Int) (hx : a.eval x = .int .i64 key) (hwf : wf key)
    (hK : wpList P ops Q rest (a.put o.dst (.tuple #[.int .i64 (mget f key), .bool (mhas f key)])) w) : wpList P ops Q (o :: rest) a w := by
  obtain ⟨D, hD, hr⟩ := hown
  refine wpList_lookup_own_ok_int w hg m x t hop K K .i64 (int_keyed hk) ht hk (hz w) b n D hm hD _ _ hx (keyOf_int_mk hk hwf) ?_
  intro c hat _
  obtain ⟨h1, h2, h3⟩ := hr key
  have : c = mget f key := by
    unfold mget
    cases hf : f key with
    | none => rw [h2 _ hf] at hat; injection hat with hat; injection hat with _ hat; exact hat.symm
    | some v => rw [h3 v _ hf] at hat; injection hat with hat; injection hat with _ hat; exact hat.symm
  rw [this, h1]
  exact hK

theorem store (hg : o.guard = none) (m x v : Operand) (hop : o.op = Op.mapUpdate t m x v)
    (hk : P.underlying K = some (.int .i64)) (ht : P.underlying t = some (.map K K))
    (hm : a.eval m = .map (some b)) (hown : MapIs P K w b n f) (hn : n < maxLen) (key val : Int) (hx : a.eval x = .int .i64 key) (hwf : wf key) (hv : a.eval v = .int .i64 val) (hwv : wf val)
    (hK : ∀ w', MapIs P K w' b (n + 1) (mput f key val) → w.grownBy w' (some b) → wpList P ops Q rest (a.put o.dst undef) w') : wpList P ops Q (o :: rest) a w := by
  obtain ⟨D, hD, hr⟩ := hown
  have hmap := hD.isMap
  refine wpList_mapUpdate_own w hg m x v t hop K K (int_keyed hk) ht _ b n D hm hD hn _ _ _ hx hv (keyOf_int_mk hk hwf) _ [] (plainElem_int hk hwv) ?_
  intro w' h1 h2
  refine hK w' ⟨_, h1, fun y => ?_⟩ h2
  unfold mput
  by_cases hy : y = key
  · subst hy
    simp only [if_true]
    exact ⟨has_put_same hmap (isKey y) _, by simp, fun v' z e => by injection e with e; subst e; exact atKey_put_same hmap (isKey y) _ z⟩
  · rw [if_neg hy]
    obtain ⟨g1, g2, g3⟩ := hr y
    exact ⟨by rw [has_put_other (key_ne hy)]; exact g1, fun z e => by rw [atKey_put_other (key_ne hy)]; exact g2 z e, fun v' z e => by rw [atKey_put_other (key_ne hy)]; exact g3 v' z e⟩

theorem del (hg : o.guard = none) (m x : Operand) (hop : o.op = Op.call { callee := Callee.builtin Builtin.delete, args := #[m, x], argTypes := #[t, K] })
    (hk : P.underlying K = some (.int .i64)) (ht : P.underlying t = some (.map K K))
    (hm : a.eval m = .map (some b)) (hown : MapIs P K w b n f) (key : Int) (hx : a.eval x = .int .i64 key) (hwf : wf key)
    (hK : ∀ w', MapIs P K w' b n (mdel f key) → w.grownBy w' (some b) → wpList P ops Q rest (a.put o.dst (.tuple #[])) w') : wpList P ops Q (o :: rest) a w := by
  obtain ⟨D, hD, hr⟩ := hown
  refine wpList_delete_own w hg m x t K hop K (int_keyed hk) ht _ b n D hm hD _ _ hx (keyOf_int_mk hk hwf) ?_
  intro w' h1 h2
  refine hK w' ⟨_, h1, fun y => ?_⟩ h2.grown
  unfold mdel
  by_cases hy : y = key
  · subst hy
    simp only [if_true]
    exact ⟨has_del_same, fun z _ => atKey_del_same z, fun v' z e => by simp at e⟩
  · rw [if_neg hy]
    obtain ⟨g1, g2, g3⟩ := hr y
    exact ⟨by rw [has_del_other (key_ne hy)]; exact g1, fun z e => by rw [atKey_del_other (key_ne hy)]; exact g2 z e, fun v' z e => by rw [atKey_del_other (key_ne hy)]; exact g3 v' z e⟩
end
end Go.Proofs.YtcmbpboeilojmaaGreat.Mi
