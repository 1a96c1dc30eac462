/- calls.Parts: what it hands back as rows of its own; the memory in which the walker is begun. -/
import Derived.Test.YtligpleningglaaFr
namespace Go.Proofs.Ytligpleningglaa.Cw
open Go Go.RowKit Go.Proofs.Ytligpleningglaa.Tarjan Go.Proofs.YtligpleningglaaW.PrintWords Go.Proofs.YtligpleningglaaW.PrintLast Go.Proofs.YtligpleningglaaW.PrintMore Go.Proofs.Ytligpleningglaa.F
set_option linter.unusedVariables false
set_option linter.unusedSimpArgs false
theorem R_ints {w : World} {B : Nat} {v : Value} {xs : List Int} (h : w.ownsRow B 3 1 v xs.length (xs.map (Value.int .i64))) : Kd.R (Kd.int .i64) 3 w B (fun k => some k = v.ownBlock) v xs :=
  Kd.R_of_own h (fun k hk => hk.symm)
theorem S_rows {w : World} {B : Nat} {v : Value} {ps : List Value} {rows : List (List Int)} (h : w.ownsRow B 35 1 v rows.length ps) (hr : ∀ j, j < rows.length → w.ownsRow B 3 1 (pt ps j) (rows.getD j []).length ((rows.getD j []).map (Value.int .i64)))
    (ha : ∀ i j, i < j → j < rows.length → (pt ps i).ownBlock = none ∨ (pt ps i).ownBlock ≠ (pt ps j).ownBlock) : Kd.S (Kd.slice 3 (Kd.int .i64)) 35 w B (fun _ => True) v rows := by
  classical
  have hpl : ps.length = rows.length := by have := h.1; omega
  obtain ⟨f, hf⟩ : ∃ f : Nat → Nat, ∀ i b, i < rows.length → (pt ps i).ownBlock = some b → f b = i := by
    refine ⟨fun b => if h : ∃ i, i < rows.length ∧ (pt ps i).ownBlock = some b then Classical.choose h else 0, fun i b hi hbv => ?_⟩
    have hx : ∃ i, i < rows.length ∧ (pt ps i).ownBlock = some b := ⟨i, hi, hbv⟩
    simp only [dif_pos hx]
    obtain ⟨hi2, hb2⟩ := Classical.choose_spec hx
    rcases Nat.lt_trichotomy (Classical.choose hx) i with h1 | h1 | h1
    · rcases ha _ _ h1 hi with h2 | h2
      · rw [h2] at hb2; cases hb2
      · exact absurd (hb2.trans hbv.symm) h2
    · exact h1
    · rcases ha _ _ h1 hi2 with h2 | h2
      · rw [h2] at hbv; cases hbv
      · exact absurd (hbv.trans hb2.symm) h2
  have hcl : ps.length = rows.zipIdx.length * 1 := by rw [Nat.mul_one, List.length_zipIdx]; exact hpl
  refine ⟨f, fun _ _ => trivial, ps, by rw [List.length_zipIdx]; exact h, hcl, fun j q hj => ?_⟩
  obtain ⟨x, i⟩ := q
  have hjl : j < rows.length := by
    have := (List.getElem?_eq_some_iff.1 hj).1
    simpa using this
  have hxi : rows[j] = x ∧ j = i := by
    rw [List.getElem?_zipIdx, List.getElem?_eq_getElem hjl] at hj
    simpa using hj
  obtain ⟨rfl, rfl⟩ := hxi
  have h5 := hr j hjl
  have hp : rows.getD j [] = rows[j] := by rw [List.getD_eq_getElem?_getD, List.getElem?_eq_getElem hjl]; rfl
  rw [hp] at h5
  have hv4 : ps[j]? = some (pt ps j) := by
    unfold pt
    rw [List.getElem?_eq_getElem (by omega), List.getD_eq_getElem?_getD, List.getElem?_eq_getElem (by omega)]; rfl
  refine ⟨pt ps j, ?_, ?_⟩
  · rw [show (Kd.tag f (Kd.slice 3 (Kd.int .i64))).sz = 1 from rfl, Nat.mul_one]
    apply List.ext_getElem?
    intro i
    cases i with
    | zero => simpa using hv4
    | succ i => simp [List.getElem?_take]
  · refine Kd.R_mono (R_ints h5) (fun k hk => ?_)
    have hk' : (pt ps j).ownBlock = some k := hk.symm
    refine ⟨⟨trivial, fun e => ?_⟩, hf j k hjl hk'⟩
    rcases own_tne h5 h (by decide) with h6 | h6
    · rw [h6] at hk'; cases hk'
    · exact h6 (hk'.trans e)
/-- the struct's cells while the edges are laid. -/
def pbF (bw bl bo N : Nat) (nv : Value) : Nat → Value
  | 0 => nv
  | 1 => rowV bw N
  | 2 => rowV bl N
  | 3 => nilV
  | 4 => rowV bo N
  | 5 => nilV
  | _ => nilV
structure PB (w0 w : World) (g bw bl bo N : Nat) (nv : Value) (vals : List Value) (rows : List (List Nat)) : Prop where
  gs : w.rowIs g 49 7 (pbF bw bl bo N nv)
  ws : w.rowIs bw 3 N (fun _ => .int .i64 0)
  ls : w.rowIs bl 3 N (fun _ => .int .i64 0)
  os : w.rowIs bo 4 N (fun _ => .bool false)
  d1 : bw ≠ bl
  nvo : w.ownsRow w0.heap.size 35 1 nv rows.length vals
  vr : ∀ v, v < rows.length → w.ownsRow w0.heap.size 3 1 (pt vals v) (rows.getD v []).length (ints (rows.getD v []))
  vb : ∀ v, v < rows.length → ∀ k, (pt vals v).ownBlock = some k → k ≠ bw ∧ k ≠ bl
  ge : w0.heap.size ≤ g ∧ w0.heap.size ≤ bw ∧ w0.heap.size ≤ bl ∧ w0.heap.size ≤ bo
  fr : Below w0.heap.size w0 w
theorem own_row_ne {w : World} {B e s n : Nat} {v : Value} {xs : List Value} (h : w.ownsRow B e s v n xs) {b t m : Nat} {f : Nat → Value} (hr : w.rowIs b t m f) (hne : e ≠ t) : v.ownBlock ≠ some b := by
  intro hk
  obtain ⟨cells, hc⟩ := own_typed h b hk
  obtain ⟨c, hb, _⟩ := hr
  rw [hc] at hb
  injection hb with hb
  injection hb with _ hb
  exact hne hb
section
variable {w0 w : World} {g bw bl bo N : Nat} {nv : Value} {vals : List Value} {rows : List (List Nat)}
theorem PB.below {w' : World} (h : PB w0 w g bw bl bo N nv vals rows) (hb : Below w.heap.size w w') : PB w0 w' g bw bl bo N nv vals rows :=
  ⟨h.gs.of_block (hb.block _ h.gs.lt), h.ws.of_block (hb.block _ h.ws.lt), h.ls.of_block (hb.block _ h.ls.lt), h.os.of_block (hb.block _ h.os.lt), h.d1,
    own_move h.nvo (fun k hk => hb.block k (h.nvo.lt k hk).2), fun v hv => own_move (h.vr v hv) (fun k hk => hb.block k ((h.vr v hv).lt k hk).2), h.vb, h.ge, h.fr.trans (hb.mono h.fr.size)⟩
theorem PB.c0 (h : PB w0 w g bw bl bo N nv vals rows) : w.cell? ⟨g, 0, none⟩ = some nv := h.gs.cell (by omega)
/-- one more row of edges. -/
theorem PB.push {w1 w' : World} (h : PB w0 w g bw bl bo N nv vals rows) (hw1 : Below w.heap.size w w1) (C : List Nat) (v : Value) {k c : Nat} (hv : w1.ownsRow w.heap.size 3 1 v C.length (ints C)) (hg : w1.grownBy w' nv.ownBlock)
    (ho : w'.ownsRow w0.heap.size 35 1 (.slice (some ⟨k, 0, none⟩) (rows.length + 1) c) (rows.length + 1) (vals ++ [v])) :
    PB w0 (w'.setCell ⟨g, 0, none⟩ (.slice (some ⟨k, 0, none⟩) (rows.length + 1) c)) g bw bl bo N (.slice (some ⟨k, 0, none⟩) (rows.length + 1) c) (vals ++ [v]) (rows ++ [C]) := by
  have h1 := h.below hw1
  have hsz : w0.heap.size ≤ w.heap.size := h.fr.size
  have nvt : ∀ b, b < w1.heap.size → nv.ownBlock ≠ some b → w'.heap[b]? = w1.heap[b]? := fun b hb hn => hg.block b hb (fun e => hn e.symm)
  have kg := own_row_ne h1.nvo h1.gs (by decide)
  have kw := own_row_ne h1.nvo h1.ws (by decide)
  have kl := own_row_ne h1.nvo h1.ls (by decide)
  have ko := own_row_ne h1.nvo h1.os (by decide)
  have gs' := h1.gs.of_block (nvt g h1.gs.lt kg)
  have hv0 : w1.ownsRow w0.heap.size 3 1 v C.length (ints C) := own_weaken hv hsz
  have keep : ∀ {u : Value} {n : Nat} {xs : List Value}, w1.ownsRow w0.heap.size 3 1 u n xs → (w'.setCell ⟨g, 0, none⟩ (.slice (some ⟨k, 0, none⟩) (rows.length + 1) c)).ownsRow w0.heap.size 3 1 u n xs := fun {u n xs} hu => by
    have h2 := own_keep hu hg (own_tne hu h1.nvo (by decide))
    exact ownsRow_setCell_other h2 (own_row_ne h2 gs' (by decide)) _
  have hvl : vals.length = rows.length := by have := h.nvo.1; omega
  have hold : ∀ j, j < rows.length → pt (vals ++ [v]) j = pt vals j := fun j hj => getD_snoc_lt (by omega)
  have hnew : ∀ j, j = rows.length → pt (vals ++ [v]) j = v := fun j hj => getD_snoc_at (by omega)
  have hL : (rows ++ [C]).length = rows.length + 1 := by simp
  refine ⟨(gs'.set 0 _).congr fun i hi => ?_, (h1.ws.of_block (nvt bw h1.ws.lt kw)).setOther (rowIs_tne h1.ws h1.gs (by decide)) _, (h1.ls.of_block (nvt bl h1.ls.lt kl)).setOther (rowIs_tne h1.ls h1.gs (by decide)) _,
    (h1.os.of_block (nvt bo h1.os.lt ko)).setOther (rowIs_tne h1.os h1.gs (by decide)) _, h.d1, ?_, fun j hj => ?_, fun j hj b hb => ?_, h.ge, ?_⟩
  · match i, hi with
    | 0, _ => rfl
    | 1, _ => rfl
    | 2, _ => rfl
    | 3, _ => rfl
    | 4, _ => rfl
    | 5, _ => rfl
    | 6, _ => rfl
  · rw [hL]
    refine ownsRow_setCell_other ho (own_row_ne ho gs' (by decide)) _
  · rw [hL] at hj
    rcases Nat.lt_or_ge j rows.length with h2 | h2
    · rw [hold j h2, getD_snoc_lt h2]; exact keep (h1.vr j h2)
    · have e : j = rows.length := by omega
      rw [hnew j e, getD_snoc_at e]; exact keep hv0
  · rw [hL] at hj
    rcases Nat.lt_or_ge j rows.length with h2 | h2
    · rw [hold j h2] at hb; exact h.vb j h2 b hb
    · rw [hnew j (by omega)] at hb
      have h3 := (hv.lt b hb).1
      have h4 := h.ws.lt
      have h5 := h.ls.lt
      exact ⟨by omega, by omega⟩
  · exact (h1.fr.grown hg (Nat.le_trans hsz hw1.size) (fun b e => (h1.nvo.lt b e).1)).setCell h.ge.1 _
theorem start_mm (h : PB w0 w g bw bl bo N nv vals rows) (hN : rows.length = N) (nx : Nat → List Nat) (hnx : ∀ v, v < N → nx v = rows.getD v []) :
    Ws w0 (w.alloc (.cells #[.int .i64 0] 3)) ⟨g, bw, bl, bo, w.heap.size, N, w.heap.size + 1, nv⟩ (w.alloc (.cells #[.int .i64 0] 3)) (mm startP nilV nilV nilV []) ∧ NX ⟨g, bw, bl, bo, w.heap.size, N, w.heap.size + 1, nv⟩ nx (w.alloc (.cells #[.int .i64 0] 3)) vals := by
  have h1 := h.below (below_alloc (Below.refl _ _) (.cells #[.int .i64 0] 3))
  have lt : ∀ b, b < w.heap.size → b < w.heap.size + 1 := fun b hb => by omega
  have hsz : (w.alloc (.cells #[.int .i64 0] 3)).heap.size = w.heap.size + 1 := by simp
  have hbn : (w.alloc (.cells #[.int .i64 0] 3)).rowIs w.heap.size 3 1 (fun _ => .int .i64 ((0 : Nat) : Int)) := World.rowIs_alloc w #[.int .i64 0] 3 _ (fun i hi => by
    have : i = 0 := by simp at hi; omega
    subst this; rfl)
  have own0 : ∀ (e s : Nat), (w.alloc (.cells #[.int .i64 0] 3)).ownsRow (w.heap.size + 1) e s nilV 0 [] := fun e s => World.ownsRow_nil _ _ _ _
  refine ⟨⟨h1.gs.congr fun i hi => ?_, h1.ws, h1.ls, h1.os.congr fun i hi => ?_, hbn, own0 3 1, own0 73 2, own0 35 1, fun j hj => absurd hj (Nat.not_lt_zero _), fun j hj => absurd hj (Nat.not_lt_zero _), fun i j _ hj => absurd hj (Nat.not_lt_zero _),
    h.d1, fun e => by have := h.ws.lt; have e' : w.heap.size = bw := e; omega, fun e => by have := h.ls.lt; have e' : w.heap.size = bl := e; omega, fun b hb => ?_, fun b hb => ?_, ⟨?_, ?_⟩, h1.fr, fun b _ _ => rfl⟩, ?_⟩
  · match i, hi with
    | 0, _ => rfl
    | 1, _ => rfl
    | 2, _ => rfl
    | 3, _ => rfl
    | 4, _ => rfl
    | 5, _ => rfl
    | 6, _ => rfl
  · show Value.bool false = Value.bool (decide (i ∈ startP.row))
    simp [startP]
  · show b < w.heap.size + 1
    rcases hb with e | e | e | e | e
    · have e' : b = g := e; have := h.gs.lt; omega
    · have e' : b = bw := e; have := h.ws.lt; omega
    · have e' : b = bl := e; have := h.ls.lt; omega
    · have e' : b = bo := e; have := h.os.lt; omega
    · have e' : b = w.heap.size := e; omega
  · have hf := h.fr.size
    rcases hb with e | e | e | e | e
    · have e' : b = g := e; have := h.ge; omega
    · have e' : b = bw := e; have := h.ge; omega
    · have e' : b = bl := e; have := h.ge; omega
    · have e' : b = bo := e; have := h.ge; omega
    · have e' : b = w.heap.size := e; omega
  · have := h.fr.size; show w0.heap.size ≤ w.heap.size + 1; omega
  · rw [hsz]; exact Nat.le_refl _
  · subst hN
    refine ⟨own_weaken h1.nvo (Nat.zero_le _), fun v hv => ?_, fun k hk => ?_, fun v hv k hk => ?_⟩
    · rw [hnx v hv]; exact own_weaken (h1.vr v hv) (Nat.zero_le _)
    · have hlt := (h.nvo.lt k hk).2
      refine ⟨lt k hlt, fun e => ?_⟩
      rcases e with e | e | e | e | e
      · exact own_row_ne h.nvo h.gs (by decide) (by rw [hk]; exact congrArg some e)
      · exact own_row_ne h.nvo h.ws (by decide) (by rw [hk]; exact congrArg some e)
      · exact own_row_ne h.nvo h.ls (by decide) (by rw [hk]; exact congrArg some e)
      · exact own_row_ne h.nvo h.os (by decide) (by rw [hk]; exact congrArg some e)
      · have e' : k = w.heap.size := e; omega
    · have hr := h.vr v hv
      have hlt := (hr.lt k hk).2
      refine ⟨lt k hlt, fun e => ?_⟩
      rcases e with e | e | e | e | e
      · exact own_row_ne hr h.gs (by decide) (by rw [hk]; exact congrArg some e)
      · exact (h.vb v hv k hk).1 e
      · exact (h.vb v hv k hk).2 e
      · exact own_row_ne hr h.os (by decide) (by rw [hk]; exact congrArg some e)
      · have e' : k = w.heap.size := e; omega
end
end Go.Proofs.Ytligpleningglaa.Cw
