/- The walker's memory: what grows, what is taken off, what is written on the way. -/
import Derived.Test.YtligpleningglaaWk
namespace Go.Proofs.Ytligpleningglaa.Cw
open Go Go.RowKit Go.Proofs.Ytligpleningglaa.Tarjan
set_option linter.unusedVariables false
set_option linter.unusedSimpArgs false
section
variable {w0 w1 w : World} {p : Pl} {m : Mm}
theorem own_keep {w w' : World} {B e s n : Nat} {v u : Value} {xs : List Value} (h : w.ownsRow B e s v n xs) (hg : w.grownBy w' u.ownBlock) (hd : v.ownBlock = none ∨ v.ownBlock ≠ u.ownBlock) : w'.ownsRow B e s v n xs := h.kept hg hd
theorem own_lt {w : World} {B e s n : Nat} {v : Value} {xs : List Value} (h : w.ownsRow B e s v n xs) {k : Nat} (e' : v.ownBlock = some k) : k < w.heap.size := (h.lt k e').2
theorem apart_fresh {w : World} {B e s n : Nat} {v : Value} {xs : List Value} (h : w.ownsRow B e s v n xs) {u : Value} {k : Nat} (hu : u.ownBlock = some k) (hk : w.heap.size ≤ k) : v.ownBlock = none ∨ v.ownBlock ≠ u.ownBlock := by
  cases hv : v.ownBlock with
  | none => exact .inl rfl
  | some q => exact .inr (by rw [hu]; intro e'; injection e' with e'; have := own_lt h hv; omega)
/-- behind an append: the same block or one that is new. -/
theorem apart_step {w : World} {B e s n : Nat} {v r : Value} {xs : List Value} (h : w.ownsRow B e s v n xs) {k c q H : Nat} (hat : r.ownBlock = some k ∨ k = H) (hH : w.heap.size = H) (hd : v.ownBlock = none ∨ v.ownBlock ≠ r.ownBlock) :
    v.ownBlock = none ∨ v.ownBlock ≠ (Value.slice (some ⟨k, 0, none⟩) q c).ownBlock := by
  rcases hat with e' | e'
  · rcases hd with h1 | h1
    · exact .inl h1
    · exact .inr (by rw [e'] at h1; exact h1)
  · exact apart_fresh (k := k) h rfl (by omega)
theorem own_drop {w : World} {B n s e : Nat} {v : Value} {xs : List Value} (h : w.ownsRow B e s v n xs) : ∀ k, v.ownBlock = some k → B ≤ k ∧ k < w.heap.size := h.lt
theorem Ws.pushRow {w' : World} (h : Ws w0 w1 p w m) (i : Nat) {k c H : Nat} (hg : w.grownBy w' m.rv.ownBlock) (ho : w'.ownsRow p.B 3 1 (.slice (some ⟨k, 0, none⟩) (m.row.length + 1) c) (m.row.length + 1) (ints m.row ++ [.int .i64 (i : Nat)])) (hat : m.rv.ownBlock = some k ∨ k = H) (hH : w.heap.size = H) :
    Ws w0 w1 p (w'.setCell ⟨p.g, 3, none⟩ (.slice (some ⟨k, 0, none⟩) (m.row.length + 1) c)) { m with row := m.row ++ [i], rv := .slice (some ⟨k, 0, none⟩) (m.row.length + 1) c } := by
  have hpp : ∀ j, j < m.parts.length → w'.ownsRow p.B 3 1 (pt m.ps j) (m.parts.getD j []).length (ints (m.parts.getD j [])) := fun j hj => own_keep (h.pp j hj) hg (h.pd j hj)
  have hblk : ∀ b, b < p.B → w'.heap[b]? = w.heap[b]? := fun b hlt => hg.block b (Nat.lt_of_lt_of_le hlt h.sz.2) (fun e => by have := (h.rr.lt b e.symm).1; omega)
  have hz : Ws w0 w1 p w' { m with row := m.row ++ [i], rv := .slice (some ⟨k, 0, none⟩) (m.row.length + 1) c } → True := fun _ => trivial
  have hgs : (w'.setCell ⟨p.g, 3, none⟩ (.slice (some ⟨k, 0, none⟩) (m.row.length + 1) c)).rowIs p.g 49 7 (wkF p { m with row := m.row ++ [i], rv := .slice (some ⟨k, 0, none⟩) (m.row.length + 1) c }) :=
    ((h.gs.of_block (hblk _ h.gl)).set 3 _).congr fun i hi => by
      match i, hi with
      | 0, _ => rfl
      | 1, _ => rfl
      | 2, _ => rfl
      | 3, _ => rfl
      | 4, _ => rfl
      | 5, _ => rfl
      | 6, _ => rfl
  have ho' : w'.ownsRow p.B 3 1 (.slice (some ⟨k, 0, none⟩) (m.row.length + 1) c) (m.row ++ [i]).length (ints (m.row ++ [i])) := by
    rw [List.length_append, show ints (m.row ++ [i]) = ints m.row ++ [Value.int .i64 (i : Nat)] by simp [ints]]
    exact ho
  refine ⟨hgs, (h.ws.of_block (hblk _ h.wl)).setOther (Ne.symm h.gw) _, (h.ls.of_block (hblk _ h.ll)).setOther (Ne.symm h.gl') _, (h.os.of_block (hblk _ h.ol)).setOther (Ne.symm h.go) _, (h.ns.of_block (hblk _ h.nl)).setOther (Ne.symm h.gn) _,
    ownsRow_setCell_below ho' h.gl _, ownsRow_setCell_below (own_keep h.wy hg (own_tne h.wy h.rr (by decide))) h.gl _, ownsRow_setCell_below (own_keep h.pr hg (own_tne h.pr h.rr (by decide))) h.gl _, fun j hj => ownsRow_setCell_below (hpp j hj) h.gl _,
    fun j hj => apart_step (h.pp j hj) hat hH (h.pd j hj), h.pa, h.d1, h.d2, h.d3, h.lt, h.ge, ⟨h.sz.1, ?_⟩, ?_, fun b hlb hn => ?_⟩
  · have := h.sz.2; have := hg.size; simp [World.setCell]; omega
  · exact (h.fr.grown hg (Nat.le_trans h.sz.1 h.sz.2) (fun k e => Nat.le_trans h.sz.1 (h.rr.lt k e).1)).setCell (h.ge _ (.inl rfl)) _
  · rw [Deep.blk_setCell_other _ _ _ _ (show b ≠ p.g from fun e => hn (.inl e)), hblk b hlb]; exact h.fz b hlb hn
theorem Ws.pushWay {w' : World} (h : Ws w0 w1 p w m) (i : Nat) {k c H : Nat} (hg : w.grownBy w' m.wv.ownBlock) (ho : w'.ownsRow p.B 73 2 (.slice (some ⟨k, 0, none⟩) (m.way.length + 1) c) (m.way.length + 1) (steps m.way ++ [.int .i64 (i : Nat), .int .i64 0])) :
    Ws w0 w1 p (w'.setCell ⟨p.g, 5, none⟩ (.slice (some ⟨k, 0, none⟩) (m.way.length + 1) c)) { m with way := (i, 0) :: m.way, wv := .slice (some ⟨k, 0, none⟩) (m.way.length + 1) c } := by
  have hpp : ∀ j, j < m.parts.length → w'.ownsRow p.B 3 1 (pt m.ps j) (m.parts.getD j []).length (ints (m.parts.getD j [])) := fun j hj => own_keep (h.pp j hj) hg (own_tne (h.pp j hj) h.wy (by decide))
  have hblk : ∀ b, b < p.B → w'.heap[b]? = w.heap[b]? := fun b hlt => hg.block b (Nat.lt_of_lt_of_le hlt h.sz.2) (fun e => by have := (h.wy.lt b e.symm).1; omega)
  have hgs : (w'.setCell ⟨p.g, 5, none⟩ (.slice (some ⟨k, 0, none⟩) (m.way.length + 1) c)).rowIs p.g 49 7 (wkF p { m with way := (i, 0) :: m.way, wv := .slice (some ⟨k, 0, none⟩) (m.way.length + 1) c }) :=
    ((h.gs.of_block (hblk _ h.gl)).set 5 _).congr fun i hi => by
      match i, hi with
      | 0, _ => rfl
      | 1, _ => rfl
      | 2, _ => rfl
      | 3, _ => rfl
      | 4, _ => rfl
      | 5, _ => rfl
      | 6, _ => rfl
  refine ⟨hgs, (h.ws.of_block (hblk _ h.wl)).setOther (Ne.symm h.gw) _, (h.ls.of_block (hblk _ h.ll)).setOther (Ne.symm h.gl') _, (h.os.of_block (hblk _ h.ol)).setOther (Ne.symm h.go) _, (h.ns.of_block (hblk _ h.nl)).setOther (Ne.symm h.gn) _,
    ownsRow_setCell_below (own_keep h.rr hg (own_tne h.rr h.wy (by decide))) h.gl _, ownsRow_setCell_below ho h.gl _, ownsRow_setCell_below (own_keep h.pr hg (own_tne h.pr h.wy (by decide))) h.gl _, fun j hj => ownsRow_setCell_below (hpp j hj) h.gl _,
    h.pd, h.pa, h.d1, h.d2, h.d3, h.lt, h.ge, ⟨h.sz.1, ?_⟩, ?_, fun b hlb hn => ?_⟩
  · have := h.sz.2; have := hg.size; simp [World.setCell]; omega
  · exact (h.fr.grown hg (Nat.le_trans h.sz.1 h.sz.2) (fun k e => Nat.le_trans h.sz.1 (h.wy.lt k e).1)).setCell (h.ge _ (.inl rfl)) _
  · rw [Deep.blk_setCell_other _ _ _ _ (show b ≠ p.g from fun e => hn (.inl e)), hblk b hlb]; exact h.fz b hlb hn
theorem getD_snoc_lt {α : Type} {l : List α} {x d : α} {j : Nat} (h : j < l.length) : (l ++ [x]).getD j d = l.getD j d := by
  rw [List.getD_eq_getElem?_getD, List.getD_eq_getElem?_getD, List.getElem?_append_left h]
theorem getD_snoc_at {α : Type} {l : List α} {x d : α} {j : Nat} (h : j = l.length) : (l ++ [x]).getD j d = x := by
  subst h
  rw [List.getD_eq_getElem?_getD, List.getElem?_append_right (Nat.le_refl _)]; simp
theorem Ws.pl (h : Ws w0 w1 p w m) : m.ps.length = m.parts.length := by have := h.pr.1; omega
theorem Ws.pushPart {w' : World} (h : Ws w0 w1 p w m) (C : List Nat) (v : Value) {k c H : Nat} (hv : w.ownsRow p.B 3 1 v C.length (ints C)) (hvr : v.ownBlock = none ∨ v.ownBlock ≠ m.rv.ownBlock) (hvp : ∀ j, j < m.parts.length → (pt m.ps j).ownBlock = none ∨ (pt m.ps j).ownBlock ≠ v.ownBlock)
    (hg : w.grownBy w' m.pv.ownBlock) (ho : w'.ownsRow p.B 35 1 (.slice (some ⟨k, 0, none⟩) (m.parts.length + 1) c) (m.parts.length + 1) (m.ps ++ [v])) :
    Ws w0 w1 p (w'.setCell ⟨p.g, 6, none⟩ (.slice (some ⟨k, 0, none⟩) (m.parts.length + 1) c)) { m with parts := m.parts ++ [C], ps := m.ps ++ [v], pv := .slice (some ⟨k, 0, none⟩) (m.parts.length + 1) c } := by
  have hl := h.pl
  have hpp : ∀ j, j < m.parts.length → w'.ownsRow p.B 3 1 (pt m.ps j) (m.parts.getD j []).length (ints (m.parts.getD j [])) := fun j hj => own_keep (h.pp j hj) hg (own_tne (h.pp j hj) h.pr (by decide))
  have hblk : ∀ b, b < p.B → w'.heap[b]? = w.heap[b]? := fun b hlt => hg.block b (Nat.lt_of_lt_of_le hlt h.sz.2) (fun e => by have := (h.pr.lt b e.symm).1; omega)
  have hgs : (w'.setCell ⟨p.g, 6, none⟩ (.slice (some ⟨k, 0, none⟩) (m.parts.length + 1) c)).rowIs p.g 49 7 (wkF p { m with parts := m.parts ++ [C], ps := m.ps ++ [v], pv := .slice (some ⟨k, 0, none⟩) (m.parts.length + 1) c }) :=
    ((h.gs.of_block (hblk _ h.gl)).set 6 _).congr fun i hi => by
      match i, hi with
      | 0, _ => rfl
      | 1, _ => rfl
      | 2, _ => rfl
      | 3, _ => rfl
      | 4, _ => rfl
      | 5, _ => rfl
      | 6, _ => rfl
  have hL : (m.parts ++ [C]).length = m.parts.length + 1 := by simp
  have hold : ∀ j, j < m.parts.length → pt (m.ps ++ [v]) j = pt m.ps j := fun j hj => getD_snoc_lt (by omega)
  have hnew : ∀ j, j = m.parts.length → pt (m.ps ++ [v]) j = v := fun j hj => getD_snoc_at (by omega)
  refine ⟨hgs, (h.ws.of_block (hblk _ h.wl)).setOther (Ne.symm h.gw) _, (h.ls.of_block (hblk _ h.ll)).setOther (Ne.symm h.gl') _, (h.os.of_block (hblk _ h.ol)).setOther (Ne.symm h.go) _, (h.ns.of_block (hblk _ h.nl)).setOther (Ne.symm h.gn) _,
    ownsRow_setCell_below (own_keep h.rr hg (own_tne h.rr h.pr (by decide))) h.gl _, ownsRow_setCell_below (own_keep h.wy hg (own_tne h.wy h.pr (by decide))) h.gl _, ?_, fun j hj => ?_,
    fun j hj => ?_, fun i j hij hj => ?_, h.d1, h.d2, h.d3, h.lt, h.ge, ⟨h.sz.1, ?_⟩, ?_, fun b hlb hn => ?_⟩
  · show World.ownsRow _ p.B 35 1 _ (m.parts ++ [C]).length (m.ps ++ [v])
    rw [hL]; exact ownsRow_setCell_below ho h.gl _
  · have hj' : j < m.parts.length + 1 := by rw [← hL]; exact hj
    show World.ownsRow _ p.B 3 1 (pt (m.ps ++ [v]) j) ((m.parts ++ [C]).getD j []).length (ints ((m.parts ++ [C]).getD j []))
    rcases Nat.lt_or_ge j m.parts.length with h1 | h1
    · rw [hold j h1, getD_snoc_lt h1]; exact ownsRow_setCell_below (hpp j h1) h.gl _
    · have : j = m.parts.length := by omega
      rw [hnew j this, getD_snoc_at this]; exact ownsRow_setCell_below (own_keep hv hg (own_tne hv h.pr (by decide))) h.gl _
  · have hj' : j < m.parts.length + 1 := by rw [← hL]; exact hj
    show (pt (m.ps ++ [v]) j).ownBlock = none ∨ (pt (m.ps ++ [v]) j).ownBlock ≠ m.rv.ownBlock
    rcases Nat.lt_or_ge j m.parts.length with h1 | h1
    · rw [hold j h1]; exact h.pd j h1
    · rw [hnew j (by omega)]; exact hvr
  · have hj' : j < m.parts.length + 1 := by rw [← hL]; exact hj
    show (pt (m.ps ++ [v]) i).ownBlock = none ∨ (pt (m.ps ++ [v]) i).ownBlock ≠ (pt (m.ps ++ [v]) j).ownBlock
    rcases Nat.lt_or_ge j m.parts.length with h1 | h1
    · rw [hold j h1, hold i (by omega)]; exact h.pa i j hij h1
    · rw [hnew j (by omega), hold i (by omega)]; exact hvp i (by omega)
  · have := h.sz.2; have := hg.size; simp [World.setCell]; omega
  · exact (h.fr.grown hg (Nat.le_trans h.sz.1 h.sz.2) (fun k e => Nat.le_trans h.sz.1 (h.pr.lt k e).1)).setCell (h.ge _ (.inl rfl)) _
  · rw [Deep.blk_setCell_other _ _ _ _ (show b ≠ p.g from fun e => hn (.inl e)), hblk b hlb]; exact h.fz b hlb hn
/-- a row cut short. -/
theorem own_cut {w : World} {B e s n k : Nat} {g c : Nat} {xs : List Value} (h : w.ownsRow B e s (.slice (some ⟨g, 0, none⟩) n c) n xs) (hk : k ≤ n) : w.ownsRow B e s (.slice (some ⟨g, 0, none⟩) k c) k (xs.take (k * s)) := by
  rcases h with ⟨hl, ⟨h0, _⟩ | ⟨g', cap, cur, hv, hB, hh, hn, hm, hs, ht⟩⟩
  · cases h0
  · injection hv with h1 _ h3
    injection h1 with h1
    injection h1 with h1
    subst h1 h3
    have hks : k * s ≤ n * s := Nat.mul_le_mul_right _ hk
    refine ⟨by rw [List.length_take, hl]; omega, .inr ⟨_, _, cur, rfl, hB, hh, by omega, hm, hs, ?_⟩⟩
    rw [← ht, List.take_take, Nat.min_eq_left hks]
/-- what a row of more than none looks like. -/
theorem own_form {w : World} {B e s n : Nat} {v : Value} {xs : List Value} (h : w.ownsRow B e s v n xs) (hn : 0 < n) : ∃ g c, v = .slice (some ⟨g, 0, none⟩) n c ∧ B ≤ g ∧ g < w.heap.size ∧ n ≤ c := by
  rcases h.2 with ⟨_, h0⟩ | ⟨g, cap, cur, hv, hb, hg, hc, _⟩
  · omega
  · exact ⟨g, cap, hv, hb, (Array.getElem?_eq_some_iff.1 hg).1, hc⟩
theorem steps_drop (v k : Nat) (r : List (Nat × Nat)) : (steps ((v, k) :: r)).take (r.length * 2) = steps r := by
  show (steps r ++ _).take _ = _
  rw [← steps_len r, List.take_left]
/-- the way's last step taken off. -/
theorem Ws.popWay (h : Ws w0 w1 p w m) {v k g c : Nat} {r : List (Nat × Nat)} (hw : m.way = (v, k) :: r) (hv : m.wv = .slice (some ⟨g, 0, none⟩) (r.length + 1) c) :
    Ws w0 w1 p (w.setCell ⟨p.g, 5, none⟩ (.slice (some ⟨g, 0, none⟩) r.length c)) { m with way := r, wv := .slice (some ⟨g, 0, none⟩) r.length c } := by
  refine h.setG5 r _ ?_
  have hy := h.wy
  rw [hv, hw] at hy
  have := own_cut hy (k := r.length) (by show r.length ≤ r.length + 1; omega)
  rwa [steps_drop] at this
theorem way_cells {v k g c : Nat} {r : List (Nat × Nat)} (h : Ws w0 w1 p w m) (hw : m.way = (v, k) :: r) (hv : m.wv = .slice (some ⟨g, 0, none⟩) (r.length + 1) c) :
    w.cell? ⟨g, r.length * 2, none⟩ = some (.int .i64 (v : Nat)) ∧ w.cell? ⟨g, r.length * 2 + 1, none⟩ = some (.int .i64 (k : Nat)) ∧ ∀ j, w.frozen? ⟨g, j, none⟩ = false := by
  have hy := h.wy
  rw [hv, hw] at hy
  have hy' : w.ownsRow p.B 73 2 (.slice (some ⟨g, 0, none⟩) (r.length + 1) c) (r.length + 1) (steps r ++ [Value.int .i64 (v : Nat), Value.int .i64 (k : Nat)]) := hy
  have hL := steps_len r
  refine ⟨?_, ?_, fun j => hy'.frozenAt j⟩
  · rw [hy'.cellAt _ (by omega), List.getElem?_append_right (by omega), hL]; simp
  · rw [hy'.cellAt _ (by omega), List.getElem?_append_right (by omega), hL, show r.length * 2 + 1 - r.length * 2 = 1 by omega]; rfl
/-- a store into a block that is not one of the five: what else stays. -/
theorem Ws.stir (h : Ws w0 w1 p w m) {m' : Mm} {b i : Nat} (u : Value) (hB : p.B ≤ b)
    (e1 : m'.wh = m.wh) (e2 : m'.lo = m.lo) (e3 : m'.on = m.on) (e4 : m'.n = m.n) (e5 : m'.rv = m.rv) (e6 : m'.wv = m.wv) (e7 : m'.pv = m.pv) (e8 : m'.row = m.row) (e9 : m'.parts = m.parts) (e10 : m'.ps = m.ps)
    (hr : m.rv.ownBlock ≠ some b) (hp : m.pv.ownBlock ≠ some b) (hpp : ∀ j, j < m.parts.length → (pt m.ps j).ownBlock ≠ some b)
    (hy : (w.setCell ⟨b, i, none⟩ u).ownsRow p.B 73 2 m'.wv m'.way.length (steps m'.way)) : Ws w0 w1 p (w.setCell ⟨b, i, none⟩ u) m' := by
  have hne : ∀ q, q < p.B → q ≠ b := fun q hq => by omega
  have hk : ∀ c, c < p.B → (w.setCell ⟨b, i, none⟩ u).heap[c]? = w.heap[c]? := fun c hc => Deep.blk_setCell_other _ _ _ _ (hne c hc)
  refine ⟨?_, ?_, ?_, ?_, ?_, ?_, hy, ?_, fun j hj => ?_, ?_, ?_, h.d1, h.d2, h.d3, h.lt, h.ge, ⟨h.sz.1, by have := h.sz.2; simpa [World.setCell] using this⟩, h.fr.setCell (Nat.le_trans h.sz.1 hB) u, fun c hlc hn => (hk c hlc).trans (h.fz c hlc hn)⟩
  · rw [wkF_same e5 e6 e7]; exact h.gs.of_block (hk _ h.gl)
  · rw [e1]; exact h.ws.of_block (hk _ h.wl)
  · rw [e2]; exact h.ls.of_block (hk _ h.ll)
  · rw [e3]; exact h.os.of_block (hk _ h.ol)
  · rw [e4]; exact h.ns.of_block (hk _ h.nl)
  · rw [e5, e8]; exact ownsRow_setCell_other h.rr hr u
  · rw [e7, e9, e10]; exact ownsRow_setCell_other h.pr hp u
  · rw [e9] at hj ⊢; rw [e10]; exact ownsRow_setCell_other (h.pp j hj) (hpp j hj) u
  · rw [e9, e10, e5]; exact h.pd
  · rw [e9, e10]; exact h.pa
theorem ne_of_tne {w : World} {B e1 s1 n1 e2 s2 n2 : Nat} {v1 v2 : Value} {x1 x2 : List Value} (h : w.ownsRow B e1 s1 v1 n1 x1) (k : w.ownsRow B e2 s2 v2 n2 x2) (hne : e1 ≠ e2) {b : Nat} (hb : v2.ownBlock = some b) : v1.ownBlock ≠ some b := by
  intro e
  rcases own_tne h k hne with h1 | h1
  · rw [h1] at e; cases e
  · exact h1 (e.trans hb.symm)
/-- one more edge of the way's last node has gone. -/
theorem Ws.stepWay (h : Ws w0 w1 p w m) {v k g c : Nat} {r : List (Nat × Nat)} (hw : m.way = (v, k) :: r) (hv : m.wv = .slice (some ⟨g, 0, none⟩) (r.length + 1) c) :
    Ws w0 w1 p (w.setCell ⟨g, r.length * 2 + 1, none⟩ (.int .i64 ((k + 1 : Nat) : Int))) { m with way := (v, k + 1) :: r } := by
  have hy := h.wy
  have hb : m.wv.ownBlock = some g := by rw [hv]; rfl
  refine h.stir (m' := { m with way := (v, k + 1) :: r }) _ (h.wy.lt g hb).1 rfl rfl rfl rfl rfl rfl rfl rfl rfl rfl (ne_of_tne h.rr h.wy (by decide) hb) (ne_of_tne h.pr h.wy (by decide) hb) (fun j hj => ne_of_tne (h.pp j hj) h.wy (by decide) hb) ?_
  show World.ownsRow _ p.B 73 2 m.wv (r.length + 1) (steps r ++ [Value.int .i64 (v : Nat), Value.int .i64 ((k + 1 : Nat) : Int)])
  rw [hv, hw] at hy
  rw [hv]
  have hy' : w.ownsRow p.B 73 2 (.slice (some ⟨g, 0, none⟩) (r.length + 1) c) (r.length + 1) (steps r ++ [Value.int .i64 (v : Nat), Value.int .i64 (k : Nat)]) := hy
  have := hy'.stored (r.length * 2 + 1) (.int .i64 ((k + 1 : Nat) : Int))
  have hL := steps_len r
  rw [List.set_append_right _ _ (by omega), hL, show r.length * 2 + 1 - r.length * 2 = 1 by omega] at this
  exact this.1
end
end Go.Proofs.Ytligpleningglaa.Cw
