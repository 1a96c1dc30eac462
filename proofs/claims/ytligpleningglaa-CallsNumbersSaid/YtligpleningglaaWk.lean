/- The walker's memory: the struct, three rows of numbers and truths, the number of nodes met, and the rows that grow. -/
import Derived.Test.YtligpleningglaaTj
import Derived.Deep.OwnRows
import Derived.Deep.AppendLies
import Derived.WalkSmall
import Derived.OneCell
import Derived.Below
namespace Go.Proofs.Ytligpleningglaa.Cw
open Go Go.RowKit Go.Proofs.Ytligpleningglaa.Tarjan
set_option linter.unusedVariables false
set_option linter.unusedSimpArgs false
abbrev nilV : Value := .slice none 0 0
abbrev rowV (b n : Nat) : Value := .slice (some ⟨b, 0, none⟩) n n
def ints (l : List Nat) : List Value := l.map fun (v : Nat) => Value.int .i64 v
/-- the way's cells, the first node first. -/
def steps : List (Nat × Nat) → List Value
  | [] => []
  | p :: r => steps r ++ [Value.int .i64 (p.1 : Nat), Value.int .i64 (p.2 : Nat)]
theorem steps_len : ∀ l, (steps l).length = l.length * 2 := by
  intro l
  induction l with
  | nil => rfl
  | cons p r ih => simp [steps, ih]; omega
structure Mm where
  wh : Nat → Nat
  lo : Nat → Nat
  on : Nat → Bool
  n : Nat
  row : List Nat
  way : List (Nat × Nat)
  parts : List (List Nat)
  rv : Value
  wv : Value
  pv : Value
  ps : List Value
/-- the blocks that the walker's own rows lie in. -/
structure Pl where
  g : Nat
  bw : Nat
  bl : Nat
  bo : Nat
  bn : Nat
  N : Nat
  B : Nat
  nv : Value
def wkF (p : Pl) (m : Mm) : Nat → Value
  | 0 => p.nv
  | 1 => rowV p.bw p.N
  | 2 => rowV p.bl p.N
  | 3 => m.rv
  | 4 => rowV p.bo p.N
  | 5 => m.wv
  | _ => m.pv
def Pl.own (p : Pl) (b : Nat) : Prop := b = p.g ∨ b = p.bw ∨ b = p.bl ∨ b = p.bo ∨ b = p.bn
def pt (ps : List Value) (j : Nat) : Value := ps.getD j nilV
structure Ws (w0 w1 : World) (p : Pl) (w : World) (m : Mm) : Prop where
  gs : w.rowIs p.g 49 7 (wkF p m)
  ws : w.rowIs p.bw 3 p.N (fun i => .int .i64 (m.wh i : Nat))
  ls : w.rowIs p.bl 3 p.N (fun i => .int .i64 (m.lo i : Nat))
  os : w.rowIs p.bo 4 p.N (fun i => .bool (m.on i))
  ns : w.rowIs p.bn 3 1 (fun _ => .int .i64 (m.n : Nat))
  rr : w.ownsRow p.B 3 1 m.rv m.row.length (ints m.row)
  wy : w.ownsRow p.B 73 2 m.wv m.way.length (steps m.way)
  pr : w.ownsRow p.B 35 1 m.pv m.parts.length m.ps
  pp : ∀ j, j < m.parts.length → w.ownsRow p.B 3 1 (pt m.ps j) (m.parts.getD j []).length (ints (m.parts.getD j []))
  pd : ∀ j, j < m.parts.length → (pt m.ps j).ownBlock = none ∨ (pt m.ps j).ownBlock ≠ m.rv.ownBlock
  pa : ∀ i j, i < j → j < m.parts.length → (pt m.ps i).ownBlock = none ∨ (pt m.ps i).ownBlock ≠ (pt m.ps j).ownBlock
  d1 : p.bw ≠ p.bl
  d2 : p.bn ≠ p.bw
  d3 : p.bn ≠ p.bl
  lt : ∀ b, p.own b → b < p.B
  ge : ∀ b, p.own b → w0.heap.size ≤ b
  sz : w0.heap.size ≤ p.B ∧ p.B ≤ w.heap.size
  fr : Below w0.heap.size w0 w
  fz : ∀ b, b < p.B → ¬ p.own b → w.heap[b]? = w1.heap[b]?
theorem rowIs_tne {w : World} {b c t u n m : Nat} {f q : Nat → Value} (h : w.rowIs b t n f) (k : w.rowIs c u m q) (hne : t ≠ u) : b ≠ c := by
  rintro rfl
  obtain ⟨x, hx, _⟩ := h
  obtain ⟨y, hy, _⟩ := k
  rw [hx] at hy
  injection hy with hy
  injection hy with _ hy
  exact hne hy
section
variable {w0 w1 w : World} {p : Pl} {m : Mm}
theorem Ws.gl (h : Ws w0 w1 p w m) : p.g < p.B := h.lt _ (.inl rfl)
theorem Ws.wl (h : Ws w0 w1 p w m) : p.bw < p.B := h.lt _ (.inr (.inl rfl))
theorem Ws.ll (h : Ws w0 w1 p w m) : p.bl < p.B := h.lt _ (.inr (.inr (.inl rfl)))
theorem Ws.ol (h : Ws w0 w1 p w m) : p.bo < p.B := h.lt _ (.inr (.inr (.inr (.inl rfl))))
theorem Ws.nl (h : Ws w0 w1 p w m) : p.bn < p.B := h.lt _ (.inr (.inr (.inr (.inr rfl))))
theorem Ws.gw (h : Ws w0 w1 p w m) : p.g ≠ p.bw := rowIs_tne h.gs h.ws (by decide)
theorem Ws.gl' (h : Ws w0 w1 p w m) : p.g ≠ p.bl := rowIs_tne h.gs h.ls (by decide)
theorem Ws.go (h : Ws w0 w1 p w m) : p.g ≠ p.bo := rowIs_tne h.gs h.os (by decide)
theorem Ws.gn (h : Ws w0 w1 p w m) : p.g ≠ p.bn := rowIs_tne h.gs h.ns (by decide)
theorem Ws.ow (h : Ws w0 w1 p w m) : p.bo ≠ p.bw := rowIs_tne h.os h.ws (by decide)
theorem Ws.ol' (h : Ws w0 w1 p w m) : p.bo ≠ p.bl := rowIs_tne h.os h.ls (by decide)
theorem Ws.on' (h : Ws w0 w1 p w m) : p.bo ≠ p.bn := rowIs_tne h.os h.ns (by decide)
/-- what writes nothing that was there. -/
theorem Ws.below {w' : World} (h : Ws w0 w1 p w m) (hb : Below w.heap.size w w') : Ws w0 w1 p w' m := by
  have hblk : ∀ b, b < w.heap.size → w'.heap[b]? = w.heap[b]? := fun b hlt => hb.block b hlt
  have hlt : ∀ b, b < p.B → b < w.heap.size := fun b hlt => Nat.lt_of_lt_of_le hlt h.sz.2
  have own : ∀ {e s : Nat} {v : Value} {k : Nat} {xs : List Value}, w.ownsRow p.B e s v k xs → w'.ownsRow p.B e s v k xs := fun {e s v k xs} ho => by
    refine ⟨ho.1, ?_⟩
    rcases ho.2 with hn | ⟨q, cap, cur, rfl, hB, hg, rest⟩
    · exact .inl hn
    · exact .inr ⟨q, cap, cur, rfl, hB, by rw [hblk q (Array.getElem?_eq_some_iff.1 hg).1]; exact hg, rest⟩
  exact ⟨h.gs.of_block (hblk _ (hlt _ h.gl)), h.ws.of_block (hblk _ (hlt _ h.wl)), h.ls.of_block (hblk _ (hlt _ h.ll)), h.os.of_block (hblk _ (hlt _ h.ol)), h.ns.of_block (hblk _ (hlt _ h.nl)), own h.rr, own h.wy, own h.pr, fun j hj => own (h.pp j hj), h.pd, h.pa, h.d1, h.d2, h.d3, h.lt, h.ge, ⟨h.sz.1, Nat.le_trans h.sz.2 hb.size⟩, h.fr.trans (hb.mono (Nat.le_trans h.sz.1 h.sz.2)), fun b hlb hn => (hblk b (hlt b hlb)).trans (h.fz b hlb hn)⟩
theorem Ws.drew (h : Ws w0 w1 p w m) : Ws w0 w1 p w.drew m := h.below (Below.refl _ _).drew
/-- a store into one of the five blocks. -/
theorem Ws.poke (h : Ws w0 w1 p w m) {m' : Mm} {b i : Nat} (u : Value) (hb : p.own b)
    (h1 : (w.setCell ⟨b, i, none⟩ u).rowIs p.g 49 7 (wkF p m')) (h2 : (w.setCell ⟨b, i, none⟩ u).rowIs p.bw 3 p.N (fun i => .int .i64 (m'.wh i : Nat)))
    (h3 : (w.setCell ⟨b, i, none⟩ u).rowIs p.bl 3 p.N (fun i => .int .i64 (m'.lo i : Nat))) (h4 : (w.setCell ⟨b, i, none⟩ u).rowIs p.bo 4 p.N (fun i => .bool (m'.on i)))
    (h5 : (w.setCell ⟨b, i, none⟩ u).rowIs p.bn 3 1 (fun _ => .int .i64 (m'.n : Nat)))
    (h6 : w.ownsRow p.B 3 1 m'.rv m'.row.length (ints m'.row)) (h7 : w.ownsRow p.B 73 2 m'.wv m'.way.length (steps m'.way)) (h8 : w.ownsRow p.B 35 1 m'.pv m'.parts.length m'.ps)
    (h9 : ∀ j, j < m'.parts.length → w.ownsRow p.B 3 1 (pt m'.ps j) (m'.parts.getD j []).length (ints (m'.parts.getD j [])))
    (ha : ∀ j, j < m'.parts.length → (pt m'.ps j).ownBlock = none ∨ (pt m'.ps j).ownBlock ≠ m'.rv.ownBlock)
    (hc : ∀ i j, i < j → j < m'.parts.length → (pt m'.ps i).ownBlock = none ∨ (pt m'.ps i).ownBlock ≠ (pt m'.ps j).ownBlock) : Ws w0 w1 p (w.setCell ⟨b, i, none⟩ u) m' := by
  have hlb := h.lt b hb
  refine ⟨h1, h2, h3, h4, h5, ownsRow_setCell_below h6 hlb u, ownsRow_setCell_below h7 hlb u, ownsRow_setCell_below h8 hlb u, fun j hj => ownsRow_setCell_below (h9 j hj) hlb u, ha, hc, h.d1, h.d2, h.d3, h.lt, h.ge, ⟨h.sz.1, by have := h.sz.2; simpa [World.setCell] using this⟩, h.fr.setCell (h.ge b hb) u, fun c hlc hn => ?_⟩
  rw [← h.fz c hlc hn]
  exact Deep.blk_setCell_other _ _ _ _ (by rintro rfl; exact hn hb)
theorem Ws.setN (h : Ws w0 w1 p w m) (n : Nat) : Ws w0 w1 p (w.setCell ⟨p.bn, 0, none⟩ (.int .i64 (n : Nat))) { m with n := n } :=
  h.poke _ (.inr (.inr (.inr (.inr rfl)))) (h.gs.setOther h.gn _) (h.ws.setOther (Ne.symm h.d2) _) (h.ls.setOther (Ne.symm h.d3) _) (h.os.setOther h.on' _) ((h.ns.set 0 _).congr fun i hi => by rw [if_pos (by omega : i = 0)]) h.rr h.wy h.pr h.pp h.pd h.pa
theorem Ws.setW (h : Ws w0 w1 p w m) (i v : Nat) : Ws w0 w1 p (w.setCell ⟨p.bw, i, none⟩ (.int .i64 (v : Nat))) { m with wh := up m.wh i v } :=
  h.poke _ (.inr (.inl rfl)) (h.gs.setOther h.gw _) ((h.ws.set i _).congr fun j hj => by
    show _ = Value.int .i64 ((up m.wh i v j : Nat) : Int)
    unfold up
    split <;> rfl) (h.ls.setOther (Ne.symm h.d1) _) (h.os.setOther h.ow _) (h.ns.setOther h.d2 _) h.rr h.wy h.pr h.pp h.pd h.pa
theorem Ws.setL (h : Ws w0 w1 p w m) (i v : Nat) : Ws w0 w1 p (w.setCell ⟨p.bl, i, none⟩ (.int .i64 (v : Nat))) { m with lo := up m.lo i v } :=
  h.poke _ (.inr (.inr (.inl rfl))) (h.gs.setOther h.gl' _) (h.ws.setOther h.d1 _) ((h.ls.set i _).congr fun j hj => by
    show _ = Value.int .i64 ((up m.lo i v j : Nat) : Int)
    unfold up
    split <;> rfl) (h.os.setOther h.ol' _) (h.ns.setOther h.d3 _) h.rr h.wy h.pr h.pp h.pd h.pa
def upO (m : Nat → Bool) (i : Nat) (b : Bool) : Nat → Bool := fun j => if j = i then b else m j
theorem Ws.setO (h : Ws w0 w1 p w m) (i : Nat) (b : Bool) : Ws w0 w1 p (w.setCell ⟨p.bo, i, none⟩ (.bool b)) { m with on := upO m.on i b } :=
  h.poke _ (.inr (.inr (.inr (.inl rfl)))) (h.gs.setOther h.go _) (h.ws.setOther (Ne.symm h.ow) _) (h.ls.setOther (Ne.symm h.ol') _) ((h.os.set i _).congr fun j hj => by
    show _ = Value.bool (upO m.on i b j)
    unfold upO
    split <;> rfl) (h.ns.setOther (Ne.symm h.on') _) h.rr h.wy h.pr h.pp h.pd h.pa
theorem wkF_same {p : Pl} {m m' : Mm} (h3 : m'.rv = m.rv) (h5 : m'.wv = m.wv) (h6 : m'.pv = m.pv) : wkF p m' = wkF p m := by
  funext i
  unfold wkF
  split <;> simp_all
/-- the struct's three cells that change. -/
theorem Ws.setG3 (h : Ws w0 w1 p w m) (row : List Nat) (rv : Value) (ho : w.ownsRow p.B 3 1 rv row.length (ints row)) (hd : ∀ j, j < m.parts.length → (pt m.ps j).ownBlock = none ∨ (pt m.ps j).ownBlock ≠ rv.ownBlock) :
    Ws w0 w1 p (w.setCell ⟨p.g, 3, none⟩ rv) { m with row := row, rv := rv } :=
  h.poke _ (.inl rfl) ((h.gs.set 3 _).congr fun i hi => by
    show (if i = 3 then rv else wkF p m i) = _
    match i, hi with
    | 0, _ => rfl
    | 1, _ => rfl
    | 2, _ => rfl
    | 3, _ => rfl
    | 4, _ => rfl
    | 5, _ => rfl
    | 6, _ => rfl) (h.ws.setOther (Ne.symm h.gw) _) (h.ls.setOther (Ne.symm h.gl') _) (h.os.setOther (Ne.symm h.go) _) (h.ns.setOther (Ne.symm h.gn) _) ho h.wy h.pr h.pp hd h.pa
theorem Ws.setG5 (h : Ws w0 w1 p w m) (way : List (Nat × Nat)) (wv : Value) (ho : w.ownsRow p.B 73 2 wv way.length (steps way)) :
    Ws w0 w1 p (w.setCell ⟨p.g, 5, none⟩ wv) { m with way := way, wv := wv } :=
  h.poke _ (.inl rfl) ((h.gs.set 5 _).congr fun i hi => by
    show (if i = 5 then wv else wkF p m i) = _
    match i, hi with
    | 0, _ => rfl
    | 1, _ => rfl
    | 2, _ => rfl
    | 3, _ => rfl
    | 4, _ => rfl
    | 5, _ => rfl
    | 6, _ => rfl) (h.ws.setOther (Ne.symm h.gw) _) (h.ls.setOther (Ne.symm h.gl') _) (h.os.setOther (Ne.symm h.go) _) (h.ns.setOther (Ne.symm h.gn) _) h.rr ho h.pr h.pp h.pd h.pa
theorem Ws.setG6 (h : Ws w0 w1 p w m) (parts : List (List Nat)) (pv : Value) (ps : List Value) (ho : w.ownsRow p.B 35 1 pv parts.length ps)
    (h9 : ∀ j, j < parts.length → w.ownsRow p.B 3 1 (pt ps j) (parts.getD j []).length (ints (parts.getD j [])))
    (ha : ∀ j, j < parts.length → (pt ps j).ownBlock = none ∨ (pt ps j).ownBlock ≠ m.rv.ownBlock)
    (hc : ∀ i j, i < j → j < parts.length → (pt ps i).ownBlock = none ∨ (pt ps i).ownBlock ≠ (pt ps j).ownBlock) :
    Ws w0 w1 p (w.setCell ⟨p.g, 6, none⟩ pv) { m with parts := parts, pv := pv, ps := ps } :=
  h.poke _ (.inl rfl) ((h.gs.set 6 _).congr fun i hi => by
    show (if i = 6 then pv else wkF p m i) = _
    match i, hi with
    | 0, _ => rfl
    | 1, _ => rfl
    | 2, _ => rfl
    | 3, _ => rfl
    | 4, _ => rfl
    | 5, _ => rfl
    | 6, _ => rfl) (h.ws.setOther (Ne.symm h.gw) _) (h.ls.setOther (Ne.symm h.gl') _) (h.os.setOther (Ne.symm h.go) _) (h.ns.setOther (Ne.symm h.gn) _) h.rr h.wy ho h9 ha hc
/-- an append to one of the growing rows, before its cell of the struct is written. -/
structure Grew (p : Pl) (w w' : World) (v : Value) : Prop where
  hg : w.grownBy w' v.ownBlock
  hb : ∀ k, v.ownBlock = some k → p.B ≤ k ∧ k < w.heap.size
theorem Ws.grew {w' : World} (h : Ws w0 w1 p w m) {v : Value} (G : Grew p w w' v) (hr : w'.ownsRow p.B 3 1 m.rv m.row.length (ints m.row)) (hy : w'.ownsRow p.B 73 2 m.wv m.way.length (steps m.way)) (hp : w'.ownsRow p.B 35 1 m.pv m.parts.length m.ps)
    (hpp : ∀ j, j < m.parts.length → w'.ownsRow p.B 3 1 (pt m.ps j) (m.parts.getD j []).length (ints (m.parts.getD j []))) : Ws w0 w1 p w' m := by
  have hne : ∀ b, b < p.B → some b ≠ v.ownBlock := fun b hb e => by have := (G.hb b e.symm).1; omega
  have hblk : ∀ b, b < p.B → w'.heap[b]? = w.heap[b]? := fun b hlt => G.hg.block b (Nat.lt_of_lt_of_le hlt h.sz.2) (hne b hlt)
  exact ⟨h.gs.of_block (hblk _ h.gl), h.ws.of_block (hblk _ h.wl), h.ls.of_block (hblk _ h.ll), h.os.of_block (hblk _ h.ol), h.ns.of_block (hblk _ h.nl), hr, hy, hp, hpp, h.pd, h.pa, h.d1, h.d2, h.d3, h.lt, h.ge, ⟨h.sz.1, Nat.le_trans h.sz.2 G.hg.size⟩,
    h.fr.grown G.hg (Nat.le_trans h.sz.1 h.sz.2) (fun k e => Nat.le_trans h.sz.1 (G.hb k e).1), fun b hlb hn => (hblk b hlb).trans (h.fz b hlb hn)⟩
theorem own_tne {w : World} {B e1 s1 n1 e2 s2 n2 : Nat} {v1 v2 : Value} {x1 x2 : List Value} (h : w.ownsRow B e1 s1 v1 n1 x1) (k : w.ownsRow B e2 s2 v2 n2 x2) (hne : e1 ≠ e2) : v1.ownBlock = none ∨ v1.ownBlock ≠ v2.ownBlock := by
  rcases h.2 with ⟨rfl, _⟩ | ⟨g, cap, cur, rfl, _, hg, _⟩
  · exact .inl rfl
  · refine .inr fun e => ?_
    rcases k.2 with ⟨rfl, _⟩ | ⟨g', cap', cur', rfl, _, hg', _⟩
    · cases e
    · have : g = g' := by simpa [Value.ownBlock] using e
      subst this
      rw [hg] at hg'
      injection hg' with hg'
      injection hg' with _ e2 _
      exact hne e2
end
end Go.Proofs.Ytligpleningglaa.Cw
