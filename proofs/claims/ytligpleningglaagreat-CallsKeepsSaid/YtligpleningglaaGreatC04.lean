/- Texts of this proof, joined in build order: Wk, Wm, Wl, Cm, Me. -/
import Derived.Test.YtligpleningglaaGreatCz
import Derived.Test.YtligpleningglaaGreatC03
import Derived.Deep.OwnRows
import Derived.Deep.AppendLies
import Derived.WalkSmall
import Derived.OneCell
import Derived.Below
import Derived.Test.YtligpleningglaaGreatC02
import Derived.Shelf.SlGeneric
import Derived.Shelf.Slices.Clone
import Derived.Shelf.Slices.CompactI
import Derived.Shelf.Sort.Plain
import Derived.Shelf.Slices.In.SortNone
import Derived.Sort.OwnSortedInts
import Derived.Lib.OwnBridge
set_option linter.unusedVariables false
set_option linter.unusedSimpArgs false
set_option linter.unusedSectionVars false
set_option maxHeartbeats 8000000
set_option maxRecDepth 100000
namespace Go.Proofs.YtligpleningglaaGreat.Cw
open Go Go.RowKit Go.Proofs.YtligpleningglaaGreat.Tarjan
abbrev nilV : Value := .slice none 0 0
abbrev rowV (b n : Nat) : Value := .slice (some ⟨b, 0, none⟩) n n
def ints (l : List Nat) : List Value := l.map fun (v : Nat) => Value.int .i64 v
def steps : List (Nat × Nat) → List Value
  | [] => []
  | p :: r => steps r ++ [Value.int .i64 (p.1 : Nat), Value.int .i64 (p.2 : Nat)]
theorem steps_len : ∀ l, (steps l).length = l.length * 2 := by
  intro l
  induction l with
  | nil => rfl
  | cons p r ih => simp [steps, ih]; omega
structure Mm where
  wh : Nat → Nat
  lo : Nat → Nat
  on : Nat → Bool
  n : Nat
  row : List Nat
  way : List (Nat × Nat)
  parts : List (List Nat)
  rv : Value
  wv : Value
  pv : Value
  ps : List Value
structure Pl where
  g : Nat
  bw : Nat
  bl : Nat
  bo : Nat
  bn : Nat
  N : Nat
  B : Nat
  nv : Value
def wkF (p : Pl) (m : Mm) : Nat → Value
  | 0 => p.nv
  | 1 => rowV p.bw p.N
  | 2 => rowV p.bl p.N
  | 3 => m.rv
  | 4 => rowV p.bo p.N
  | 5 => m.wv
  | _ => m.pv
def Pl.own (p : Pl) (b : Nat) : Prop := b = p.g ∨ b = p.bw ∨ b = p.bl ∨ b = p.bo ∨ b = p.bn
def pt (ps : List Value) (j : Nat) : Value := ps.getD j nilV
structure Ws (w0 w1 : World) (p : Pl) (w : World) (m : Mm) : Prop where
  gs : w.rowIs p.g 68 7 (wkF p m)
  ws : w.rowIs p.bw 3 p.N (fun i => .int .i64 (m.wh i : Nat))
  ls : w.rowIs p.bl 3 p.N (fun i => .int .i64 (m.lo i : Nat))
  os : w.rowIs p.bo 4 p.N (fun i => .bool (m.on i))
  ns : w.rowIs p.bn 3 1 (fun _ => .int .i64 (m.n : Nat))
  rr : w.ownsRow p.B 3 1 m.rv m.row.length (ints m.row)
  wy : w.ownsRow p.B 119 2 m.wv m.way.length (steps m.way)
  pr : w.ownsRow p.B 44 1 m.pv m.parts.length m.ps
  pp : ∀ j, j < m.parts.length → w.ownsRow p.B 3 1 (pt m.ps j) (m.parts.getD j []).length (ints (m.parts.getD j []))
  pd : ∀ j, j < m.parts.length → (pt m.ps j).ownBlock = none ∨ (pt m.ps j).ownBlock ≠ m.rv.ownBlock
  pa : ∀ i j, i < j → j < m.parts.length → (pt m.ps i).ownBlock = none ∨ (pt m.ps i).ownBlock ≠ (pt m.ps j).ownBlock
  d1 : p.bw ≠ p.bl
  d2 : p.bn ≠ p.bw
  d3 : p.bn ≠ p.bl
  lt : ∀ b, p.own b → b < p.B
  ge : ∀ b, p.own b → w0.heap.size ≤ b
  sz : w0.heap.size ≤ p.B ∧ p.B ≤ w.heap.size
  fr : Below w0.heap.size w0 w
  fz : ∀ b, b < p.B → ¬ p.own b → w.heap[b]? = w1.heap[b]?
theorem rowIs_tne {w : World} {b c t u n m : Nat} {f q : Nat → Value} (h : w.rowIs b t n f) (k : w.rowIs c u m q) (hne : t ≠ u) : b ≠ c := by
  rintro rfl
  obtain ⟨x, hx, _⟩ := h
  obtain ⟨y, hy, _⟩ := k
  rw [hx] at hy
  injection hy with hy
  injection hy with _ hy
  exact hne hy
section
variable {w0 w1 w : World} {p : Pl} {m : Mm}
theorem Ws.gl (h : Ws w0 w1 p w m) : p.g < p.B := h.lt _ (.inl rfl)
theorem Ws.wl (h : Ws w0 w1 p w m) : p.bw < p.B := h.lt _ (.inr (.inl rfl))
theorem Ws.ll (h : Ws w0 w1 p w m) : p.bl < p.B := h.lt _ (.inr (.inr (.inl rfl)))
theorem Ws.ol (h : Ws w0 w1 p w m) : p.bo < p.B := h.lt _ (.inr (.inr (.inr (.inl rfl))))
theorem Ws.nl (h : Ws w0 w1 p w m) : p.bn < p.B := h.lt _ (.inr (.inr (.inr (.inr rfl))))
theorem Ws.gw (h : Ws w0 w1 p w m) : p.g ≠ p.bw := rowIs_tne h.gs h.ws cq6
theorem Ws.gl' (h : Ws w0 w1 p w m) : p.g ≠ p.bl := rowIs_tne h.gs h.ls cq6
theorem Ws.go (h : Ws w0 w1 p w m) : p.g ≠ p.bo := rowIs_tne h.gs h.os cq6
theorem Ws.gn (h : Ws w0 w1 p w m) : p.g ≠ p.bn := rowIs_tne h.gs h.ns cq6
theorem Ws.ow (h : Ws w0 w1 p w m) : p.bo ≠ p.bw := rowIs_tne h.os h.ws cq6
theorem Ws.ol' (h : Ws w0 w1 p w m) : p.bo ≠ p.bl := rowIs_tne h.os h.ls cq6
theorem Ws.on' (h : Ws w0 w1 p w m) : p.bo ≠ p.bn := rowIs_tne h.os h.ns cq6
theorem Ws.below {w' : World} (h : Ws w0 w1 p w m) (hb : Below w.heap.size w w') : Ws w0 w1 p w' m := by
  have hblk : ∀ b, b < w.heap.size → w'.heap[b]? = w.heap[b]? := fun b hlt => hb.block b hlt
  have hlt : ∀ b, b < p.B → b < w.heap.size := fun b hlt => Nat.lt_of_lt_of_le hlt h.sz.2
  have own : ∀ {e s : Nat} {v : Value} {k : Nat} {xs : List Value}, w.ownsRow p.B e s v k xs → w'.ownsRow p.B e s v k xs := fun {e s v k xs} ho => by
    refine ⟨ho.1, ?_⟩
    rcases ho.2 with hn | ⟨q, cap, cur, rfl, hB, hg, rest⟩
    · exact .inl hn
    · exact .inr ⟨q, cap, cur, rfl, hB, by rw [hblk q (Array.getElem?_eq_some_iff.1 hg).1]; exact hg, rest⟩
  exact ⟨h.gs.of_block (hblk _ (hlt _ h.gl)), h.ws.of_block (hblk _ (hlt _ h.wl)), h.ls.of_block (hblk _ (hlt _ h.ll)), h.os.of_block (hblk _ (hlt _ h.ol)), h.ns.of_block (hblk _ (hlt _ h.nl)), own h.rr, own h.wy, own h.pr, fun j hj => own (h.pp j hj), h.pd, h.pa, h.d1, h.d2, h.d3, h.lt, h.ge, ⟨h.sz.1, Nat.le_trans h.sz.2 hb.size⟩, h.fr.trans (hb.mono (Nat.le_trans h.sz.1 h.sz.2)), fun b hlb hn => (hblk b (hlt b hlb)).trans (h.fz b hlb hn)⟩
theorem Ws.drew (h : Ws w0 w1 p w m) : Ws w0 w1 p w.drew m := h.below (Below.refl _ _).drew
theorem Ws.poke (h : Ws w0 w1 p w m) {m' : Mm} {b i : Nat} (u : Value) (hb : p.own b)
    (h1 : (w.setCell ⟨b, i, none⟩ u).rowIs p.g 68 7 (wkF p m')) (h2 : (w.setCell ⟨b, i, none⟩ u).rowIs p.bw 3 p.N (fun i => .int .i64 (m'.wh i : Nat)))
    (h3 : (w.setCell ⟨b, i, none⟩ u).rowIs p.bl 3 p.N (fun i => .int .i64 (m'.lo i : Nat))) (h4 : (w.setCell ⟨b, i, none⟩ u).rowIs p.bo 4 p.N (fun i => .bool (m'.on i)))
    (h5 : (w.setCell ⟨b, i, none⟩ u).rowIs p.bn 3 1 (fun _ => .int .i64 (m'.n : Nat)))
    (h6 : w.ownsRow p.B 3 1 m'.rv m'.row.length (ints m'.row)) (h7 : w.ownsRow p.B 119 2 m'.wv m'.way.length (steps m'.way)) (h8 : w.ownsRow p.B 44 1 m'.pv m'.parts.length m'.ps)
    (h9 : ∀ j, j < m'.parts.length → w.ownsRow p.B 3 1 (pt m'.ps j) (m'.parts.getD j []).length (ints (m'.parts.getD j [])))
    (ha : ∀ j, j < m'.parts.length → (pt m'.ps j).ownBlock = none ∨ (pt m'.ps j).ownBlock ≠ m'.rv.ownBlock)
    (hc : ∀ i j, i < j → j < m'.parts.length → (pt m'.ps i).ownBlock = none ∨ (pt m'.ps i).ownBlock ≠ (pt m'.ps j).ownBlock) : Ws w0 w1 p (w.setCell ⟨b, i, none⟩ u) m' := by
  have hlb := h.lt b hb
  refine ⟨h1, h2, h3, h4, h5, ownsRow_setCell_below h6 hlb u, ownsRow_setCell_below h7 hlb u, ownsRow_setCell_below h8 hlb u, fun j hj => ownsRow_setCell_below (h9 j hj) hlb u, ha, hc, h.d1, h.d2, h.d3, h.lt, h.ge, ⟨h.sz.1, by have := h.sz.2; simpa [World.setCell] using this⟩, h.fr.setCell (h.ge b hb) u, fun c hlc hn => ?_⟩
  rw [← h.fz c hlc hn]
  exact Deep.blk_setCell_other _ _ _ _ (by rintro rfl; exact hn hb)
theorem Ws.setN (h : Ws w0 w1 p w m) (n : Nat) : Ws w0 w1 p (w.setCell ⟨p.bn, 0, none⟩ (.int .i64 (n : Nat))) { m with n := n } :=
  h.poke _ (.inr (.inr (.inr (.inr rfl)))) (h.gs.setOther h.gn _) (h.ws.setOther (Ne.symm h.d2) _) (h.ls.setOther (Ne.symm h.d3) _) (h.os.setOther h.on' _) ((h.ns.set 0 _).congr fun i hi => by rw [if_pos (by omega : i = 0)]) h.rr h.wy h.pr h.pp h.pd h.pa
theorem Ws.setW (h : Ws w0 w1 p w m) (i v : Nat) : Ws w0 w1 p (w.setCell ⟨p.bw, i, none⟩ (.int .i64 (v : Nat))) { m with wh := up m.wh i v } :=
  h.poke _ (.inr (.inl rfl)) (h.gs.setOther h.gw _) ((h.ws.set i _).congr fun j hj => by
    show _ = Value.int .i64 ((up m.wh i v j : Nat) : Int)
    unfold up
    split <;> rfl) (h.ls.setOther (Ne.symm h.d1) _) (h.os.setOther h.ow _) (h.ns.setOther h.d2 _) h.rr h.wy h.pr h.pp h.pd h.pa
theorem Ws.setL (h : Ws w0 w1 p w m) (i v : Nat) : Ws w0 w1 p (w.setCell ⟨p.bl, i, none⟩ (.int .i64 (v : Nat))) { m with lo := up m.lo i v } :=
  h.poke _ (.inr (.inr (.inl rfl))) (h.gs.setOther h.gl' _) (h.ws.setOther h.d1 _) ((h.ls.set i _).congr fun j hj => by
    show _ = Value.int .i64 ((up m.lo i v j : Nat) : Int)
    unfold up
    split <;> rfl) (h.os.setOther h.ol' _) (h.ns.setOther h.d3 _) h.rr h.wy h.pr h.pp h.pd h.pa
def upO (m : Nat → Bool) (i : Nat) (b : Bool) : Nat → Bool := fun j => if j = i then b else m j
theorem Ws.setO (h : Ws w0 w1 p w m) (i : Nat) (b : Bool) : Ws w0 w1 p (w.setCell ⟨p.bo, i, none⟩ (.bool b)) { m with on := upO m.on i b } :=
  h.poke _ (.inr (.inr (.inr (.inl rfl)))) (h.gs.setOther h.go _) (h.ws.setOther (Ne.symm h.ow) _) (h.ls.setOther (Ne.symm h.ol') _) ((h.os.set i _).congr fun j hj => by
    show _ = Value.bool (upO m.on i b j)
    unfold upO
    split <;> rfl) (h.ns.setOther (Ne.symm h.on') _) h.rr h.wy h.pr h.pp h.pd h.pa
theorem wkF_same {p : Pl} {m m' : Mm} (h3 : m'.rv = m.rv) (h5 : m'.wv = m.wv) (h6 : m'.pv = m.pv) : wkF p m' = wkF p m := by
  funext i
  unfold wkF
  split <;> simp_all
theorem Ws.setG3 (h : Ws w0 w1 p w m) (row : List Nat) (rv : Value) (ho : w.ownsRow p.B 3 1 rv row.length (ints row)) (hd : ∀ j, j < m.parts.length → (pt m.ps j).ownBlock = none ∨ (pt m.ps j).ownBlock ≠ rv.ownBlock) :
    Ws w0 w1 p (w.setCell ⟨p.g, 3, none⟩ rv) { m with row := row, rv := rv } :=
  h.poke _ (.inl rfl) ((h.gs.set 3 _).congr fun i hi => by
    show (if i = 3 then rv else wkF p m i) = _
    match i, hi with
    | 0, _ => rfl
    | 1, _ => rfl
    | 2, _ => rfl
    | 3, _ => rfl
    | 4, _ => rfl
    | 5, _ => rfl
    | 6, _ => rfl) (h.ws.setOther (Ne.symm h.gw) _) (h.ls.setOther (Ne.symm h.gl') _) (h.os.setOther (Ne.symm h.go) _) (h.ns.setOther (Ne.symm h.gn) _) ho h.wy h.pr h.pp hd h.pa
theorem Ws.setG5 (h : Ws w0 w1 p w m) (way : List (Nat × Nat)) (wv : Value) (ho : w.ownsRow p.B 119 2 wv way.length (steps way)) :
    Ws w0 w1 p (w.setCell ⟨p.g, 5, none⟩ wv) { m with way := way, wv := wv } :=
  h.poke _ (.inl rfl) ((h.gs.set 5 _).congr fun i hi => by
    show (if i = 5 then wv else wkF p m i) = _
    match i, hi with
    | 0, _ => rfl
    | 1, _ => rfl
    | 2, _ => rfl
    | 3, _ => rfl
    | 4, _ => rfl
    | 5, _ => rfl
    | 6, _ => rfl) (h.ws.setOther (Ne.symm h.gw) _) (h.ls.setOther (Ne.symm h.gl') _) (h.os.setOther (Ne.symm h.go) _) (h.ns.setOther (Ne.symm h.gn) _) h.rr ho h.pr h.pp h.pd h.pa
theorem own_tne {w : World} {B e1 s1 n1 e2 s2 n2 : Nat} {v1 v2 : Value} {x1 x2 : List Value} (h : w.ownsRow B e1 s1 v1 n1 x1) (k : w.ownsRow B e2 s2 v2 n2 x2) (hne : e1 ≠ e2) : v1.ownBlock = none ∨ v1.ownBlock ≠ v2.ownBlock := by
  rcases h.2 with ⟨rfl, _⟩ | ⟨g, cap, cur, rfl, _, hg, _⟩
  · exact .inl rfl
  · refine .inr fun e => ?_
    rcases k.2 with ⟨rfl, _⟩ | ⟨g', cap', cur', rfl, _, hg', _⟩
    · cases e
    · have : g = g' := by simpa [Value.ownBlock] using e
      subst this
      rw [hg] at hg'
      injection hg' with hg'
      injection hg' with _ e2 _
      exact hne e2
end
end Go.Proofs.YtligpleningglaaGreat.Cw
namespace Go.Proofs.YtligpleningglaaGreat.Cw
open Go Go.RowKit Go.Proofs.YtligpleningglaaGreat.Tarjan
section
variable {w0 w1 w : World} {p : Pl} {m : Mm}
theorem own_keep {w w' : World} {B e s n : Nat} {v u : Value} {xs : List Value} (h : w.ownsRow B e s v n xs) (hg : w.grownBy w' u.ownBlock) (hd : v.ownBlock = none ∨ v.ownBlock ≠ u.ownBlock) : w'.ownsRow B e s v n xs := h.kept hg hd
theorem own_lt {w : World} {B e s n : Nat} {v : Value} {xs : List Value} (h : w.ownsRow B e s v n xs) {k : Nat} (e' : v.ownBlock = some k) : k < w.heap.size := (h.lt k e').2
theorem apart_fresh {w : World} {B e s n : Nat} {v : Value} {xs : List Value} (h : w.ownsRow B e s v n xs) {u : Value} {k : Nat} (hu : u.ownBlock = some k) (hk : w.heap.size ≤ k) : v.ownBlock = none ∨ v.ownBlock ≠ u.ownBlock := by
  cases hv : v.ownBlock with
  | none => exact .inl rfl
  | some q => exact .inr (by rw [hu]; intro e'; injection e' with e'; have := own_lt h hv; omega)
theorem apart_step {w : World} {B e s n : Nat} {v r : Value} {xs : List Value} (h : w.ownsRow B e s v n xs) {k c q H : Nat} (hat : r.ownBlock = some k ∨ k = H) (hH : w.heap.size = H) (hd : v.ownBlock = none ∨ v.ownBlock ≠ r.ownBlock) :
    v.ownBlock = none ∨ v.ownBlock ≠ (Value.slice (some ⟨k, 0, none⟩) q c).ownBlock := by
  rcases hat with e' | e'
  · rcases hd with h1 | h1
    · exact .inl h1
    · exact .inr (by rw [e'] at h1; exact h1)
  · exact apart_fresh (k := k) h rfl cq2
theorem Ws.pushRow {w' : World} (h : Ws w0 w1 p w m) (i : Nat) {k c H : Nat} (hg : w.grownBy w' m.rv.ownBlock) (ho : w'.ownsRow p.B 3 1 (.slice (some ⟨k, 0, none⟩) (m.row.length + 1) c) (m.row.length + 1) (ints m.row ++ [.int .i64 (i : Nat)])) (hat : m.rv.ownBlock = some k ∨ k = H) (hH : w.heap.size = H) :
    Ws w0 w1 p (w'.setCell ⟨p.g, 3, none⟩ (.slice (some ⟨k, 0, none⟩) (m.row.length + 1) c)) { m with row := m.row ++ [i], rv := .slice (some ⟨k, 0, none⟩) (m.row.length + 1) c } := by
  have hpp : ∀ j, j < m.parts.length → w'.ownsRow p.B 3 1 (pt m.ps j) (m.parts.getD j []).length (ints (m.parts.getD j [])) := fun j hj => own_keep (h.pp j hj) hg (h.pd j hj)
  have hblk : ∀ b, b < p.B → w'.heap[b]? = w.heap[b]? := fun b hlt => hg.block b (Nat.lt_of_lt_of_le hlt h.sz.2) (fun e => by have := (h.rr.lt b e.symm).1; omega)
  have hz : Ws w0 w1 p w' { m with row := m.row ++ [i], rv := .slice (some ⟨k, 0, none⟩) (m.row.length + 1) c } → True := fun _ => trivial
  have hgs : (w'.setCell ⟨p.g, 3, none⟩ (.slice (some ⟨k, 0, none⟩) (m.row.length + 1) c)).rowIs p.g 68 7 (wkF p { m with row := m.row ++ [i], rv := .slice (some ⟨k, 0, none⟩) (m.row.length + 1) c }) :=
    ((h.gs.of_block (hblk _ h.gl)).set 3 _).congr fun i hi => by
      match i, hi with
      | 0, _ => rfl
      | 1, _ => rfl
      | 2, _ => rfl
      | 3, _ => rfl
      | 4, _ => rfl
      | 5, _ => rfl
      | 6, _ => rfl
  have ho' : w'.ownsRow p.B 3 1 (.slice (some ⟨k, 0, none⟩) (m.row.length + 1) c) (m.row ++ [i]).length (ints (m.row ++ [i])) := by
    rw [List.length_append, show ints (m.row ++ [i]) = ints m.row ++ [Value.int .i64 (i : Nat)] by simp [ints]]
    exact ho
  refine ⟨hgs, (h.ws.of_block (hblk _ h.wl)).setOther (Ne.symm h.gw) _, (h.ls.of_block (hblk _ h.ll)).setOther (Ne.symm h.gl') _, (h.os.of_block (hblk _ h.ol)).setOther (Ne.symm h.go) _, (h.ns.of_block (hblk _ h.nl)).setOther (Ne.symm h.gn) _,
    ownsRow_setCell_below ho' h.gl _, ownsRow_setCell_below (own_keep h.wy hg (own_tne h.wy h.rr cq6)) h.gl _, ownsRow_setCell_below (own_keep h.pr hg (own_tne h.pr h.rr cq6)) h.gl _, fun j hj => ownsRow_setCell_below (hpp j hj) h.gl _,
    fun j hj => apart_step (h.pp j hj) hat hH (h.pd j hj), h.pa, h.d1, h.d2, h.d3, h.lt, h.ge, ⟨h.sz.1, ?_⟩, ?_, fun b hlb hn => ?_⟩
  · have := h.sz.2; have := hg.size; simp [World.setCell]; omega
  · exact (h.fr.grown hg (Nat.le_trans h.sz.1 h.sz.2) (fun k e => Nat.le_trans h.sz.1 (h.rr.lt k e).1)).setCell (h.ge _ (.inl rfl)) _
  · rw [Deep.blk_setCell_other _ _ _ _ (show b ≠ p.g from fun e => hn (.inl e)), hblk b hlb]; exact h.fz b hlb hn
theorem Ws.pushWay {w' : World} (h : Ws w0 w1 p w m) (i : Nat) {k c H : Nat} (hg : w.grownBy w' m.wv.ownBlock) (ho : w'.ownsRow p.B 119 2 (.slice (some ⟨k, 0, none⟩) (m.way.length + 1) c) (m.way.length + 1) (steps m.way ++ [.int .i64 (i : Nat), .int .i64 0])) :
    Ws w0 w1 p (w'.setCell ⟨p.g, 5, none⟩ (.slice (some ⟨k, 0, none⟩) (m.way.length + 1) c)) { m with way := (i, 0) :: m.way, wv := .slice (some ⟨k, 0, none⟩) (m.way.length + 1) c } := by
  have hpp : ∀ j, j < m.parts.length → w'.ownsRow p.B 3 1 (pt m.ps j) (m.parts.getD j []).length (ints (m.parts.getD j [])) := fun j hj => own_keep (h.pp j hj) hg (own_tne (h.pp j hj) h.wy cq6)
  have hblk : ∀ b, b < p.B → w'.heap[b]? = w.heap[b]? := fun b hlt => hg.block b (Nat.lt_of_lt_of_le hlt h.sz.2) (fun e => by have := (h.wy.lt b e.symm).1; omega)
  have hgs : (w'.setCell ⟨p.g, 5, none⟩ (.slice (some ⟨k, 0, none⟩) (m.way.length + 1) c)).rowIs p.g 68 7 (wkF p { m with way := (i, 0) :: m.way, wv := .slice (some ⟨k, 0, none⟩) (m.way.length + 1) c }) :=
    ((h.gs.of_block (hblk _ h.gl)).set 5 _).congr fun i hi => by
      match i, hi with
      | 0, _ => rfl
      | 1, _ => rfl
      | 2, _ => rfl
      | 3, _ => rfl
      | 4, _ => rfl
      | 5, _ => rfl
      | 6, _ => rfl
  refine ⟨hgs, (h.ws.of_block (hblk _ h.wl)).setOther (Ne.symm h.gw) _, (h.ls.of_block (hblk _ h.ll)).setOther (Ne.symm h.gl') _, (h.os.of_block (hblk _ h.ol)).setOther (Ne.symm h.go) _, (h.ns.of_block (hblk _ h.nl)).setOther (Ne.symm h.gn) _,
    ownsRow_setCell_below (own_keep h.rr hg (own_tne h.rr h.wy cq6)) h.gl _, ownsRow_setCell_below ho h.gl _, ownsRow_setCell_below (own_keep h.pr hg (own_tne h.pr h.wy cq6)) h.gl _, fun j hj => ownsRow_setCell_below (hpp j hj) h.gl _,
    h.pd, h.pa, h.d1, h.d2, h.d3, h.lt, h.ge, ⟨h.sz.1, ?_⟩, ?_, fun b hlb hn => ?_⟩
  · have := h.sz.2; have := hg.size; simp [World.setCell]; omega
  · exact (h.fr.grown hg (Nat.le_trans h.sz.1 h.sz.2) (fun k e => Nat.le_trans h.sz.1 (h.wy.lt k e).1)).setCell (h.ge _ (.inl rfl)) _
  · rw [Deep.blk_setCell_other _ _ _ _ (show b ≠ p.g from fun e => hn (.inl e)), hblk b hlb]; exact h.fz b hlb hn
theorem getD_snoc_lt {α : Type} {l : List α} {x d : α} {j : Nat} (h : j < l.length) : (l ++ [x]).getD j d = l.getD j d := by
  rw [qD, qD, List.getElem?_append_left h]
theorem getD_snoc_at {α : Type} {l : List α} {x d : α} {j : Nat} (h : j = l.length) : (l ++ [x]).getD j d = x := by
  subst h
  rw [qD, List.getElem?_append_right (Nat.le_refl _)]; simp
theorem Ws.pl (h : Ws w0 w1 p w m) : m.ps.length = m.parts.length := by have := h.pr.1; omega
theorem Ws.pushPart {w' : World} (h : Ws w0 w1 p w m) (C : List Nat) (v : Value) {k c H : Nat} (hv : w.ownsRow p.B 3 1 v C.length (ints C)) (hvr : v.ownBlock = none ∨ v.ownBlock ≠ m.rv.ownBlock) (hvp : ∀ j, j < m.parts.length → (pt m.ps j).ownBlock = none ∨ (pt m.ps j).ownBlock ≠ v.ownBlock)
    (hg : w.grownBy w' m.pv.ownBlock) (ho : w'.ownsRow p.B 44 1 (.slice (some ⟨k, 0, none⟩) (m.parts.length + 1) c) (m.parts.length + 1) (m.ps ++ [v])) :
    Ws w0 w1 p (w'.setCell ⟨p.g, 6, none⟩ (.slice (some ⟨k, 0, none⟩) (m.parts.length + 1) c)) { m with parts := m.parts ++ [C], ps := m.ps ++ [v], pv := .slice (some ⟨k, 0, none⟩) (m.parts.length + 1) c } := by
  have hl := h.pl
  have hpp : ∀ j, j < m.parts.length → w'.ownsRow p.B 3 1 (pt m.ps j) (m.parts.getD j []).length (ints (m.parts.getD j [])) := fun j hj => own_keep (h.pp j hj) hg (own_tne (h.pp j hj) h.pr cq6)
  have hblk : ∀ b, b < p.B → w'.heap[b]? = w.heap[b]? := fun b hlt => hg.block b (Nat.lt_of_lt_of_le hlt h.sz.2) (fun e => by have := (h.pr.lt b e.symm).1; omega)
  have hgs : (w'.setCell ⟨p.g, 6, none⟩ (.slice (some ⟨k, 0, none⟩) (m.parts.length + 1) c)).rowIs p.g 68 7 (wkF p { m with parts := m.parts ++ [C], ps := m.ps ++ [v], pv := .slice (some ⟨k, 0, none⟩) (m.parts.length + 1) c }) :=
    ((h.gs.of_block (hblk _ h.gl)).set 6 _).congr fun i hi => by
      match i, hi with
      | 0, _ => rfl
      | 1, _ => rfl
      | 2, _ => rfl
      | 3, _ => rfl
      | 4, _ => rfl
      | 5, _ => rfl
      | 6, _ => rfl
  have hL : (m.parts ++ [C]).length = m.parts.length + 1 := by simp
  have hold : ∀ j, j < m.parts.length → pt (m.ps ++ [v]) j = pt m.ps j := fun j hj => getD_snoc_lt cq2
  have hnew : ∀ j, j = m.parts.length → pt (m.ps ++ [v]) j = v := fun j hj => getD_snoc_at cq2
  refine ⟨hgs, (h.ws.of_block (hblk _ h.wl)).setOther (Ne.symm h.gw) _, (h.ls.of_block (hblk _ h.ll)).setOther (Ne.symm h.gl') _, (h.os.of_block (hblk _ h.ol)).setOther (Ne.symm h.go) _, (h.ns.of_block (hblk _ h.nl)).setOther (Ne.symm h.gn) _,
    ownsRow_setCell_below (own_keep h.rr hg (own_tne h.rr h.pr cq6)) h.gl _, ownsRow_setCell_below (own_keep h.wy hg (own_tne h.wy h.pr cq6)) h.gl _, ?_, fun j hj => ?_,
    fun j hj => ?_, fun i j hij hj => ?_, h.d1, h.d2, h.d3, h.lt, h.ge, ⟨h.sz.1, ?_⟩, ?_, fun b hlb hn => ?_⟩
  · show World.ownsRow _ p.B 44 1 _ (m.parts ++ [C]).length (m.ps ++ [v])
    rw [hL]; exact ownsRow_setCell_below ho h.gl _
  · have hj' : j < m.parts.length + 1 := by rw [← hL]; exact hj
    show World.ownsRow _ p.B 3 1 (pt (m.ps ++ [v]) j) ((m.parts ++ [C]).getD j []).length (ints ((m.parts ++ [C]).getD j []))
    rcases Nat.lt_or_ge j m.parts.length with h1 | h1
    · rw [hold j h1, getD_snoc_lt h1]; exact ownsRow_setCell_below (hpp j h1) h.gl _
    · have : j = m.parts.length := by omega
      rw [hnew j this, getD_snoc_at this]; exact ownsRow_setCell_below (own_keep hv hg (own_tne hv h.pr cq6)) h.gl _
  · have hj' : j < m.parts.length + 1 := by rw [← hL]; exact hj
    show (pt (m.ps ++ [v]) j).ownBlock = none ∨ (pt (m.ps ++ [v]) j).ownBlock ≠ m.rv.ownBlock
    rcases Nat.lt_or_ge j m.parts.length with h1 | h1
    · rw [hold j h1]; exact h.pd j h1
    · rw [hnew j cq2]; exact hvr
  · have hj' : j < m.parts.length + 1 := by rw [← hL]; exact hj
    show (pt (m.ps ++ [v]) i).ownBlock = none ∨ (pt (m.ps ++ [v]) i).ownBlock ≠ (pt (m.ps ++ [v]) j).ownBlock
    rcases Nat.lt_or_ge j m.parts.length with h1 | h1
    · rw [hold j h1, hold i cq2]; exact h.pa i j hij h1
    · rw [hnew j cq2, hold i cq2]; exact hvp i cq2
  · have := h.sz.2; have := hg.size; simp [World.setCell]; omega
  · exact (h.fr.grown hg (Nat.le_trans h.sz.1 h.sz.2) (fun k e => Nat.le_trans h.sz.1 (h.pr.lt k e).1)).setCell (h.ge _ (.inl rfl)) _
  · rw [Deep.blk_setCell_other _ _ _ _ (show b ≠ p.g from fun e => hn (.inl e)), hblk b hlb]; exact h.fz b hlb hn
theorem own_cut {w : World} {B e s n k : Nat} {g c : Nat} {xs : List Value} (h : w.ownsRow B e s (.slice (some ⟨g, 0, none⟩) n c) n xs) (hk : k ≤ n) : w.ownsRow B e s (.slice (some ⟨g, 0, none⟩) k c) k (xs.take (k * s)) := by
  rcases h with ⟨hl, ⟨h0, _⟩ | ⟨g', cap, cur, hv, hB, hh, hn, hm, hs, ht⟩⟩
  · cases h0
  · injection hv with h1 _ h3
    injection h1 with h1
    injection h1 with h1
    subst h1 h3
    have hks : k * s ≤ n * s := Nat.mul_le_mul_right _ hk
    refine ⟨by rw [List.length_take, hl]; omega, .inr ⟨_, _, cur, rfl, hB, hh, by omega, hm, hs, ?_⟩⟩
    rw [← ht, List.take_take, Nat.min_eq_left hks]
theorem own_form {w : World} {B e s n : Nat} {v : Value} {xs : List Value} (h : w.ownsRow B e s v n xs) (hn : 0 < n) : ∃ g c, v = .slice (some ⟨g, 0, none⟩) n c ∧ B ≤ g ∧ g < w.heap.size ∧ n ≤ c := by
  rcases h.2 with ⟨_, h0⟩ | ⟨g, cap, cur, hv, hb, hg, hc, _⟩
  · omega
  · exact ⟨g, cap, hv, hb, (Array.getElem?_eq_some_iff.1 hg).1, hc⟩
theorem steps_drop (v k : Nat) (r : List (Nat × Nat)) : (steps ((v, k) :: r)).take (r.length * 2) = steps r := by
  show (steps r ++ _).take _ = _
  rw [← steps_len r, List.take_left]
theorem Ws.popWay (h : Ws w0 w1 p w m) {v k g c : Nat} {r : List (Nat × Nat)} (hw : m.way = (v, k) :: r) (hv : m.wv = .slice (some ⟨g, 0, none⟩) (r.length + 1) c) :
    Ws w0 w1 p (w.setCell ⟨p.g, 5, none⟩ (.slice (some ⟨g, 0, none⟩) r.length c)) { m with way := r, wv := .slice (some ⟨g, 0, none⟩) r.length c } := by
  refine h.setG5 r _ ?_
  have hy := h.wy
  rw [hv, hw] at hy
  have := own_cut hy (k := r.length) (by show r.length ≤ r.length + 1; omega)
  rwa [steps_drop] at this
theorem way_cells {v k g c : Nat} {r : List (Nat × Nat)} (h : Ws w0 w1 p w m) (hw : m.way = (v, k) :: r) (hv : m.wv = .slice (some ⟨g, 0, none⟩) (r.length + 1) c) :
    w.cell? ⟨g, r.length * 2, none⟩ = some (.int .i64 (v : Nat)) ∧ w.cell? ⟨g, r.length * 2 + 1, none⟩ = some (.int .i64 (k : Nat)) ∧ ∀ j, w.frozen? ⟨g, j, none⟩ = false := by
  have hy := h.wy
  rw [hv, hw] at hy
  have hy' : w.ownsRow p.B 119 2 (.slice (some ⟨g, 0, none⟩) (r.length + 1) c) (r.length + 1) (steps r ++ [Value.int .i64 (v : Nat), Value.int .i64 (k : Nat)]) := hy
  have hL := steps_len r
  refine ⟨?_, ?_, fun j => hy'.frozenAt j⟩
  · rw [hy'.cellAt _ cq2, List.getElem?_append_right cq2, hL]; simp
  · rw [hy'.cellAt _ cq2, List.getElem?_append_right cq2, hL, show r.length * 2 + 1 - r.length * 2 = 1 by omega]; rfl
theorem Ws.stir (h : Ws w0 w1 p w m) {m' : Mm} {b i : Nat} (u : Value) (hB : p.B ≤ b)
    (e1 : m'.wh = m.wh) (e2 : m'.lo = m.lo) (e3 : m'.on = m.on) (e4 : m'.n = m.n) (e5 : m'.rv = m.rv) (e6 : m'.wv = m.wv) (e7 : m'.pv = m.pv) (e8 : m'.row = m.row) (e9 : m'.parts = m.parts) (e10 : m'.ps = m.ps)
    (hr : m.rv.ownBlock ≠ some b) (hp : m.pv.ownBlock ≠ some b) (hpp : ∀ j, j < m.parts.length → (pt m.ps j).ownBlock ≠ some b)
    (hy : (w.setCell ⟨b, i, none⟩ u).ownsRow p.B 119 2 m'.wv m'.way.length (steps m'.way)) : Ws w0 w1 p (w.setCell ⟨b, i, none⟩ u) m' := by
  have hne : ∀ q, q < p.B → q ≠ b := fun q hq => by omega
  have hk : ∀ c, c < p.B → (w.setCell ⟨b, i, none⟩ u).heap[c]? = w.heap[c]? := fun c hc => Deep.blk_setCell_other _ _ _ _ (hne c hc)
  refine ⟨?_, ?_, ?_, ?_, ?_, ?_, hy, ?_, fun j hj => ?_, ?_, ?_, h.d1, h.d2, h.d3, h.lt, h.ge, ⟨h.sz.1, by have := h.sz.2; simpa [World.setCell] using this⟩, h.fr.setCell (Nat.le_trans h.sz.1 hB) u, fun c hlc hn => (hk c hlc).trans (h.fz c hlc hn)⟩
  · rw [wkF_same e5 e6 e7]; exact h.gs.of_block (hk _ h.gl)
  · rw [e1]; exact h.ws.of_block (hk _ h.wl)
  · rw [e2]; exact h.ls.of_block (hk _ h.ll)
  · rw [e3]; exact h.os.of_block (hk _ h.ol)
  · rw [e4]; exact h.ns.of_block (hk _ h.nl)
  · rw [e5, e8]; exact ownsRow_setCell_other h.rr hr u
  · rw [e7, e9, e10]; exact ownsRow_setCell_other h.pr hp u
  · rw [e9] at hj ⊢; rw [e10]; exact ownsRow_setCell_other (h.pp j hj) (hpp j hj) u
  · rw [e9, e10, e5]; exact h.pd
  · rw [e9, e10]; exact h.pa
theorem ne_of_tne {w : World} {B e1 s1 n1 e2 s2 n2 : Nat} {v1 v2 : Value} {x1 x2 : List Value} (h : w.ownsRow B e1 s1 v1 n1 x1) (k : w.ownsRow B e2 s2 v2 n2 x2) (hne : e1 ≠ e2) {b : Nat} (hb : v2.ownBlock = some b) : v1.ownBlock ≠ some b := by
  intro e
  rcases own_tne h k hne with h1 | h1
  · rw [h1] at e; cases e
  · exact h1 (e.trans hb.symm)
theorem Ws.stepWay (h : Ws w0 w1 p w m) {v k g c : Nat} {r : List (Nat × Nat)} (hw : m.way = (v, k) :: r) (hv : m.wv = .slice (some ⟨g, 0, none⟩) (r.length + 1) c) :
    Ws w0 w1 p (w.setCell ⟨g, r.length * 2 + 1, none⟩ (.int .i64 ((k + 1 : Nat) : Int))) { m with way := (v, k + 1) :: r } := by
  have hy := h.wy
  have hb : m.wv.ownBlock = some g := by rw [hv]; rfl
  refine h.stir (m' := { m with way := (v, k + 1) :: r }) _ (h.wy.lt g hb).1 rfl rfl rfl rfl rfl rfl rfl rfl rfl rfl (ne_of_tne h.rr h.wy cq6 hb) (ne_of_tne h.pr h.wy cq6 hb) (fun j hj => ne_of_tne (h.pp j hj) h.wy cq6 hb) ?_
  show World.ownsRow _ p.B 119 2 m.wv (r.length + 1) (steps r ++ [Value.int .i64 (v : Nat), Value.int .i64 ((k + 1 : Nat) : Int)])
  rw [hv, hw] at hy
  rw [hv]
  have hy' : w.ownsRow p.B 119 2 (.slice (some ⟨g, 0, none⟩) (r.length + 1) c) (r.length + 1) (steps r ++ [Value.int .i64 (v : Nat), Value.int .i64 (k : Nat)]) := hy
  have := hy'.stored (r.length * 2 + 1) (.int .i64 ((k + 1 : Nat) : Int))
  have hL := steps_len r
  rw [List.set_append_right _ _ cq2, hL, show r.length * 2 + 1 - r.length * 2 = 1 by omega] at this
  exact this.1
end
end Go.Proofs.YtligpleningglaaGreat.Cw
namespace Go.Proofs.YtligpleningglaaGreat.Cw
open Go Go.RowKit Go.Proofs.YtligpleningglaaGreat.Tarjan
def mm (s : T) (rv wv pv : Value) (ps : List Value) : Mm := ⟨s.wh, s.lo, fun j => decide (j ∈ s.row), s.n, s.row, s.way, s.parts, rv, wv, pv, ps⟩
theorem on_meet (row : List Nat) (i : Nat) : upO (fun j => decide (j ∈ row)) i true = fun j => decide (j ∈ row ++ [i]) := by
  funext j
  unfold upO
  by_cases e : j = i
  · subst e; simp
  · simp [e]
def clr (on : Nat → Bool) (l : List Nat) : Nat → Bool := fun j => if j ∈ l then false else on j
theorem clr_nil (on : Nat → Bool) : clr on [] = on := by funext j; simp [clr]
theorem clr_next (on : Nat → Bool) (l : List Nat) (t : Nat) (ht : t < l.length) : upO (clr on (l.take t)) l[t] false = clr on (l.take (t + 1)) := by
  funext j
  unfold upO clr
  have hm : j ∈ l.take (t + 1) ↔ j ∈ l.take t ∨ j = l[t] := by
    rw [List.take_succ_eq_append_getElem ht, List.mem_append, List.mem_singleton]
  by_cases e : j = l[t]
  · rw [if_pos e, if_pos (hm.2 (.inr e))]
  · rw [if_neg e]
    by_cases h : j ∈ l.take t
    · rw [if_pos h, if_pos (hm.2 (.inl h))]
    · rw [if_neg h, if_neg (fun h' => (hm.1 h').elim h e)]
section
variable {nx : Nat → List Nat} {N : Nat} {s : T}
theorem Inv.row_nodup (I : Inv nx N s) : s.row.Nodup := I.rw_.imp (fun h e => by subst e; omega)
theorem Inv.row_lt (I : Inv nx N s) {v : Nat} (h : v ∈ s.row) : v < N := I.dom v ((I.met v).2 (.inl h))
def idx (s : T) (v : Nat) : Nat := (s.row.takeWhile (fun j => j != v)).length
theorem idx_split (I : Inv nx N s) {v : Nat} (hv : v ∈ s.row) : idx s v < s.row.length ∧ s.row[idx s v]? = some v ∧ (∀ j, j < s.row.length → j ≠ idx s v → s.row[j]? ≠ some v) ∧ s.row.take (idx s v) = s.row.takeWhile (fun j => j != v) ∧ s.row.drop (idx s v) = s.row.dropWhile (fun j => j != v) := by
  have ht : s.row.takeWhile (fun j => j != v) ++ s.row.dropWhile (fun j => j != v) = s.row := List.takeWhile_append_dropWhile
  have h1 : s.row.take (idx s v) = s.row.takeWhile (fun j => j != v) := by
    have := congrArg (List.take (idx s v)) ht
    unfold idx at this ⊢
    rw [List.take_left] at this
    exact this.symm
  have h2 : s.row.drop (idx s v) = s.row.dropWhile (fun j => j != v) := by
    have := congrArg (List.drop (idx s v)) ht
    unfold idx at this ⊢
    rw [List.drop_left] at this
    exact this.symm
  have h3 : ∃ B, s.row.dropWhile (fun j => j != v) = v :: B := by
    cases hd : s.row.dropWhile (fun j => j != v) with
    | nil =>
      rw [hd, List.append_nil] at ht
      rw [← ht] at hv
      have : ∀ l : List Nat, v ∉ l.takeWhile (fun j => j != v) := by
        intro l
        induction l with
        | nil => simp
        | cons a l ih =>
          rw [List.takeWhile_cons]
          by_cases e : a = v
          · subst e; simp
          · have : (a != v) = true := by simpa using e
            rw [if_pos this, List.mem_cons]
            rintro (h | h)
            · exact e h.symm
            · exact ih h
      exact absurd hv (this _)
    | cons x B =>
      have : ∀ l : List Nat, l.dropWhile (fun j => j != v) = x :: B → x = v := by
        intro l
        induction l with
        | nil => intro h; cases h
        | cons a l ih =>
          intro h
          rw [List.dropWhile_cons] at h
          by_cases e : a = v
          · have : (a != v) = false := by simpa using e
            rw [this] at h
            simp at h
            rw [← h.1]; exact e
          · have : (a != v) = true := by simpa using e
            rw [if_pos this] at h
            exact ih h
      exact ⟨B, by rw [this _ hd]⟩
  obtain ⟨B, hB⟩ := h3
  have hlt : idx s v < s.row.length := by
    have := congrArg List.length ht
    rw [List.length_append, hB, List.length_cons] at this
    unfold idx; omega
  have hat : s.row[idx s v]? = some v := by
    have := congrArg List.head? h2
    rw [hB, List.head?_drop] at this
    exact this
  refine ⟨hlt, hat, fun j hj hne he => ?_, h1, h2⟩
  have hn := Inv.row_nodup I
  rw [qE hj] at he
  rw [qE hlt] at hat
  injection he with he; injection hat with hat
  have hp := List.pairwise_iff_getElem.1 hn
  rcases Nat.lt_trichotomy j (idx s v) with h | h | h
  · exact hp j _ hj hlt h (he.trans hat.symm)
  · exact hne h
  · exact hp _ j hlt hj h (hat.trans he.symm)
theorem on_leave (I : Inv nx N s) {v : Nat} (hv : v ∈ s.row) {cmp : List Nat → List Nat} (hcm : ∀ l x, x ∈ cmp l ↔ x ∈ l) : clr (fun j => decide (j ∈ s.row)) (cmp (s.row.dropWhile (fun j => j != v))) = fun j => decide (j ∈ s.row.takeWhile (fun j => j != v)) := by
  funext j
  unfold clr
  have ht : s.row.takeWhile (fun j => j != v) ++ s.row.dropWhile (fun j => j != v) = s.row := List.takeWhile_append_dropWhile
  have hn := Inv.row_nodup I
  rw [← ht] at hn
  have hdis := (List.nodup_append.1 hn).2.2
  have hmem : j ∈ s.row ↔ j ∈ s.row.takeWhile (fun j => j != v) ∨ j ∈ s.row.dropWhile (fun j => j != v) := by
    have := List.mem_append (a := j) (s := s.row.takeWhile (fun j => j != v)) (t := s.row.dropWhile (fun j => j != v))
    rw [ht] at this; exact this
  by_cases h : j ∈ s.row.dropWhile (fun j => j != v)
  · rw [if_pos ((hcm _ _).2 h)]
    have : j ∉ s.row.takeWhile (fun j => j != v) := fun h' => hdis j h' j h rfl
    simp [this]
  · rw [if_neg (fun h' => h ((hcm _ _).1 h'))]
    by_cases h2 : j ∈ s.row.takeWhile (fun j => j != v)
    · have := hmem.2 (.inl h2); simp [h2, this]
    · have : j ∉ s.row := fun h3 => (hmem.1 h3).elim h2 h
      simp [h2, this]
structure Bd (N : Nat) (s : T) : Prop where
  n : s.n + cnt N (metB s) = N
  r : s.parts.length + s.row.length ≤ s.n
  w : s.way.length ≤ s.n
theorem Bd.le (h : Bd N s) : s.n ≤ N := by have := h.n; omega
theorem Bd.meet (h : Bd N s) {i : Nat} (hi : i < N) (hm : s.wh i = 0) : Bd N (meetP i s) := by
  have hb : metB s i = false := by simp [metB, hm]
  have hc := cnt_up hi hb
  refine ⟨?_, ?_, ?_⟩
  · rw [metB_meet]; have := h.n; show s.n + 1 + _ = N; omega
  · show s.parts.length + (s.row ++ [i]).length ≤ s.n + 1
    have := h.r; simp; omega
  · show ((i, 0) :: s.way).length ≤ s.n + 1
    have := h.w; simp; omega
theorem Bd.lt (h : Bd N s) {i : Nat} (hi : i < N) (hm : s.wh i = 0) : s.n < N := by
  have hb : metB s i = false := by simp [metB, hm]
  have hc := cnt_up hi hb
  have := h.n
  omega
theorem Bd.adv (h : Bd N s) {v k : Nat} {r : List (Nat × Nat)} (hw : s.way = (v, k) :: r) (lo : Nat → Nat) : Bd N { adv v k r s with lo := lo } :=
  ⟨h.n, h.r, by have := h.w; rw [hw] at this; exact this⟩
theorem Bd.leave (h : Bd N s) (I : Inv nx N s) {cmp : List Nat → List Nat} {v k : Nat} {r : List (Nat × Nat)} (hw : s.way = (v, k) :: r) : Bd N (leaveP cmp v s) := by
  have hvr : v ∈ s.row := I.gr ⟨k, by rw [hw]; exact List.mem_cons_self⟩
  have h3 : s.way.tail.length ≤ s.n := by have := h.w; rw [hw] at this ⊢; simp at this ⊢; omega
  unfold leaveP
  split
  · exact ⟨h.n, h.r, h3⟩
  · refine ⟨h.n, ?_, h3⟩
    show (s.parts ++ [_]).length + (s.row.takeWhile (fun j => j != v)).length ≤ s.n
    have h1 := (idx_split I hvr).1
    unfold idx at h1
    have := h.r
    simp; omega
theorem Bd.round (h : Bd N s) (I : Inv nx N s) {cmp : List Nat → List Nat} (hnx : ∀ v, ∀ x ∈ nx v, x < N) : Bd N (roundP cmp nx s) := by
  unfold roundP
  cases hw : s.way with
  | nil => exact h
  | cons q r =>
    obtain ⟨v, k⟩ := q
    show Bd N (if k = (nx v).length then leaveP cmp v s else if s.wh ((nx v).getD k 0) = 0 then meetP ((nx v).getD k 0) (Tarjan.adv v k r s) else if (nx v).getD k 0 ∈ s.row then { Tarjan.adv v k r s with lo := _ } else Tarjan.adv v k r s)
    have hk' : k ≤ (nx v).length := (I.wr (v, k) (by rw [hw]; exact List.mem_cons_self)).2
    by_cases hk : k = (nx v).length
    · rw [if_pos hk]; exact h.leave I hw
    · rw [if_neg hk]
      have hto : (nx v).getD k 0 < N := by
        have hkl : k < (nx v).length := by omega
        rw [qD, qE hkl]
        exact hnx v _ (List.getElem_mem hkl)
      split
      · rename_i hm
        exact (h.adv hw s.lo).meet hto hm
      · split
        · exact h.adv hw _
        · exact h.adv hw s.lo
theorem Bd.iter {cmp : List Nat → List Nat} (hcm : ∀ l x, x ∈ cmp l ↔ x ∈ l) (hnx : ∀ v, ∀ x ∈ nx v, x < N) : ∀ (m : Nat) (s : T), Inv nx N s → Bd N s → Bd N (iterP cmp nx m s) := by
  intro m
  induction m with
  | zero => intro s _ h; exact h
  | succ m ih =>
    intro s I h
    unfold iterP
    split
    · exact h
    · exact ih _ (round_inv hcm hnx I) (h.round I hnx)
theorem Bd.start : Bd N startP := ⟨by
  show 0 + cnt N (metB startP) = N
  have : metB startP = fun _ => false := by funext v; simp [metB, startP]
  rw [this]; unfold cnt; simp, Nat.le_refl _, Nat.le_refl _⟩
theorem Bd.upto {cmp : List Nat → List Nat} (hcm : ∀ l x, x ∈ cmp l ↔ x ∈ l) (hnx : ∀ v, ∀ x ∈ nx v, x < N) : ∀ i, i ≤ N → Bd N (uptoP cmp nx N i) := by
  intro i
  induction i with
  | zero => intro _; exact Bd.start
  | succ i ih =>
    intro hi
    obtain ⟨I, hw, _⟩ := upto_ok hcm hnx i cq2
    rw [uptoP_succ]
    unfold fromP
    split
    · rename_i hm
      exact Bd.iter hcm hnx _ _ (start_inv I hw (row_nil I hw) (i := i) cq2 hm) ((ih cq2).meet cq2 hm)
    · exact ih cq2
def finP (cmp : List Nat → List Nat) (nx : Nat → List Nat) (N : Nat) (s : T) : T := iterP cmp nx (total nx N s) s
theorem iter_stable {cmp : List Nat → List Nat} (hcm : ∀ l x, x ∈ cmp l ↔ x ∈ l) (hnx : ∀ v, ∀ x ∈ nx v, x < N) : ∀ (m m' : Nat) (s : T), Inv nx N s → total nx N s ≤ m → total nx N s ≤ m' → iterP cmp nx m s = iterP cmp nx m' s := by
  have hz : ∀ (m : Nat) (s : T), Inv nx N s → s.way = [] → iterP cmp nx m s = s := by
    intro m s I h
    cases m with
    | zero => rfl
    | succ m => unfold iterP; rw [h]; rfl
  intro m
  induction m with
  | zero =>
    intro m' s I h _
    have hw : s.way = [] := by
      cases hw : s.way with
      | nil => rfl
      | cons p r => have := round_lt (cmp := cmp) I (by rw [hw]; simp); omega
    rw [hz 0 s I hw, hz m' s I hw]
  | succ m ih =>
    intro m' s I h h'
    cases hw : s.way with
    | nil => rw [hz _ s I hw, hz m' s I hw]
    | cons p r =>
      have hlt := round_lt (cmp := cmp) I (by rw [hw]; simp)
      cases m' with
      | zero => omega
      | succ m' =>
        unfold iterP
        rw [hw]
        simp only [List.isEmpty_cons, Bool.false_eq_true, if_false]
        exact ih m' _ (round_inv hcm hnx I) cq2 cq2
theorem fin_round {cmp : List Nat → List Nat} (hcm : ∀ l x, x ∈ cmp l ↔ x ∈ l) (hnx : ∀ v, ∀ x ∈ nx v, x < N) (I : Inv nx N s) (hw : s.way ≠ []) : finP cmp nx N (roundP cmp nx s) = finP cmp nx N s := by
  have hlt := round_lt (cmp := cmp) I hw
  obtain ⟨t, ht⟩ : ∃ t, total nx N s = t + 1 := ⟨total nx N s - 1, by omega⟩
  unfold finP
  rw [ht]
  have e : iterP cmp nx (t + 1) s = iterP cmp nx t (roundP cmp nx s) := by
    show (if s.way.isEmpty then s else iterP cmp nx t (roundP cmp nx s)) = _
    cases hw' : s.way with
    | nil => exact absurd hw' hw
    | cons p r => rfl
  rw [e]
  exact iter_stable hcm hnx _ t _ (round_inv hcm hnx I) (Nat.le_refl _) cq2
theorem fin_end {cmp : List Nat → List Nat} (hw : s.way = []) : finP cmp nx N s = s := by
  unfold finP
  cases total nx N s with
  | zero => rfl
  | succ m => unfold iterP; rw [hw]; rfl
theorem fin_from {cmp : List Nat → List Nat} (i : Nat) (hm : s.wh i = 0) : fromP cmp nx N i s = finP cmp nx N (meetP i s) := by
  unfold fromP walkP finP; rw [if_pos hm]
end
end Go.Proofs.YtligpleningglaaGreat.Cw
namespace Go.Proofs
open Go.Shelf
def Tryz.laysClone_ren : Go.Shelf.Ren := ⟨fun | 15 => 46 | n => n, fun | 22 => 44 | 3 => 3 | 4 => 4 | n => n, fun | n => n⟩
theorem Tryz.laysClone : Go.Proofs.Lays2.n15 Tryz.prog Tryz.laysClone_ren := {
  mixed := by kernel_rfl
  f15 := Tryz.func46.trans (congrArg some cq3)
  t3 := Tryz.underlying3
  a3 := Tryz.isAgg3
  z3 := Tryz.sizeOf3
  v3 := Tryz.zeroValue3
  t4 := Tryz.underlying4
  a4 := Tryz.isAgg4
  z4 := Tryz.sizeOf4
  v4 := Tryz.zeroValue4
  t22 := Tryz.underlying44
  a22 := Tryz.isAgg44
  z22 := Tryz.sizeOf44
  v22 := Tryz.zeroValue44
  i3 := by kernel_rfl }
def Tryz.laysCompact_ren : Go.Shelf.Ren := ⟨fun | 20 => 48 | n => n, fun | 22 => 44 | 3 => 3 | 4 => 4 | 0 => 0 | n => n, fun | n => n⟩
theorem Tryz.laysCompact : Go.Proofs.Lays2.n20 Tryz.prog Tryz.laysCompact_ren := {
  mixed := by kernel_rfl
  f20 := Tryz.func48.trans (congrArg some cq3)
  t0 := Tryz.underlying0
  a0 := Tryz.isAgg0
  z0 := Tryz.sizeOf0
  v0 := Tryz.zeroValue0
  t3 := Tryz.underlying3
  a3 := Tryz.isAgg3
  z3 := Tryz.sizeOf3
  v3 := Tryz.zeroValue3
  t4 := Tryz.underlying4
  a4 := Tryz.isAgg4
  z4 := Tryz.sizeOf4
  v4 := Tryz.zeroValue4
  t22 := Tryz.underlying44
  a22 := Tryz.isAgg44
  z22 := Tryz.sizeOf44
  v22 := Tryz.zeroValue44
  i3 := by kernel_rfl }
def Tryz.laysSort_ren : Go.Shelf.Ren := ⟨fun | 189 => 47 | 125 => 93 | 257 => 92 | 128 => 131 | 129 => 132 | 294 => 122 | 295 => 123 | 296 => 124 | 297 => 125 | 298 => 126 | 299 => 127 | 216 => 128 | 300 => 129 | 301 => 130 | 328 => 144 | 329 => 145 | 330 => 146 | 331 => 147 | 332 => 148 | 215 => 149 | 343 => 152 | n => n, fun | 28 => 44 | 3 => 3 | 46 => 159 | 0 => 0 | 51 => 256 | 53 => 73 | 4 => 4 | 183 => 248 | 182 => 247 | 131 => 253 | 5 => 5 | 9 => 9 | 218 => 268 | 222 => 70 | 228 => 275 | 229 => 276 | n => n, fun | n => n⟩
theorem Tryz.laysSort : Go.Proofs.Lays.n189 Tryz.prog Tryz.laysSort_ren := {
  mixed := by kernel_rfl
  f125 := Tryz.func93.trans (congrArg some cq3)
  f128 := Tryz.func131.trans (congrArg some cq3)
  f129 := Tryz.func132.trans (congrArg some cq3)
  f189 := Tryz.func47.trans (congrArg some cq3)
  f215 := Tryz.func149.trans (congrArg some cq3)
  f216 := Tryz.func128.trans (congrArg some cq3)
  f257 := Tryz.func92.trans (congrArg some cq3)
  f294 := Tryz.func122.trans (congrArg some cq3)
  f295 := Tryz.func123.trans (congrArg some cq3)
  f296 := Tryz.func124.trans (congrArg some cq3)
  f297 := Tryz.func125.trans (congrArg some cq3)
  f298 := Tryz.func126.trans (congrArg some cq3)
  f299 := Tryz.func127.trans (congrArg some cq3)
  f300 := Tryz.func129.trans (congrArg some cq3)
  f301 := Tryz.func130.trans (congrArg some cq3)
  f328 := Tryz.func144.trans (congrArg some cq3)
  f329 := Tryz.func145.trans (congrArg some cq3)
  f330 := Tryz.func146.trans (congrArg some cq3)
  f331 := Tryz.func147.trans (congrArg some cq3)
  f332 := Tryz.func148.trans (congrArg some cq3)
  f343 := Tryz.func152.trans (congrArg some cq3)
  t0 := Tryz.underlying0
  a0 := Tryz.isAgg0
  z0 := Tryz.sizeOf0
  v0 := Tryz.zeroValue0
  t3 := Tryz.underlying3
  a3 := Tryz.isAgg3
  z3 := Tryz.sizeOf3
  v3 := Tryz.zeroValue3
  t4 := Tryz.underlying4
  a4 := Tryz.isAgg4
  z4 := Tryz.sizeOf4
  v4 := Tryz.zeroValue4
  t5 := Tryz.underlying5
  a5 := Tryz.isAgg5
  z5 := Tryz.sizeOf5
  v5 := Tryz.zeroValue5
  t9 := Tryz.underlying9
  a9 := Tryz.isAgg9
  z9 := Tryz.sizeOf9
  v9 := Tryz.zeroValue9
  t28 := Tryz.underlying44
  a28 := Tryz.isAgg44
  z28 := Tryz.sizeOf44
  v28 := Tryz.zeroValue44
  t46 := Tryz.underlying159
  a46 := Tryz.isAgg159
  z46 := Tryz.sizeOf159
  v46 := Tryz.zeroValue159
  t51 := Tryz.underlying256
  a51 := Tryz.isAgg256
  z51 := Tryz.sizeOf256
  v51 := Tryz.zeroValue256
  t53 := Tryz.underlying73
  a53 := Tryz.isAgg73
  z53 := Tryz.sizeOf73
  v53 := Tryz.zeroValue73
  t131 := Tryz.underlying253
  a131 := Tryz.isAgg253
  z131 := Tryz.sizeOf253
  v131 := Tryz.zeroValue253
  t182 := Tryz.underlying247
  a182 := Tryz.isAgg247
  z182 := Tryz.sizeOf247
  v182 := Tryz.zeroValue247
  t183 := Tryz.underlying248
  a183 := Tryz.isAgg248
  z183 := Tryz.sizeOf248
  v183 := Tryz.zeroValue248
  t218 := Tryz.underlying268
  a218 := Tryz.isAgg268
  z218 := Tryz.sizeOf268
  v218 := Tryz.zeroValue268
  t222 := Tryz.underlying70
  a222 := Tryz.isAgg70
  z222 := Tryz.sizeOf70
  v222 := Tryz.zeroValue70
  t228 := Tryz.underlying275
  a228 := Tryz.isAgg275
  z228 := Tryz.sizeOf275
  v228 := Tryz.zeroValue275
  t229 := Tryz.underlying276
  a229 := Tryz.isAgg276
  z229 := Tryz.sizeOf276
  v229 := Tryz.zeroValue276 }
end Go.Proofs
namespace Go.Proofs.YtligpleningglaaGreat.Cw
open Go Go.RowKit Go.Shelf Go.Sort Go.Proofs.YtligpleningglaaGreat.Tarjan Go.Proofs.YtligpleningglaaGreatW.PrintWords Go.Proofs.YtligpleningglaaGreatW.PrintLast Go.Proofs.YtligpleningglaaGreatW.PrintMore Go.Proofs.YtligpleningglaaGreat.F
theorem sort_own (W : World) (B g cap : Nat) (xs : List Int) (ho : W.ownsRow B 3 1 (.slice (some ⟨g, 0, none⟩) xs.length cap) xs.length (xs.map (Value.int .i64))) (hl : xs.length < 4611686018427387904) (hB : B ≤ W.heap.size) :
    Calls Tryz.prog 47 #[.slice (some ⟨g, 0, none⟩) xs.length cap] W fun e w' => e = .returned (.tuple #[]) ∧ w'.ownsRow B 3 1 (.slice (some ⟨g, 0, none⟩) xs.length cap) xs.length ((sortedZ xs).map (Value.int .i64)) ∧ ∀ w0, Below B w0 W → Below B w0 w' := by
  rcases ho.2 with ⟨h0, _⟩ | ⟨g', cap', cur, hv, hb, hg, hn, hm, hs, ht⟩
  · cases h0
  · injection hv with h1 _ h3
    injection h1 with h1
    injection h1 with h1
    subst h1 h3
    have hlt : g < W.heap.size := (Array.getElem?_eq_some_iff.1 hg).1
    have hH : Holds (Value.int .i64) W g 0 xs.toArray := holds_of_blockI hg (by rw [Nat.mul_one] at ht; exact ht)
    refine (Any.slices_Sort_int (P := Tryz.prog) (ρ := Tryz.laysSort_ren) Tryz.laysSort g 0 cap xs W hH hlt hl).mono ?_
    rintro e w' ⟨rfl, n, os, rfl⟩
    exact ⟨rfl, ownsRow_sortedI (n := n) (os := os) (ts := sortedZ xs) (sortedZ_len xs) hb hg hn hm hs, fun w0 h0 => h0.grown (grownBy_sortedI _) hB (fun k hk => by cases hk; exact hb)⟩
theorem compact_own (W : World) (B g cap : Nat) (ys : List Int) (ho : W.ownsRow B 3 1 (.slice (some ⟨g, 0, none⟩) ys.length cap) ys.length (ys.map (Value.int .i64))) (hl : ys.length < 4611686018427387904) :
    Calls Tryz.prog 48 #[.slice (some ⟨g, 0, none⟩) ys.length cap] W fun e w' => ∃ v', e = .returned v' ∧ w'.ownsRow B 3 1 v' (Lib.compact ys).length ((Lib.compact ys).map (Value.int .i64)) ∧ Below B W w' := by
  obtain ⟨g', cap', he, hB, hlt, _, hnc, hlen, hH⟩ := Lib.holds_of_ownsRow ho cq23
  injection he with he _ hcap
  injection he with he
  injection he with he
  subst he; subst hcap
  have hc := Any.slices_Compact_int (P := Tryz.prog) (ρ := Tryz.laysCompact_ren) Tryz.laysCompact g 0 cap ys W hH cq2 cq2
  refine hc.mono ?_
  rintro e w' ⟨rfl, q, rfl⟩
  have hl := Lib.compact_length_le ys
  refine ⟨_, rfl, ?_, Lib.below_putRow (Below.refl _ _) hB⟩
  have h2 := Lib.ownsRow_putRow (q := q) (k := (Lib.compact ys).length) (ys := Lib.compact ys ++ List.replicate (ys.length - (Lib.compact ys).length) 0) ho cq52 hl
  rw [List.take_left] at h2
  exact h2
theorem compact_from (w : World) (A : Option Addr) (c : Nat) (xs : List Int) (hbig : xs.length * 8 ≤ 140737488355328)
    (hcl : Calls Tryz.prog 46 #[.slice A xs.length c] w fun e w' => ∃ v', e = .returned v' ∧ w'.ownsRow w.heap.size 3 1 v' xs.length (xs.map (Value.int .i64)) ∧ v' ≠ .slice none 0 0 ∧ Below w.heap.size w w') :
    Calls Tryz.prog 27 #[.slice A xs.length c] w fun e w' => ∃ v', e = .returned v' ∧ w'.ownsRow w.heap.size 3 1 v' (cmpZ xs).length ((cmpZ xs).map (Value.int .i64)) ∧ Below w.heap.size w w' := by
  have SRT := qA (fun W B g cap => sort_own W B g cap xs)
  have CMP := qA (fun W B g cap => compact_own W B g cap (sortedZ xs))
  have HB := qA hbig
  have CL := qA hcl
  clear hbig hcl
  go_enter Tryz.func27, Tryz.ntmps27
  go_wp2_with (first
    | (go_at_call 46; refine CL.out.mono ?_; rintro e w1 ⟨v1, rfl, hown, hnn, hbel⟩
       obtain ⟨g, cap, rfl, hbg, _, _, hcm, hlen, hH⟩ := Lib.holds_of_ownsRow hown hnn
       have HO := qA hown
       have HW := qA hbel
       clear hown hbel hH hnn hlen)
    | (go_at_call 47; refine (SRT.out w1 w.heap.size g cap HO.out (by have := HB.out; omega) HW.out.size).mono ?_; rintro e w2 ⟨rfl, ho2, hb2⟩
       have HO2 := qA ho2
       have HW2 := qA (hb2 w HW.out)
       clear ho2 hb2)
    | (go_at_call 48; refine (show Calls Tryz.prog 48 #[.slice (some ⟨g, 0, none⟩) xs.length cap] w2 _ by
         have h3 := CMP.out w2 w.heap.size g cap (by rw [sortedZ_len]; exact HO2.out) (by rw [sortedZ_len]; have := HB.out; omega)
         rw [sortedZ_len] at h3
         exact h3).mono ?_; rintro e w3 ⟨v3, rfl, ho3, hb3⟩
       have HO3 := qA ho3
       have HW3 := qA (HW2.out.trans hb3)
       clear ho3 hb3))
  go_ret
  exact ⟨_, rfl, HO3.out, HW3.out⟩
theorem compact_nil (w : World) (c : Nat) :
    Calls Tryz.prog 27 #[.slice none 0 c] w fun e w' => e = .returned (.slice none 0 0) ∧ w' = w := by
  go_enter Tryz.func27, Tryz.ntmps27
  go_wp2_with (first
    | (go_at_call 46; refine (Any.slices_Clone_int_nil (P := Tryz.prog) (ρ := Tryz.laysClone_ren) Tryz.laysClone 0 c _).mono ?_; rintro e w' ⟨rfl, rfl⟩)
    | (go_at_call 47; refine (Any.slices_Sort_int_none (P := Tryz.prog) (ρ := Tryz.laysSort_ren) Tryz.laysSort none 0 _).mono ?_; rintro e w' ⟨rfl, rfl⟩)
    | (go_at_call 48; refine (Any.slices_Compact_int_empty (P := Tryz.prog) (ρ := Tryz.laysCompact_ren) Tryz.laysCompact none 0 _).mono ?_; rintro e w' ⟨rfl, rfl⟩))
  go_ret
  exact ⟨rfl, rfl⟩
theorem row_plain {w : World} {ad : Addr} {xs : List Int} (h : Kd.C (Kd.int .i64) w (some ad) xs.length xs) (hn : 0 < xs.length) : ad = ⟨ad.block, ad.off, none⟩ ∧ ∀ j, j < xs.length → w.cell? ⟨ad.block, ad.off + j, none⟩ = some (.int .i64 (xs.getD j 0)) := by
  have hsp : ad.spot = none := by
    obtain ⟨ad', e, hc⟩ := Kd.at_int h 0 cq2 cq2
    cases e
    have hz : ad.add (0 : Int).toNat = ad := rfl
    rw [hz] at hc
    unfold World.cell? at hc
    split at hc
    · split at hc
      · cases hc
      · rename_i hs
        cases hsp : ad.spot with
        | none => rfl
        | some q => rw [hsp] at hs; simp at hs
    · cases hc
  have he : ad = ⟨ad.block, ad.off, none⟩ := by cases ad; simp at hsp; subst hsp; rfl
  refine ⟨he, fun j hj => ?_⟩
  obtain ⟨ad', e, hc⟩ := Kd.at_int h j cq2 cq2
  cases e
  rw [he] at hc
  simp only [Int.toNat_natCast] at hc
  have ha : (⟨ad.block, ad.off, none⟩ : Addr).add j = ⟨ad.block, ad.off + j, none⟩ := by
    unfold Addr.add
    by_cases e : j = 0
    · subst e; rfl
    · rw [if_neg e]
  rw [ha] at hc
  rw [hc]
  unfold YtligpleningglaaGreatW.PrintWords.rd
  rw [Int.toNat_natCast]
theorem compact_calls (w : World) (A : Option Addr) (c : Nat) (xs : List Int) (h : Kd.C (Kd.int .i64) w A xs.length xs) (hc : xs.length ≤ c) (hbig : xs.length ≤ 17592186044416) :
    Calls Tryz.prog 27 #[.slice A xs.length c] w fun e w' => ∃ v', e = .returned v' ∧ w'.ownsRow w.heap.size 3 1 v' (cmpZ xs).length ((cmpZ xs).map (Value.int .i64)) ∧ Below w.heap.size w w' := by
  rcases Nat.eq_zero_or_pos xs.length with h0 | hpos
  · obtain rfl : xs = [] := List.length_eq_zero_iff.1 h0
    cases A with
    | none =>
      refine (compact_nil w c).mono ?_
      rintro e w' ⟨rfl, rfl⟩
      have h0 : cmpZ [] = [] := List.eq_nil_iff_forall_not_mem.2 (fun x hx => by rw [cmpZ_mem] at hx; cases hx)
      rw [h0]
      exact ⟨_, rfl, World.ownsRow_nil _ _ _ _, Below.refl _ _⟩
    | some ad =>
      exact compact_from w (some ad) c [] cq23 (Any.slices_Clone_int_zero (P := Tryz.prog) (ρ := Tryz.laysClone_ren) Tryz.laysClone ad c w)
  · cases A with
    | none =>
      obtain ⟨ad, e, _⟩ := Kd.at_int h 0 cq2 cq2
      cases e
    | some ad =>
      obtain ⟨he, hcell⟩ := row_plain h hpos
      refine compact_from w (some ad) c xs cq2 ?_
      rw [he]
      have hcl := Any.slices_Clone_int (P := Tryz.prog) (ρ := Tryz.laysClone_ren) Tryz.laysClone ad.block ad.off xs.length c xs w (Nat.le_refl _) cq2 hcell
      rw [List.take_length] at hcl
      exact hcl
end Go.Proofs.YtligpleningglaaGreat.Cw
namespace Go.Proofs.YtligpleningglaaGreat.Cw
open Go Go.RowKit Go.Proofs.YtligpleningglaaGreat.Tarjan Go.Proofs.YtligpleningglaaGreatW.PrintWords Go.Proofs.YtligpleningglaaGreatW.PrintLast Go.Proofs.YtligpleningglaaGreatW.PrintMore Go.Proofs.YtligpleningglaaGreat.F
attribute [local go_sem] min2_int min_two
section
variable {w0 w1 w : World} {p : Pl} {m : Mm}
theorem Ws.c0 (h : Ws w0 w1 p w m) : w.cell? ⟨p.g, 0, none⟩ = some p.nv := h.gs.cell cq2
theorem Ws.c1 (h : Ws w0 w1 p w m) : w.cell? ⟨p.g, 1, none⟩ = some (rowV p.bw p.N) := h.gs.cell cq2
theorem Ws.c2 (h : Ws w0 w1 p w m) : w.cell? ⟨p.g, 2, none⟩ = some (rowV p.bl p.N) := h.gs.cell cq2
theorem Ws.c3 (h : Ws w0 w1 p w m) : w.cell? ⟨p.g, 3, none⟩ = some m.rv := h.gs.cell cq2
theorem Ws.c4 (h : Ws w0 w1 p w m) : w.cell? ⟨p.g, 4, none⟩ = some (rowV p.bo p.N) := h.gs.cell cq2
theorem Ws.c5 (h : Ws w0 w1 p w m) : w.cell? ⟨p.g, 5, none⟩ = some m.wv := h.gs.cell cq2
theorem Ws.c6 (h : Ws w0 w1 p w m) : w.cell? ⟨p.g, 6, none⟩ = some m.pv := h.gs.cell cq2
end
theorem info119 : (Tryz.prog.info? 119).map (fun i => (i.zero, i.size, i.bytes)) = some (some (.agg #[(.int .i64 0), (.int .i64 0)]), 2, 16) := by kernel_rfl
theorem Ws.grow_g {w0 w1 w w' : World} {p : Pl} {m : Mm} (h : Ws w0 w1 p w m) {v : Value} (hg : w.grownBy w' v.ownBlock) (hv : ∀ k, v.ownBlock = some k → p.B ≤ k) : w'.rowIs p.g 68 7 (wkF p m) :=
  h.gs.of_block (hg.block p.g (Nat.lt_of_lt_of_le h.gl h.sz.2) (fun e => by have := hv _ e.symm; have := h.gl; omega))
theorem cells_lit1 (w : World) (v : Value) (e : TypeId) : ∀ (j : Nat) (u : Value), [v][j]? = some u → (w.alloc (Obj.cells #[v] e)).cell? ((⟨w.heap.size, 0, none⟩ : Addr).add j) = some u :=
  World.news_of_block (cs := #[v]) (heap_alloc_new w _)
theorem meet_calls (w0 w1 w : World) (p : Pl) (s : T) (rv wv pv : Value) (ps : List Value) (i : Nat) (h : Ws w0 w1 p w (mm s rv wv pv ps)) (hi : i < p.N) (hN : p.N ≤ 5864062014805) (hn : s.n < p.N) (hr : s.row.length < p.N) (hw : s.way.length < p.N) :
    Calls Tryz.prog 49 #[.pointer (some ⟨p.g, 0, none⟩), .int .i64 i, .pointer (some ⟨p.bn, 0, none⟩)] w fun e w' => e = .returned (.tuple #[]) ∧ ∃ rv' wv', Ws w0 w1 p w' (mm (meetP i s) rv' wv' pv ps) := by
  have xn : w.cell? ⟨p.bn, 0, none⟩ = some (.int .i64 (s.n : Nat)) := h.ns.cell cq2
  have fn := h.ns.frozen 0
  have H := qA h
  clear h
  go_enter Tryz.func49, Tryz.ntmps49
  go_wp2
  obtain ⟨m2, em2⟩ : ∃ m2 : Mm, m2 = { mm s rv wv pv ps with n := s.n + 1 } := ⟨_, rfl⟩
  obtain ⟨w2, ew2⟩ : ∃ w2, w2 = w.setCell ⟨p.bn, 0, none⟩ (.int .i64 ((s.n : Int) + 1)) := ⟨_, rfl⟩
  have hwr : (s.n : Int) + 1 = ((s.n + 1 : Nat) : Int) := by omega
  have H2 := qA (show Ws w0 w1 p w2 m2 by
    rw [ew2, em2, hwr]
    exact H.out.setN (s.n + 1))
  have hn2 : m2.n = s.n + 1 := by rw [em2]
  have HN2 := qA (show w2.rowIs p.bn 3 1 (fun _ => .int .i64 ((s.n + 1 : Nat) : Int)) by have := H2.out.ns; rw [hn2] at this; exact this)
  have E2 := qA em2
  rw [← ew2]
  clear em2 ew2 hwr hn2 xn fn
  have p1 : (0 : Int) ≤ (i : Int) := by omega
  have q1 : (i : Int) < (p.N : Int) := by omega
  have xw := H2.out.ws.cell hi
  have xl := H2.out.ls.cell hi
  have xo := H2.out.os.cell hi
  have fw := H2.out.ws.frozen i
  have fl := H2.out.ls.frozen i
  have fo := H2.out.os.frozen i
  have d1 := H2.out.d1
  have d4 := H2.out.ow
  have d5 := H2.out.ol'
  refine start_ (n := 27) (S := fun w' => w'.cell? ⟨p.g, 1, none⟩ = some (.slice (some ⟨p.bw, 0, none⟩) p.N p.N) ∧ w'.cell? ⟨p.g, 2, none⟩ = some (.slice (some ⟨p.bl, 0, none⟩) p.N p.N) ∧ w'.cell? ⟨p.g, 4, none⟩ = some (.slice (some ⟨p.bo, 0, none⟩) p.N p.N) ∧ w'.cell? ⟨p.bn, 0, none⟩ = some (.int .i64 ((s.n + 1 : Nat) : Int))) (ds := [22, 24, 26]) #[false, false, false, false, false, false, false, false, false, false, false, false, false, false, false, false, false, false, false, false, false, false, false, false, false, false, false] cq3 rfl rfl ⟨(H2.out.drew.c1), (H2.out.drew.c2), (H2.out.drew.c4), (HN2.out.cell cq2)⟩ (fun hHeld => ?_)
  refine pure_ (i := 0) (N := some 11) (v := ?_) (a' := ?_) #[true, false, false, false, false, false, false, false, false, false, false, false, false, false, false, false, false, false, false, false, false, false, false, false, false, false, false] rfl rfl cq3 (fun _ _ _ h => h) (Or.inl ⟨by rfl, ?_⟩) ?_ ?_
  rotate_left
  · intro w'
    go_simp
    with_reducible rfl
  rotate_left
  · simp only [Act.put, qS, qZ, qN, i64_w, i32_w]
    rfl
  refine pure_ (i := 1) (N := some 12) (v := ?_) (a' := ?_) #[true, true, false, false, false, false, false, false, false, false, false, false, false, false, false, false, false, false, false, false, false, false, false, false, false, false, false] rfl rfl cq3 (fun _ _ _ h => h) (Or.inl ⟨by rfl, ?_⟩) ?_ ?_
  rotate_left
  · intro w'
    go_simp
    with_reducible rfl
  rotate_left
  · simp only [Act.put, qS, qZ, qN, i64_w, i32_w]
    rfl
  refine pure_ (i := 2) (N := some 13) (v := ?_) (a' := ?_) #[true, true, true, false, false, false, false, false, false, false, false, false, false, false, false, false, false, false, false, false, false, false, false, false, false, false, false] rfl rfl cq3 (fun _ _ _ h => h) (Or.inl ⟨by rfl, ?_⟩) ?_ ?_
  rotate_left
  · intro w'
    go_simp
    with_reducible rfl
  rotate_left
  · simp only [Act.put, qS, qZ, qN, i64_w, i32_w]
    rfl
  refine pure_ (i := 4) (N := some 15) (v := ?_) (a' := ?_) #[true, true, true, false, true, false, false, false, false, false, false, false, false, false, false, false, false, false, false, false, false, false, false, false, false, false, false] rfl rfl cq3 (fun _ _ _ h => h) (Or.inl ⟨by rfl, ?_⟩) ?_ ?_
  rotate_left
  · intro w'
    go_simp
    with_reducible rfl
  rotate_left
  · simp only [Act.put, qS, qZ, qN, i64_w, i32_w]
    rfl
  refine pure_ (i := 5) (N := some 16) (v := ?_) (a' := ?_) #[true, true, true, false, true, true, false, false, false, false, false, false, false, false, false, false, false, false, false, false, false, false, false, false, false, false, false] rfl rfl cq3 (fun _ _ _ h => h) (Or.inl ⟨by rfl, ?_⟩) ?_ ?_
  rotate_left
  · intro w'
    go_simp
    with_reducible rfl
  rotate_left
  · simp only [Act.put, qS, qZ, qN, i64_w, i32_w]
    rfl
  refine pure_ (i := 6) (N := some 17) (v := ?_) (a' := ?_) #[true, true, true, false, true, true, true, false, false, false, false, false, false, false, false, false, false, false, false, false, false, false, false, false, false, false, false] rfl rfl cq3 (fun _ _ _ h => h) (Or.inl ⟨by rfl, ?_⟩) ?_ ?_
  rotate_left
  · intro w'
    go_simp
    with_reducible rfl
  rotate_left
  · simp only [Act.put, qS, qZ, qN, i64_w, i32_w]
    rfl
  refine pure_ (i := 7) (N := some 18) (v := ?_) (a' := ?_) #[true, true, true, false, true, true, true, true, false, false, false, false, false, false, false, false, false, false, false, false, false, false, false, false, false, false, false] rfl rfl cq3 (fun _ _ _ h => h) (Or.inl ⟨by rfl, ?_⟩) ?_ ?_
  rotate_left
  · intro w'
    go_simp
    with_reducible rfl
  rotate_left
  · simp only [Act.put, qS, qZ, qN, i64_w, i32_w]
    rfl
  refine pure_ (i := 9) (N := some 20) (v := ?_) (a' := ?_) #[true, true, true, false, true, true, true, true, false, true, false, false, false, false, false, false, false, false, false, false, false, false, false, false, false, false, false] rfl rfl cq3 (fun _ _ _ h => h) (Or.inl ⟨by rfl, ?_⟩) ?_ ?_
  rotate_left
  · intro w'
    go_simp
    with_reducible rfl
  rotate_left
  · simp only [Act.put, qS, qZ, qN, i64_w, i32_w]
    rfl
  refine pure_ (i := 10) (N := some 21) (v := ?_) (a' := ?_) #[true, true, true, false, true, true, true, true, false, true, true, false, false, false, false, false, false, false, false, false, false, false, false, false, false, false, false] rfl rfl cq3 (fun _ _ _ h => h) (Or.inl ⟨by rfl, ?_⟩) ?_ ?_
  rotate_left
  · intro w'
    go_simp
    with_reducible rfl
  rotate_left
  · simp only [Act.put, qS, qZ, qN, i64_w, i32_w]
    rfl
  refine pure_ (i := 11) (N := some 22) (v := ?_) (a' := ?_) #[true, true, true, false, true, true, true, true, false, true, true, true, false, false, false, false, false, false, false, false, false, false, false, false, false, false, false] rfl rfl cq3 (fun _ _ _ h => h) (Or.inl ⟨by rfl, ?_⟩) ?_ ?_
  rotate_left
  · intro w'
    go_simp
    with_reducible rfl
  rotate_left
  · simp only [Act.put, qS, qZ, qN, i64_w, i32_w]
    rfl
  refine pure_ (i := 12) (N := some 23) (v := ?_) (a' := ?_) #[true, true, true, false, true, true, true, true, false, true, true, true, true, false, false, false, false, false, false, false, false, false, false, false, false, false, false] rfl rfl cq3 (fun _ _ _ h => h) (Or.inl ⟨by rfl, ?_⟩) ?_ ?_
  rotate_left
  · intro w'
    go_simp
    with_reducible rfl
  rotate_left
  · simp only [Act.put, qS, qZ, qN, i64_w, i32_w]
    rfl
  refine pure_ (i := 14) (N := some 25) (v := ?_) (a' := ?_) #[true, true, true, false, true, true, true, true, false, true, true, true, true, false, true, false, false, false, false, false, false, false, false, false, false, false, false] rfl rfl cq3 (fun _ _ _ h => h) (Or.inl ⟨by rfl, ?_⟩) ?_ ?_
  rotate_left
  · intro w'
    go_simp
    with_reducible rfl
  rotate_left
  · simp only [Act.put, qS, qZ, qN, i64_w, i32_w]
    rfl
  refine pure_ (i := 15) (N := some 26) (v := ?_) (a' := ?_) #[true, true, true, false, true, true, true, true, false, true, true, true, true, false, true, true, false, false, false, false, false, false, false, false, false, false, false] rfl rfl cq3 (fun _ _ _ h => h) (Or.inl ⟨by rfl, ?_⟩) ?_ ?_
  rotate_left
  · intro w'
    go_simp
    with_reducible rfl
  rotate_left
  · simp only [Act.put, qS, qZ, qN, i64_w, i32_w]
    rfl
  refine pure_ (i := 16) (N := some 27) (v := ?_) (a' := ?_) #[true, true, true, false, true, true, true, true, false, true, true, true, true, false, true, true, true, false, false, false, false, false, false, false, false, false, false] rfl rfl cq3 (fun _ _ _ h => h) (Or.inl ⟨by rfl, ?_⟩) ?_ ?_
  rotate_left
  · intro w'
    go_simp
    with_reducible rfl
  rotate_left
  · simp only [Act.put, qS, qZ, qN, i64_w, i32_w]
    rfl
  refine pure_ (i := 18) (N := some 29) (v := ?_) (a' := ?_) #[true, true, true, false, true, true, true, true, false, true, true, true, true, false, true, true, true, false, true, false, false, false, false, false, false, false, false] rfl rfl cq3 (fun _ _ _ h => h) (Or.inl ⟨by rfl, ?_⟩) ?_ ?_
  rotate_left
  · intro w'
    go_simp
    with_reducible rfl
  rotate_left
  · simp only [Act.put, qS, qZ, qN, i64_w, i32_w]
    rfl
  refine pure_ (i := 19) (N := some 30) (v := ?_) (a' := ?_) #[true, true, true, false, true, true, true, true, false, true, true, true, true, false, true, true, true, false, true, true, false, false, false, false, false, false, false] rfl rfl cq3 (fun _ _ _ h => h) (Or.inl ⟨by rfl, ?_⟩) ?_ ?_
  rotate_left
  · intro w'
    go_simp
    with_reducible rfl
  rotate_left
  · simp only [Act.put, qS, qZ, qN, i64_w, i32_w]
    rfl
  refine take_ (i := 3) (N := some 14) (v := ?_) (a' := ?_) #[true, true, true, true, true, true, true, true, false, true, true, true, true, false, true, true, true, false, true, true, false, false, false, false, false, false, false] rfl rfl cq3 (fun _ _ _ h => h) (Or.inl ⟨by rfl, ?_⟩) hHeld ?_ ?_
  rotate_left
  · rintro w' ⟨s0, s1, s2, s3⟩
    go_simp
    with_reducible rfl
  rotate_left
  · simp only [Act.put, qS, qZ, qN, i64_w, i32_w]
    rfl
  refine take_ (i := 8) (N := some 19) (v := ?_) (a' := ?_) #[true, true, true, true, true, true, true, true, true, true, true, true, true, false, true, true, true, false, true, true, false, false, false, false, false, false, false] rfl rfl cq3 (fun _ _ _ h => h) (Or.inl ⟨by rfl, ?_⟩) hHeld ?_ ?_
  rotate_left
  · rintro w' ⟨s0, s1, s2, s3⟩
    go_simp
    with_reducible rfl
  rotate_left
  · simp only [Act.put, qS, qZ, qN, i64_w, i32_w]
    rfl
  refine take_ (i := 13) (N := some 24) (v := ?_) (a' := ?_) #[true, true, true, true, true, true, true, true, true, true, true, true, true, true, true, true, true, false, true, true, false, false, false, false, false, false, false] rfl rfl cq3 (fun _ _ _ h => h) (Or.inl ⟨by rfl, ?_⟩) hHeld ?_ ?_
  rotate_left
  · rintro w' ⟨s0, s1, s2, s3⟩
    go_simp
    with_reducible rfl
  rotate_left
  · simp only [Act.put, qS, qZ, qN, i64_w, i32_w]
    rfl
  refine take_ (i := 17) (N := some 28) (v := ?_) (a' := ?_) #[true, true, true, true, true, true, true, true, true, true, true, true, true, true, true, true, true, true, true, true, false, false, false, false, false, false, false] rfl rfl cq3 (fun _ _ _ h => h) (Or.inl ⟨by rfl, ?_⟩) hHeld ?_ ?_
  rotate_left
  · rintro w' ⟨s0, s1, s2, s3⟩
    go_simp
    with_reducible rfl
  rotate_left
  · simp only [Act.put, qS, qZ, qN, i64_w, i32_w]
    rfl
  refine take_ (i := 20) (N := some 31) (v := ?_) (a' := ?_) #[true, true, true, true, true, true, true, true, true, true, true, true, true, true, true, true, true, true, true, true, true, false, false, false, false, false, false] rfl rfl cq3 (fun _ _ _ h => h) (Or.inl ⟨by rfl, ?_⟩) hHeld ?_ ?_
  rotate_left
  · rintro w' ⟨s0, s1, s2, s3⟩
    go_simp
    with_reducible rfl
  rotate_left
  · simp only [Act.put, qS, qZ, qN, i64_w, i32_w]
    rfl
  refine pure_ (i := 21) (N := some 32) (v := ?_) (a' := ?_) #[true, true, true, true, true, true, true, true, true, true, true, true, true, true, true, true, true, true, true, true, true, true, false, false, false, false, false] rfl rfl cq3 (fun _ _ _ h => h) (Or.inl ⟨by rfl, ?_⟩) ?_ ?_
  rotate_left
  · intro w'
    go_simp
    with_reducible rfl
  rotate_left
  · simp only [Act.put, qS, qZ, qN, i64_w, i32_w]
    rfl
  refine last_ (i := 22) (N := none) #[true, true, true, true, true, true, true, true, true, true, true, true, true, true, true, true, true, true, true, true, true, true, true, false, false, false, false] rfl rfl cq3 cq6 (fun K hK => ?_)
  refine skip_ (w1 := ?_) cq60 rfl ?_ ?_
  rotate_left
  · go_simp
    rfl
  refine hK.out _ _ ?_
  clear hK K
  refine pure_ (i := 23) (N := some 33) (v := ?_) (a' := ?_) #[true, true, true, true, true, true, true, true, true, true, true, true, true, true, true, true, true, true, true, true, true, true, true, true, false, false, false] rfl rfl cq3 (fun _ _ _ h => h) (Or.inl ⟨by rfl, ?_⟩) ?_ ?_
  rotate_left
  · intro w'
    go_simp
    with_reducible rfl
  rotate_left
  · simp only [Act.put, qS, qZ, qN, i64_w, i32_w]
    rfl
  refine last_ (i := 24) (N := none) #[true, true, true, true, true, true, true, true, true, true, true, true, true, true, true, true, true, true, true, true, true, true, true, true, true, false, false] rfl rfl cq3 cq6 (fun K hK => ?_)
  refine skip_ (w1 := ?_) cq60 rfl ?_ ?_
  rotate_left
  · go_simp
    rfl
  refine hK.out _ _ ?_
  clear hK K
  refine pure_ (i := 25) (N := some 34) (v := ?_) (a' := ?_) #[true, true, true, true, true, true, true, true, true, true, true, true, true, true, true, true, true, true, true, true, true, true, true, true, true, true, false] rfl rfl cq3 (fun _ _ _ h => h) (Or.inl ⟨by rfl, ?_⟩) ?_ ?_
  rotate_left
  · intro w'
    go_simp
    with_reducible rfl
  rotate_left
  · simp only [Act.put, qS, qZ, qN, i64_w, i32_w]
    rfl
  refine last_ (i := 26) (N := none) #[true, true, true, true, true, true, true, true, true, true, true, true, true, true, true, true, true, true, true, true, true, true, true, true, true, true, true] rfl rfl cq3 cq6 (fun K hK => ?_)
  refine skip_ (w1 := ?_) cq60 rfl ?_ ?_
  rotate_left
  · go_simp
    rfl
  refine hK.out _ _ ?_
  clear hK K
  refine done_ cq3 ?_


  obtain ⟨m3, em3⟩ : ∃ m3 : Mm, m3 = { { { m2 with wh := up m2.wh i (s.n + 1) } with lo := up m2.lo i (s.n + 1) } with on := upO m2.on i true } := ⟨_, rfl⟩
  obtain ⟨w3, ew3⟩ : ∃ w3, w3 = (((w2.setCell ⟨p.bw, i, none⟩ (.int .i64 ((s.n : Int) + 1))).setCell ⟨p.bl, i, none⟩ (.int .i64 ((s.n : Int) + 1))).setCell ⟨p.bo, i, none⟩ (.bool true)).drew := ⟨_, rfl⟩
  have H3 := qA (show Ws w0 w1 p w3 m3 by
    rw [ew3, em3, show (s.n : Int) + 1 = ((s.n + 1 : Nat) : Int) by omega]
    exact (((H2.out.setW i (s.n + 1)).setL i (s.n + 1)).setO i true).drew)
  have E3 := qA em3
  rw [← ew3]
  have x3 : w3.cell? ⟨p.g, 3, none⟩ = some m3.rv := H3.out.c3
  have hr3 : m3.row.length < p.N := by rw [em3, E2.out]; exact hr
  have hw3 : m3.way.length < p.N := by rw [em3, E2.out]; exact hw
  clear em3 ew3 xw xl xo fw fl fo d1 d4 d5 hHeld hr hw hn
  obtain ⟨i3, hi3, hz3⟩ := Option.map_eq_some_iff.1 info3
  obtain ⟨i73, hi73, hz73⟩ := Option.map_eq_some_iff.1 info119
  simp only [Prod.mk.injEq] at hz3 hz73
  obtain ⟨z3a, z3b, z3c⟩ := hz3
  obtain ⟨z7a, z7b, z7c⟩ := hz73
  have NN := qA (show p.N ≤ 5864062014805 ∧ m3.row.length < p.N ∧ m3.way.length < p.N from ⟨hN, hr3, hw3⟩)
  have I3 := qA (show Tryz.prog.info? 3 = some i3 ∧ i3.zero = some (Value.int IntKind.i64 0) ∧ i3.size = 1 ∧ i3.bytes = 8 from ⟨hi3, z3a, z3b, z3c⟩)
  have I73 := qA (show Tryz.prog.info? 119 = some i73 ∧ i73.zero = some (.agg #[(.int .i64 0), (.int .i64 0)]) ∧ i73.size = 2 ∧ i73.bytes = 16 from ⟨hi73, z7a, z7b, z7c⟩)
  clear hi3 hi73 z3a z3b z3c z7a z7b z7c hr3 hw3 hN
  go_wp2_with (first
    | ((with_reducible refine gate_builtin (b := .append) (xs := #[.tmp 39, .tmp 41]) rfl ?_); at_builtin
       refine wpList_append_lies _ rfl _ _ 44 rfl p.B 3 i3 (.int .i64 0) 1 8 Tryz.underlying44 I3.out.1 I3.out.2.1 I3.out.2.2.1 I3.out.2.2.2 rfl cq6 m3.rv m3.row.length (ints m3.row) rfl (H3.out.rr.alloc _) ⟨w3.heap.size, 0, none⟩ 1 1 [.int .i64 (i : Nat)] rfl rfl (cells_lit1 w3 _ 3) ?q1 cq6 ?q2 ?q3 ?q4 _ rfl ?_
       (case q1 => intro u hu; simp at hu; subst hu; rfl)
       (case q2 => unfold maxLen; have := NN.out; omega)
       (case q3 => have := NN.out; omega)
       (case q4 => have := H3.out.sz.2; simp; omega)
       intro k c w4 hown hg hat hlt
       have H3a := H3.out.below (below_alloc (Below.refl _ _) (.cells #[.int .i64 (i : Nat)] 3))
       have G4 := H3a.grow_g hg (fun k hk => (H3a.rr.lt k hk).1)
       have H5 := qA (H3a.pushRow i hg hown hat rfl)
       have x3 : w4.cell? ⟨p.g, 3, none⟩ = some m3.rv := G4.cell cq2
       have f3 : w4.frozen? ⟨p.g, 3, none⟩ = false := G4.frozen 3
       have x5 : w4.cell? ⟨p.g, 5, none⟩ = some m3.wv := G4.cell cq2
       clear hown hg hat hlt H3a G4)
    | ((with_reducible refine gate_builtin (b := .append) (xs := #[.tmp 49, .tmp 52]) rfl ?_); at_builtin
       obtain ⟨w5, ew5⟩ : ∃ w5, w5 = w4.setCell ⟨p.g, 3, none⟩ (.slice (some ⟨k, 0, none⟩) (m3.row.length + 1) c) := ⟨_, rfl⟩
       have hz5 : w5.heap.size = w4.heap.size := by rw [ew5]; simp [World.setCell]
       rw [← ew5] at H5 ⊢
       clear ew5 x3 f3 x5
       refine wpList_append_lies _ rfl _ _ 66 rfl p.B 119 i73 (.agg #[(.int .i64 0), (.int .i64 0)]) 2 16 Tryz.underlying66 I73.out.1 I73.out.2.1 I73.out.2.2.1 I73.out.2.2.2 rfl cq6 m3.wv m3.way.length (steps m3.way) rfl (H5.out.wy.alloc _) ⟨w4.heap.size, 0, none⟩ 1 1 [.int .i64 (i : Nat), .int .i64 0] rfl rfl (by rw [← hz5]; exact World.news_of_block (cs := #[.int .i64 (i : Nat), .int .i64 0]) (heap_alloc_new w5 _)) ?q1 cq6 ?q2 ?q3 ?q4 _ rfl ?_
       (case q1 => intro u hu; simp at hu; rcases hu with rfl | rfl <;> rfl)
       (case q2 => unfold maxLen; have := NN.out; omega)
       (case q3 => have := NN.out; omega)
       (case q4 => have := H5.out.sz.2; simp; omega)
       intro k2 c2 w6 hown hg hat hlt
       have H5a := H5.out.below (below_alloc (Below.refl _ _) (.cells #[.int .i64 (i : Nat), .int .i64 0] 119))
       have G6 := H5a.grow_g hg (fun k hk => (H5a.wy.lt k hk).1)
       have H7 := qA (H5a.pushWay (H := 0) i hg hown)
       have x5 : w6.cell? ⟨p.g, 5, none⟩ = some m3.wv := G6.cell cq2
       have f5 : w6.frozen? ⟨p.g, 5, none⟩ = false := G6.frozen 5
       clear hown hg hat hlt H5a G6))
  first | go_end0 | ((try simp only [Exit.inBlock, Exit.then]); refine bodyPost_ret (results_none rfl _ _ _) rfl ?_)
  refine ⟨rfl, .slice (some ⟨k, 0, none⟩) (m3.row.length + 1) c, .slice (some ⟨k2, 0, none⟩) (m3.way.length + 1) c2, ?_⟩
  have h7 := H7.out
  have e : mm (meetP i s) (.slice (some ⟨k, 0, none⟩) (m3.row.length + 1) c) (.slice (some ⟨k2, 0, none⟩) (m3.way.length + 1) c2) pv ps = { { m3 with row := m3.row ++ [i], rv := .slice (some ⟨k, 0, none⟩) (m3.row.length + 1) c } with way := (i, 0) :: m3.way, wv := .slice (some ⟨k2, 0, none⟩) (m3.way.length + 1) c2 } := by
    rw [E3.out, E2.out]
    unfold mm
    rw [on_meet]
    rfl
  rw [e]
  exact h7
end Go.Proofs.YtligpleningglaaGreat.Cw
