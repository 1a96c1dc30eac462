/- CallsCalled, told plainly: for every program the answer is true; and its argument, opened. Written by mkrq.py out of other texts of this seat. -/
import Derived.Test.YtligpleningglaaRc
import Derived.Test.YtligpleningglaaFxf4
import Derived.Deep.Slices
import Derived.ChangeArms
import Derived.OpenShut
import Derived.SizedLaws
namespace Go.Proofs.Ytligpleningglaa.Ko
open Go Go.ChangeShapes Go.WideShapes Go.Deep Go.RowKit Go.Proofs.YtligpleningglaaW.PrintWords
set_option linter.unusedVariables false
set_option linter.unusedSimpArgs false
theorem weightsAll_mem {H : Type} {P : Program} {e : TypeId} : ∀ {l : List (DataW H)} {d : DataW H}, d ∈ l → ∀ n ∈ d.weights P e, n ∈ DataW.weightsAll P e l
  | d' :: r, d, hd, n, hn => by
    simp only [DataW.weightsAll, List.mem_append]
    rcases List.mem_cons.1 hd with rfl | h
    · exact Or.inl hn
    · exact Or.inr (weightsAll_mem h n hn)
/-- what is trodden at a type reads by a kind, and if its weights are what memory bears, so is the value. -/
structure Opn {α : Type} (P : Program) (W : World) (k : Kd α) (t : TypeId) (Ok : α → Prop) : Prop where
  out : ∀ {H : Type} {enc : TypeId × Value → H} {base : Nat} {spare : Nat → Bool} {held : Bool} {fuel : Nat} {cs : List Value} {x : DataW H × List MemPlace}, DataW.trod enc P W base spare held fuel t cs = some x →
    ∃ v, k.K W v cs ∧ ((∀ n ∈ x.1.weights P t, n ≤ reachBytes) → Ok v)
/-- the fields of a struct, from an offset on. -/
structure OpF {α : Type} (P : Program) (W : World) (k : Kd α) (off : Nat) (fs : List Field) (Ok : α → Prop) : Prop where
  out : ∀ {H : Type} {enc : TypeId × Value → H} {base : Nat} {spare : Nat → Bool} {held : Bool} {fuel : Nat} {cs : List Value} {xs : List (DataW H × List MemPlace)}, cs.length = off + k.sz → xs.length = fs.length →
    (∀ (i : Nat) (f : Field), fs[i]? = some f → DataW.trod enc P W base spare held fuel f.type ((cs.drop f.offset).take (P.cellsOf f.type)) = xs[i]?) →
    ∃ v, k.K W v (cs.drop off) ∧ ((∀ n ∈ DataW.weightsEach P (fs.map (·.type)) (xs.map (·.1)), n ≤ reachBytes) → Ok v)
section
variable {P : Program} {W : World}
theorem op_int {k : IntKind} {t : TypeId} (ht : P.underlying t = some (.int k)) : Opn P W (Kd.int k) t (fun n => (Lit.int k n).wf = true) := ⟨fun h => by
  obtain ⟨n, rfl, rfl, hw⟩ := DataW.trod_int ht h
  exact ⟨n, rfl, fun _ => hw⟩⟩
theorem op_bool {t : TypeId} (ht : P.underlying t = some .bool) : Opn P W Kd.bool t (fun _ => True) := ⟨fun h => by
  obtain ⟨n, rfl, rfl⟩ := DataW.trod_bool ht h
  exact ⟨n, rfl, fun _ => trivial⟩⟩
theorem op_string {t : TypeId} (ht : P.underlying t = some .string) : Opn P W Kd.string t (fun s => s.size ≤ reachBytes) := ⟨fun h => by
  obtain ⟨s, rfl, rfl, _⟩ := DataW.trod_string ht h
  exact ⟨s, rfl, fun hs => hs _ (by simp [DataW.weights])⟩⟩
theorem op_slice {α : Type} {d : Kd α} {t e : TypeId} {Ok : α → Prop} (q : Nat) (ht : P.underlying t = some (.slice e)) (hc : P.cellsOf e = d.sz) (hd : Opn P W d e Ok) :
    Opn P W (Kd.slice q d) t (fun l => l.length * P.bytesOf e ≤ reachBytes ∧ ∀ x ∈ l, Ok x) := ⟨fun {H enc base spare held fuel cs x} h => by
  rcases open_slice ht h with ⟨rfl, rfl⟩ | ⟨a, len, cap, m, n, D, Pl, rfl, hb, hl, hm, hmm, rfl, hx⟩
  · exact ⟨[], ⟨none, 0, rfl, Nat.le_refl _, Kd.C_nil _ _⟩, fun _ => ⟨by simp, fun _ h => by cases h⟩⟩
  · have hlm : len ≤ m := by rw [hmm]; split <;> omega
    have each : ∀ i, i < len → ∃ v : α, ∃ cs', cs'.length = d.sz ∧ d.K W v cs' ∧ (∀ j u, cs'[j]? = some u → W.cell? (a.add (i * d.sz + j)) = some u) ∧ ((∀ n ∈ (D i).weights P e, n ≤ reachBytes) → Ok v) := fun i hi => by
      obtain ⟨cs', h1, h2⟩ := hx i (by omega)
      rw [hc] at h1
      obtain ⟨_, hlen, hcell⟩ := World.cells?_some h1
      obtain ⟨v, hv, hw⟩ := hd.out h2
      refine ⟨v, cs', hlen, hv, fun j u hu => ?_, hw⟩
      have hj : j < d.sz := by
        rcases Nat.lt_or_ge j cs'.length with h | h
        · omega
        · rw [List.getElem?_eq_none h] at hu; cases hu
      rw [← hu, ← hcell j hj, Deep.add_add]
    have hinh : len = 0 ∨ Nonempty α := by
      by_cases h0 : len = 0
      · exact .inl h0
      · obtain ⟨v, _⟩ := each 0 (by omega); exact .inr ⟨v⟩
    rcases hinh with h0 | ⟨⟨v0⟩⟩
    · subst h0
      refine ⟨[], ⟨some a, cap, rfl, Nat.zero_le _, ⟨rfl, Nat.zero_le _, fun h => absurd h (Nat.lt_irrefl 0)⟩⟩, fun _ => ⟨by simp, fun _ h => by cases h⟩⟩
    · haveI : Inhabited α := ⟨v0⟩
      obtain ⟨f, hf⟩ := choose_lt each
      have hfl : ((List.range len).map f).length = len := by simp
      refine ⟨(List.range len).map f, ⟨some a, cap, by rw [hfl], by rw [hfl]; exact hl, ⟨rfl, by rw [hfl]; unfold maxLen at hm; omega, fun _ => ⟨a, rfl, fun j p hj => ?_⟩⟩⟩, fun hw => ⟨?_, ?_⟩⟩
      · rw [List.getElem?_map] at hj
        by_cases hjl : j < len
        · rw [List.getElem?_range hjl] at hj
          injection hj with hj
          subst hj
          obtain ⟨cs', h1, h2, h3, _⟩ := hf j hjl
          exact ⟨cs', h1, h2, h3⟩
        · rw [List.getElem?_eq_none (by simp; omega)] at hj
          cases hj
      · have := hw ((((List.range len).map D).length + ((List.range (m - len)).map fun j => D (len + j)).length) * P.bytesOf e) (by simp [DataW.weights, ht])
        rw [hfl]
        rw [List.length_map, List.length_map, List.length_range, List.length_range] at this
        exact Nat.le_trans (Nat.mul_le_mul_right _ (Nat.le_add_right _ _)) this
      · intro x hx
        obtain ⟨j, hj, rfl⟩ := List.mem_map.1 hx
        rw [List.mem_range] at hj
        obtain ⟨_, _, _, _, h4⟩ := hf j hj
        refine h4 (fun n hn => hw n ?_)
        have : n ∈ DataW.weightsAll P e ((List.range len).map D) := weightsAll_mem (List.mem_map.2 ⟨j, List.mem_range.2 hj, rfl⟩) n hn
        simp only [DataW.weights, ht, List.mem_cons, List.mem_append]
        exact .inr (.inl this)⟩
theorem op_last {α : Type} {k : Kd α} {off : Nat} {f : Field} {Ok : α → Prop} (ho : f.offset = off) (hc : P.cellsOf f.type = k.sz) (h : Opn P W k f.type Ok) : OpF P W k off [f] Ok := ⟨fun {H enc base spare held fuel cs xs} hl hx hf => by
  match xs, hx with
  | [y], _ =>
    have h1 : DataW.trod enc P W base spare held fuel f.type ((cs.drop f.offset).take (P.cellsOf f.type)) = some y := hf 0 f rfl
    rw [ho, hc, List.take_of_length_le (by rw [List.length_drop]; omega)] at h1
    obtain ⟨v, h2, h3⟩ := h.out h1
    exact ⟨v, h2, fun hw => h3 (fun n hn => hw n (by simp only [List.map_cons, List.map_nil, DataW.weightsEach, List.append_nil]; exact hn))⟩⟩
theorem op_more {α β : Type} {a : Kd α} {b : Kd β} {off : Nat} {f : Field} {fs : List Field} {OkA : α → Prop} {OkB : β → Prop} (ho : f.offset = off) (hc : P.cellsOf f.type = a.sz) (h : Opn P W a f.type OkA) (hs : OpF P W b (off + a.sz) fs OkB) :
    OpF P W (Kd.pair a b) off (f :: fs) (fun x => OkA x.1 ∧ OkB x.2) := ⟨fun {H enc base spare held fuel cs xs} hl hx hf => by
  have hl' : cs.length = off + (a.sz + b.sz) := hl
  match xs, hx with
  | y :: ys, hx =>
    have h1 : DataW.trod enc P W base spare held fuel f.type ((cs.drop f.offset).take (P.cellsOf f.type)) = some y := hf 0 f rfl
    rw [ho, hc] at h1
    obtain ⟨v, h2, h3⟩ := h.out h1
    obtain ⟨u, h4, h5⟩ := hs.out (cs := cs) (xs := ys) (by omega) (by simpa using hx) (fun i g hg => hf (i + 1) g hg)
    refine ⟨(v, u), ⟨(cs.drop off).take a.sz, cs.drop (off + a.sz), ?_, h2, h4⟩, fun hw => ⟨h3 (fun n hn => hw n ?_), h5 (fun n hn => hw n ?_)⟩⟩
    · rw [← List.drop_drop, List.take_append_drop]
    · simp only [List.map_cons, DataW.weightsEach, List.mem_append]; exact .inl hn
    · simp only [List.map_cons, DataW.weightsEach, List.mem_append]; exact .inr hn⟩
theorem op_struct {α : Type} {k : Kd α} {t : TypeId} {fs : Array Field} {Ok : α → Prop} (ht : P.underlying t = some (.struct fs)) (hc : P.cellsOf t = k.sz) (h : OpF P W k 0 fs.toList Ok) : Opn P W k t Ok := ⟨fun {H enc base spare held fuel cs x} hx => by
  obtain ⟨xs, n, _, rfl, hl, hlen, hf⟩ := DataW.trod_struct ht hx
  obtain ⟨v, h1, h2⟩ := h.out (cs := cs) (xs := xs) (by omega) (by simpa using hlen) (fun i f hi => hf i f (by simpa using hi))
  exact ⟨v, h1, fun hw => h2 (fun n hn => hw n (by simp only [DataW.weights, ht]; exact hn))⟩⟩
theorem op_arr2 {α : Type} {k : Kd α} {t e : TypeId} {Ok : α → Prop} (ht : P.underlying t = some (.array 2 e)) (hc : P.cellsOf t = k.sz + k.sz) (hce : P.cellsOf e = k.sz) (h : Opn P W k e Ok) : Opn P W (Kd.pair k k) t (fun x => Ok x.1 ∧ Ok x.2) := ⟨fun {H enc base spare held fuel cs x} hx => by
  obtain ⟨xs, n, _, rfl, hl, hlen, hf⟩ := DataW.trod_array ht hx
  match xs, hlen with
  | [y0, y1], _ =>
    have g0 : DataW.trod enc P W base spare held n e ((cs.drop (0 * P.cellsOf e)).take (P.cellsOf e)) = some y0 := hf 0 (by omega)
    have g1 : DataW.trod enc P W base spare held n e ((cs.drop (1 * P.cellsOf e)).take (P.cellsOf e)) = some y1 := hf 1 (by omega)
    rw [Nat.zero_mul, List.drop_zero, hce] at g0
    rw [Nat.one_mul, hce, List.take_of_length_le (by rw [List.length_drop]; omega)] at g1
    obtain ⟨v, h1, h2⟩ := h.out g0
    obtain ⟨u, h3, h4⟩ := h.out g1
    refine ⟨(v, u), ⟨cs.take k.sz, cs.drop k.sz, (List.take_append_drop _ _).symm, h1, h3⟩, fun hw => ⟨h2 (fun n hn => hw n ?_), h4 (fun n hn => hw n ?_)⟩⟩
    · simp only [DataW.weights, ht, List.map_cons, List.map_nil, DataW.weightsAll, List.mem_append]; exact .inl hn
    · simp only [DataW.weights, ht, List.map_cons, List.map_nil, DataW.weightsAll, List.mem_append]; exact .inr (.inl hn)⟩
theorem op_iso {α β : Type} {k : Kd α} {t : TypeId} {Ok : α → Prop} {f : β → α} (g : α → β) (hg : ∀ a, f (g a) = a) (h : Opn P W k t Ok) : Opn P W (Kd.iso k f) t (fun b => Ok (f b)) := ⟨fun hx => by
  obtain ⟨v, h1, h2⟩ := h.out hx
  refine ⟨g v, ?_, fun hw => ?_⟩
  · show k.K W (f (g v)) _
    rw [hg]; exact h1
  · show Ok (f (g v))
    rw [hg]; exact h2 hw⟩
theorem op_weaken {α : Type} {k : Kd α} {t : TypeId} {Ok Ok' : α → Prop} (h : Opn P W k t Ok) (hi : ∀ v, Ok v → Ok' v) : Opn P W k t Ok' := ⟨fun hx => by
  obtain ⟨v, h1, h2⟩ := h.out hx
  exact ⟨v, h1, fun hw => hi v (h2 hw)⟩⟩
/-- an argument that is a slice, opened. -/
theorem Opn.arg {α : Type} {d : Kd α} {t : TypeId} {q : Nat} {Ok : List α → Prop} (h : Opn P W (Kd.slice q d) t Ok) {H : Type} {enc : TypeId × Value → H} {base : Nat} {spare : Nat → Bool} {held : Bool} {a : Option Addr} {len cap : Nat} {x : DataW H} {ps : List MemPlace}
    (hx : DataW.Trod enc P W base spare held t (.slice a len cap) x ps) :
    ∃ l : List α, l.length = len ∧ len ≤ cap ∧ Kd.C d W a len l ∧ ∀ {ts : List TypeId} {ds : List (DataW H)} {j : Nat}, (DataW.weightsEach P ts ds).all (· ≤ reachBytes) = true → ts[j]? = some t → ds[j]? = some x → Ok l := by
  obtain ⟨fuel, hf⟩ := hx
  obtain ⟨l, ⟨A, c, e, hl, hC⟩, hw⟩ := h.out hf
  simp [Value.cells] at e
  obtain ⟨rfl, rfl, rfl⟩ := e
  exact ⟨l, rfl, hl, hC, fun hsz ht hd => hw (fun n hn => of_decide_eq_true (List.all_eq_true.1 hsz _ (DataW.weights_mem_each ht hd _ hn)))⟩
end
end Go.Proofs.Ytligpleningglaa.Ko
namespace Go.Proofs.Ytligpleningglaa.Cw
section
open Go Go.RowKit Go.Proofs.Ytligpleningglaa.Tarjan Go.Proofs.YtligpleningglaaW.PrintWords Go.Proofs.Ytligpleningglaa.F
set_option linter.unusedVariables false
set_option linter.unusedSimpArgs false
set_option linter.unusedSectionVars false
/-- with fuel enough. -/
def Ev {α : Type} (F : Nat → Option α) (r : α) : Prop := ∃ K, ∀ k, K ≤ k → F k = some r
theorem Ev.next {α : Type} {F G : Nat → Option α} {r : α} (h : Ev G r) (e : ∀ k, F (k + 1) = G k) : Ev F r := by
  obtain ⟨K, hK⟩ := h
  refine ⟨K + 1, fun k hk => ?_⟩
  obtain ⟨m, rfl⟩ : ∃ m, k = m + 1 := ⟨k - 1, by omega⟩
  rw [e]; exact hK m (by omega)
theorem Ev.now {α : Type} {F : Nat → Option α} {r : α} (e : ∀ k, F (k + 1) = some r) : Ev F r := by
  refine ⟨1, fun k hk => ?_⟩
  obtain ⟨m, rfl⟩ : ∃ m, k = m + 1 := ⟨k - 1, by omega⟩
  exact e m
theorem Ev.bind {α β : Type} {A : Nat → Option α} {B : α → Nat → Option β} {a : α} {r : β} (h : Ev A a) (g : Ev (B a) r) : Ev (fun k => (A k).bind fun x => B x k) r := by
  obtain ⟨K, hK⟩ := h
  obtain ⟨L, hL⟩ := g
  exact ⟨max K L, fun k hk => by
    show (A k).bind _ = _
    rw [hK k (by omega), Option.bind_some]; exact hL k (by omega)⟩
theorem Ev.same {α : Type} {F G : Nat → Option α} {r : α} (h : Ev G r) (e : ∀ k, F k = G k) : Ev F r := by
  obtain ⟨K, hK⟩ := h
  exact ⟨K, fun k hk => by rw [e]; exact hK k hk⟩
/-- the edges of a node, as they stand. -/
def es (l0 : List (List Int)) (v : Nat) : List Nat := (l0.getD v []).map Int.toNat
theorem row_at {l0 : List (List Int)} {v : Nat} : rd_L1 l0 (v : Int) = l0.getD v [] := by unfold rd_L1; rw [Int.toNat_natCast]
theorem row_len {l0 : List (List Int)} {v : Nat} : (rd_L1 l0 (v : Int)).length = (es l0 v).length := by rw [row_at]; unfold es; rw [List.length_map]
theorem okB_at {l0 : List (List Int)} (h : okB l0 = true) {v : Nat} {x : Int} (hx : x ∈ l0.getD v []) : 0 ≤ x ∧ x < (l0.length : Int) := by
  rw [List.getD_eq_getElem?_getD] at hx
  cases hv : l0[v]? with
  | none => rw [hv] at hx; cases hx
  | some l =>
    rw [hv] at hx
    have h1 := List.all_eq_true.1 (List.all_eq_true.1 h l (List.mem_of_getElem? hv)) x hx
    rw [Bool.and_eq_true, decide_eq_true_eq, decide_eq_true_eq] at h1
    exact h1
theorem edge_at {l0 : List (List Int)} (h : okB l0 = true) {v j : Nat} (hj : j < (es l0 v).length) : rd (rd_L1 l0 (v : Int)) (j : Int) = (((es l0 v)[j] : Nat) : Int) ∧ (es l0 v)[j] < l0.length := by
  have hj' : j < (l0.getD v []).length := by unfold es at hj; rwa [List.length_map] at hj
  have e : (es l0 v)[j] = ((l0.getD v [])[j]).toNat := List.getElem_map ..
  have h1 := okB_at h (List.getElem_mem hj')
  rw [e, row_at]
  unfold rd
  rw [Int.toNat_natCast, List.getD_eq_getElem?_getD, List.getElem?_eq_getElem hj']
  show (l0.getD v [])[j] = _ ∧ _
  omega
theorem es_lt {l0 : List (List Int)} (h : okB l0 = true) (v : Nat) : ∀ x ∈ es l0 v, x < l0.length := fun x hx => by
  obtain ⟨y, hy, rfl⟩ := List.mem_map.1 hx
  have := okB_at h hy
  omega
theorem w1_ {k : Nat} (h : k ≤ 17592186044416) : wrap64 ((k : Int) + 1) = ((k + 1 : Nat) : Int) := by unfold wrap64; omega
theorem wm_ {k : Nat} (h : k ≤ 17592186044416) : wrap64 (((k + 1 : Nat) : Int) - 1) = (k : Int) := w0_' h
where w0_' {k : Nat} (h : k ≤ 17592186044416) : wrap64 (((k + 1 : Nat) : Int) - 1) = (k : Int) := by unfold wrap64; omega
theorem sameInts_ev (l : List Int) (hl : l.length ≤ 17592186044416) : Ev (fun k => smithykit_SameInts.f k l l) true := by
  have key : ∀ d j, j + d = l.length → Ev (fun k => smithykit_SameInts.l0 k l l (j : Int)) true := by
    intro d
    induction d with
    | zero =>
      intro j hj
      refine Ev.now (fun k => ?_)
      rw [smithykit_SameInts.l0, if_neg (by omega)]
    | succ d ih =>
      intro j hj
      refine Ev.next (ih (j + 1) (by omega)) (fun k => ?_)
      rw [smithykit_SameInts.l0, if_pos (by omega), if_pos (by omega), if_pos (by omega), if_pos rfl, w1_ (by omega)]
  exact Ev.same (key l.length 0 (by omega)) (fun k => by unfold smithykit_SameInts.f; rw [if_pos rfl]; rfl)
theorem sameRows_ev (l : List (List Int)) (hl : l.length ≤ 17592186044416) (hr : ∀ v : Nat, (rd_L1 l (v : Int)).length ≤ 17592186044416) : Ev (fun k => smithykit_SameRows.f k l l) true := by
  have key : ∀ d j, j + d = l.length → Ev (fun k => smithykit_SameRows.l0 k l l (j : Int)) true := by
    intro d
    induction d with
    | zero =>
      intro j hj
      refine Ev.now (fun k => ?_)
      rw [smithykit_SameRows.l0, if_neg (by omega)]
    | succ d ih =>
      intro j hj
      have G : Ev (fun k => (smithykit_SameInts.f k (rd_L1 l (j : Int)) (rd_L1 l (j : Int))).bind fun t243 => (if t243 = true then (smithykit_SameRows.l0 k l l ((j + 1 : Nat) : Int)) else (some false))) true :=
        Ev.bind (B := fun (t243 : Bool) k => if t243 = true then (smithykit_SameRows.l0 k l l ((j + 1 : Nat) : Int)) else (some false)) (sameInts_ev _ (hr j)) (Ev.same (ih (j + 1) (by omega)) (fun k => if_pos rfl))
      refine Ev.next G (fun k => ?_)
      rw [smithykit_SameRows.l0, if_pos (by omega), if_pos (by omega), if_pos (by omega), w1_ (by omega)]
  exact Ev.same (key l.length 0 (by omega)) (fun k => by unfold smithykit_SameRows.f; rw [if_pos rfl]; rfl)
/-- what a row of truths says. -/
def Rb (N : Nat) (m : Nat → Bool) (x : List Bool) : Prop := x.length = N ∧ ∀ v, v < N → rdOf false x (v : Int) = m v
theorem rdOf_set {x : List Bool} {k : Nat} {y : Bool} (hk : k < x.length) (v : Nat) : rdOf false (x.set ((k : Nat) : Int).toNat y) (v : Int) = if v = k then y else rdOf false x (v : Int) := by
  unfold rdOf
  rw [Int.toNat_natCast, Int.toNat_natCast, List.getD_eq_getElem?_getD, List.getD_eq_getElem?_getD]
  by_cases e : v = k
  · subst e; rw [if_pos rfl, List.getElem?_set_self hk]; rfl
  · rw [if_neg e, List.getElem?_set_ne (fun h => e h.symm)]
theorem Rb.put {N : Nat} {m : Nat → Bool} {x : List Bool} (h : Rb N m x) {k : Nat} (hk : k < N) : Rb N (upB m k) (x.set ((k : Nat) : Int).toNat true) :=
  ⟨by rw [List.length_set]; exact h.1, fun v hv => by
    rw [rdOf_set (by rw [h.1]; exact hk)]
    unfold upB
    by_cases e : v = k
    · rw [if_pos e, if_pos e]
    · rw [if_neg e, if_neg e]; exact h.2 v hv⟩
theorem Rb.zero (N : Nat) : Rb N (fun _ => false) (List.replicate N false) := ⟨List.length_replicate, fun v hv => by
  unfold rdOf
  rw [Int.toNat_natCast, List.getD_eq_getElem?_getD, List.getElem?_replicate, if_pos hv]; rfl⟩
def zs (l : List Nat) : List Int := l.map fun v : Nat => (v : Int)
theorem zs_len (l : List Nat) : (zs l).length = l.length := List.length_map ..
section
variable {l0 : List (List Int)} (hok : okB l0 = true) (hN : l0.length ≤ 5864062014805) (hrl : ∀ v, (es l0 v).length ≤ 17592186044416)
include hok hN hrl
theorem reached_l1 (g : (Nat → Bool) × List Nat → Nat → Bool) (i : Nat) (hi : i < l0.length) :
    ∀ d j, j + d = (es l0 i).length → ∀ (m : Nat → Bool) (w : List Nat) (x5 : List Bool), Rb l0.length m x5 → cnt l0.length m + w.length ≤ l0.length + 1 →
    (∀ x5', Rb l0.length (((es l0 i).drop j).foldl seeR (m, w)).1 x5' → ∃ x, Rb l0.length (g (((es l0 i).drop j).foldl seeR (m, w))) x ∧ Ev (fun k => smithyref19_reached.l0 k l0 x5' (zs (((es l0 i).drop j).foldl seeR (m, w)).2)) x) →
    ∃ x, Rb l0.length (g (((es l0 i).drop j).foldl seeR (m, w))) x ∧ Ev (fun k => smithyref19_reached.l1 k l0 x5 (zs w) (i : Int) (j : Int)) x := by
  intro d
  induction d with
  | zero =>
    intro j hj m w x5 hR hc hcont
    have hd : (es l0 i).drop j = [] := List.drop_of_length_le (by omega)
    rw [hd] at hcont ⊢
    obtain ⟨x, h1, h2⟩ := hcont x5 hR
    refine ⟨x, h1, Ev.next h2 (fun k => ?_)⟩
    rw [smithyref19_reached.l1, if_pos (by omega), if_pos (by omega), row_len, if_neg (by omega)]
    rfl
  | succ d ih =>
    intro j hj m w x5 hR hc hcont
    have hjl : j < (es l0 i).length := by omega
    have hjb : j ≤ 17592186044416 := by have := hrl i; omega
    obtain ⟨he, hen⟩ := edge_at hok hjl
    have hd : (es l0 i).drop j = (es l0 i)[j] :: (es l0 i).drop (j + 1) := List.drop_eq_getElem_cons hjl
    obtain ⟨n, en⟩ : ∃ n, n = (es l0 i)[j] := ⟨_, rfl⟩
    rw [← en] at he hen hd
    rw [hd] at hcont ⊢
    have hx5 := hR.2 n hen
    by_cases hm : m n = true
    · have hs : seeR (m, w) n = (m, w) := by unfold seeR; rw [if_pos hm]
      rw [List.foldl_cons, hs] at hcont ⊢
      obtain ⟨x, h1, h2⟩ := ih (j + 1) (by omega) m w x5 hR hc hcont
      refine ⟨x, h1, Ev.next h2 (fun k => ?_)⟩
      rw [hm] at hx5
      rw [smithyref19_reached.l1, if_pos (by omega), if_pos (by omega), row_len, if_pos (by omega), if_pos (by omega), he, if_pos (by omega), if_pos (by rw [hR.1]; omega), if_pos hx5, w1_ hjb]
    · have hm' : m n = false := by simpa using hm
      have hs : seeR (m, w) n = (upB m n, w ++ [n]) := by unfold seeR; rw [if_neg hm]
      have hc2 := see_cnt (m, w) n hen
      rw [hs] at hc2
      simp only [] at hc2
      rw [List.foldl_cons, hs] at hcont ⊢
      obtain ⟨x, h1, h2⟩ := ih (j + 1) (by omega) (upB m n) (w ++ [n]) _ (hR.put hen) (by omega) hcont
      refine ⟨x, h1, Ev.next h2 (fun k => ?_)⟩
      rw [hm'] at hx5
      rw [smithyref19_reached.l1, if_pos (by omega), if_pos (by omega), row_len, if_pos (by omega), if_pos (by omega), he, if_pos (by omega), if_pos (by rw [hR.1]; omega), if_neg (by rw [hx5]; decide), if_pos (by rw [zs_len]; omega), w1_ hjb]
      unfold zs
      rw [List.map_append]
      rfl
theorem reached_l0 : ∀ f (m : Nat → Bool) (w : List Nat) (x5 : List Bool), Rb l0.length m x5 → cnt l0.length m + w.length ≤ l0.length + 1 → cnt l0.length m + w.length ≤ f → (∀ v ∈ w, v < l0.length) →
    ∃ x, Rb l0.length (reachR (es l0) f (m, w)).1 x ∧ Ev (fun k => smithyref19_reached.l0 k l0 x5 (zs w)) x := by
  intro f
  induction f with
  | zero =>
    intro m w x5 hR hc hf hw
    obtain rfl : w = [] := List.eq_nil_of_length_eq_zero (by omega)
    refine ⟨x5, hR, Ev.now (fun k => ?_)⟩
    rw [smithyref19_reached.l0]
    rfl
  | succ f ih =>
    intro m w x5 hR hc hf hw
    cases hrv : w.reverse with
    | nil =>
      obtain rfl : w = [] := by simpa using hrv
      refine ⟨x5, hR, Ev.now (fun k => ?_)⟩
      rw [smithyref19_reached.l0]
      rfl
    | cons i u =>
      have ew : w = u.reverse ++ [i] := by
        have := congrArg List.reverse hrv
        simpa using this
      have hi : i < l0.length := hw i (by rw [ew]; simp)
      have hlen : w.length = u.reverse.length + 1 := by rw [ew]; simp
      have hq : reachR (es l0) (f + 1) (m, w) = reachR (es l0) f ((es l0 i).foldl seeR (m, u.reverse)) := by
        show (match w.reverse with | [] => (m, w) | i :: w => reachR (es l0) f ((es l0 i).foldl seeR (m, w.reverse))) = _
        rw [hrv]
      have hcn : cnt l0.length m + u.reverse.length ≤ l0.length + 1 := by omega
      have hl1 := reached_l1 hok hN hrl (fun s => (reachR (es l0) f s).1) i hi (es l0 i).length 0 (by omega) m u.reverse x5 hR hcn (fun x5' hR' => by
        rw [List.drop_zero] at hR' ⊢
        have hs := sees_cnt (es l0 i) (m, u.reverse) (es_lt hok i)
        simp only at hs
        exact ih _ _ x5' hR' (by omega) (by omega) (fun v hv => by
          rcases (sees_wait _ _ _).1 hv with h1 | ⟨h1, _⟩
          · exact hw v (by rw [ew]; exact List.mem_append_left _ h1)
          · exact es_lt hok i v h1))
      rw [List.drop_zero] at hl1
      obtain ⟨x, h1, h2⟩ := hl1
      rw [hq]
      refine ⟨x, h1, Ev.next h2 (fun k => ?_)⟩
      have hub : u.reverse.length ≤ 17592186044416 := by omega
      have hzl : (zs w).length = u.reverse.length + 1 := by rw [zs_len, hlen]
      have hzi : rd (zs w) (u.reverse.length : Int) = (i : Int) := by
        unfold rd zs
        rw [Int.toNat_natCast, List.getD_eq_getElem?_getD, List.getElem?_map, ew, List.getElem?_append_right (Nat.le_refl _)]
        simp
      have hzt : (zs w).take u.reverse.length = zs u.reverse := by
        unfold zs
        rw [← List.map_take, ew, List.take_left]
      rw [smithyref19_reached.l0, hzl, if_pos (by omega), wm_ hub, if_pos (by omega), if_pos (by omega), if_pos (by omega), Int.toNat_natCast, hzt, hzi]
      rfl
theorem reached_ev {a : Nat} (ha : a < l0.length) : ∃ x, (x.length = l0.length ∧ ∀ v, v < l0.length → (rdOf false x (v : Int) = true ↔ Re1 (es l0) a v)) ∧ Ev (fun k => smithyref19_reached.f k l0 (a : Int)) x := by
  have hc := cnt_le l0.length (fun _ => false)
  obtain ⟨x, h1, h2⟩ := reached_l0 hok hN hrl (l0.length + 1) (fun _ => false) [a] _ (Rb.zero _) (by simp; omega) (by simp; omega) (fun v hv => by rw [List.mem_singleton] at hv; rw [hv]; exact ha)
  refine ⟨x, ⟨h1.1, fun v hv => by rw [h1.2 v hv]; exact reachR_told (N := l0.length) (es_lt hok) a v⟩, Ev.same h2 (fun k => ?_)⟩
  unfold smithyref19_reached.f
  rw [if_pos (by omega), if_pos (by omega), Int.toNat_natCast]
  rfl
end
theorem net_rows' {l0 : List (List Int)} (h : netOk l0 = true) : l0.length ≤ 5864062014805 ∧ ∀ v, (es l0 v).length ≤ 17592186044416 := by
  unfold netOk at h
  rw [Bool.and_eq_true, decide_eq_true_eq, List.all_eq_true] at h
  refine ⟨h.1, fun v => ?_⟩
  unfold es
  rw [List.length_map, List.getD_eq_getElem?_getD]
  cases hv : l0[v]? with
  | none => simp
  | some l => simpa using h.2 l (List.mem_of_getElem? hv)
def wB (b : S64) : Nat := b.f0.length
def wG (g : S42) : Nat := g.f5.length + (g.f5.map wB).sum
/-- no list in a program is longer than memory lets it be. -/
def ProgOk (p : List S42) : Prop := p.length ≤ 17592186044416 ∧ ∀ g ∈ p, g.f5.length ≤ 17592186044416 ∧ ∀ b ∈ g.f5, b.f0.length ≤ 17592186044416
theorem wadd {a b : Nat} (h : a + b ≤ 9000000000000000000) : wrap64 ((a : Int) + (b : Int)) = ((a + b : Nat) : Int) := by unfold wrap64; omega
theorem t42_at {p : List S42} {i : Nat} (hi : i < p.length) : rd_T42 p (i : Int) = p[i] := by
  unfold rd_T42; rw [Int.toNat_natCast, List.getD_eq_getElem?_getD, List.getElem?_eq_getElem hi]; rfl
theorem t64_at {p : List S64} {i : Nat} (hi : i < p.length) : rd_T64 p (i : Int) = p[i] := by
  unfold rd_T64; rw [Int.toNat_natCast, List.getD_eq_getElem?_getD, List.getElem?_eq_getElem hi]; rfl
theorem wide_l1 {p : List S42} (hp : ProgOk p) (i : Nat) (hi : i < p.length)
    (ih : ∀ m : Nat, m ≤ 20000000000000 → ∃ b, Ev (fun k => smithylaw19_wide.l0 k p (m : Int) ((i + 1 : Nat) : Int)) b ∧ (b = false → p.length ≤ 120 ∧ m + ((p.drop (i + 1)).map wG).sum ≤ 3600)) :
    ∀ e j, j + e = p[i].f5.length → ∀ m : Nat, m ≤ 20000000000000 → ∃ b, Ev (fun k => smithylaw19_wide.l1 k p (m : Int) (i : Int) (j : Int)) b ∧ (b = false → p.length ≤ 120 ∧ m + ((p[i].f5.drop j).map wB).sum + ((p.drop (i + 1)).map wG).sum ≤ 3600) := by
  obtain ⟨hb1, hb2⟩ := hp.2 _ (List.getElem_mem hi)
  have hib : i ≤ 17592186044416 := by have := hp.1; omega
  intro e
  induction e with
  | zero =>
    intro j hj m hm
    obtain ⟨b, h1, h2⟩ := ih m hm
    refine ⟨b, Ev.next h1 (fun k => ?_), fun hb => ?_⟩
    · rw [smithylaw19_wide.l1, if_pos (by omega), if_pos (by omega), t42_at hi, if_neg (by omega), w1_ hib]
    · rw [List.drop_of_length_le (by omega)]
      obtain ⟨h3, h4⟩ := h2 hb
      exact ⟨h3, by simpa using h4⟩
  | succ e ihe =>
    intro j hj m hm
    have hjl : j < p[i].f5.length := by omega
    have hjb : j ≤ 17592186044416 := by omega
    have hd : p[i].f5.drop j = p[i].f5[j] :: p[i].f5.drop (j + 1) := List.drop_eq_getElem_cons hjl
    have hbl := hb2 _ (List.getElem_mem hjl)
    by_cases hm2 : m ≤ 3600
    · obtain ⟨b, h1, h2⟩ := ihe (j + 1) (by omega) (m + p[i].f5[j].f0.length) (by omega)
      refine ⟨b, Ev.next h1 (fun k => ?_), fun hb => ?_⟩
      · rw [smithylaw19_wide.l1, if_pos (by omega), if_pos (by omega), t42_at hi, if_pos (by omega), if_pos (by omega), if_pos (by omega), t64_at hjl, wadd (by omega), w1_ hjb]
      · obtain ⟨h3, h4⟩ := h2 hb
        refine ⟨h3, ?_⟩
        rw [hd, List.map_cons, List.sum_cons]
        show m + (p[i].f5[j].f0.length + _) + _ ≤ 3600
        omega
    · obtain ⟨b, h1, h2⟩ := ih m hm
      refine ⟨b, Ev.next h1 (fun k => ?_), fun hb => ?_⟩
      · rw [smithylaw19_wide.l1, if_pos (by omega), if_pos (by omega), t42_at hi, if_pos (by omega), if_neg (by omega), w1_ hib]
      · obtain ⟨h3, h4⟩ := h2 hb
        omega
theorem wide_end {p : List S42} (x4 : Int) (m : Nat) : ∃ b, Ev (fun k => smithylaw19_wide.j1 k p (m : Int) x4 false) b ∧ (b = false → p.length ≤ 120 ∧ m ≤ 3600) := by
  by_cases h : p.length ≤ 120
  · refine ⟨decide ((m : Int) > 3600), Ev.now (fun k => ?_), fun hb => ⟨h, ?_⟩⟩
    · rw [smithylaw19_wide.j1, if_neg (by decide), if_neg (by omega)]
    · have := of_decide_eq_false hb; omega
  · refine ⟨true, Ev.now (fun k => ?_), fun hb => by cases hb⟩
    rw [smithylaw19_wide.j1, if_neg (by decide), if_pos (by omega)]
theorem wide_l0 {p : List S42} (hp : ProgOk p) : ∀ d i, i + d = p.length → ∀ m : Nat, m ≤ 20000000000000 → ∃ b, Ev (fun k => smithylaw19_wide.l0 k p (m : Int) (i : Int)) b ∧ (b = false → p.length ≤ 120 ∧ m + ((p.drop i).map wG).sum ≤ 3600) := by
  intro d
  induction d with
  | zero =>
    intro i hi m hm
    obtain ⟨b, h1, h2⟩ := wide_end (p := p) (i : Int) m
    refine ⟨b, Ev.next h1 (fun k => ?_), fun hb => ?_⟩
    · rw [smithylaw19_wide.l0, if_neg (by omega)]
    · rw [List.drop_of_length_le (by omega)]
      obtain ⟨h3, h4⟩ := h2 hb
      exact ⟨h3, by simpa using h4⟩
  | succ d ih =>
    intro i hi m hm
    have hil : i < p.length := by omega
    have hd : p.drop i = p[i] :: p.drop (i + 1) := List.drop_eq_getElem_cons hil
    obtain ⟨hb1, hb2⟩ := hp.2 _ (List.getElem_mem hil)
    by_cases hm2 : m ≤ 3600
    · obtain ⟨b, h1, h2⟩ := wide_l1 hp i hil (fun m hm => ih (i + 1) (by omega) m hm) p[i].f5.length 0 (by omega) (m + p[i].f5.length) (by omega)
      refine ⟨b, Ev.next (G := fun k => smithylaw19_wide.j1 k p (m : Int) (i : Int) true) (Ev.next h1 (fun k => ?_)) (fun k => ?_), fun hb => ?_⟩
      · rw [smithylaw19_wide.j1, if_pos rfl, if_pos (by omega), if_pos (by omega), t42_at hil, wadd (by omega)]
        rfl
      · rw [smithylaw19_wide.l0, if_pos (by omega), decide_eq_true (by omega)]
      · obtain ⟨h3, h4⟩ := h2 hb
        rw [List.drop_zero] at h4
        refine ⟨h3, ?_⟩
        rw [hd, List.map_cons, List.sum_cons]
        unfold wG at h4 ⊢
        omega
    · obtain ⟨b, h1, h2⟩ := wide_end (p := p) (i : Int) m
      refine ⟨b, Ev.next h1 (fun k => ?_), fun hb => ?_⟩
      · rw [smithylaw19_wide.l0, if_pos (by omega), decide_eq_false (by omega)]
      · obtain ⟨h3, h4⟩ := h2 hb
        omega
theorem sum_mem {α : Type} (f : α → Nat) : ∀ {l : List α} {x : α}, x ∈ l → f x ≤ (l.map f).sum := by
  intro l
  induction l with
  | nil => intro x hx; cases hx
  | cons a l ih =>
    intro x hx
    rw [List.map_cons, List.sum_cons]
    rcases List.mem_cons.1 hx with rfl | h
    · omega
    · have := ih h; omega
theorem refs_len (n : Nat) (g : S42) : (refsG n g).length ≤ wG g := by
  unfold refsG wG
  have : ∀ l : List S64, (l.flatMap (refsB n)).length ≤ (l.map wB).sum := by
    intro l
    induction l with
    | nil => exact Nat.le_refl _
    | cons b l ih =>
      rw [List.flatMap_cons, List.length_append, List.map_cons, List.sum_cons]
      have h1 : (refsB n b).length ≤ wB b := by unfold refsB wB; rw [List.length_map]; exact List.length_filter_le _ _
      omega
  have := this g.f5
  omega
theorem wide_ev {p : List S42} (hp : ProgOk p) : ∃ b, Ev (fun k => smithylaw19_wide.f k p) b ∧ (b = false → callOk p = true) := by
  have := hp.1
  obtain ⟨b, h1, h2⟩ := wide_l0 hp p.length 0 (by omega) p.length (by omega)
  refine ⟨b, Ev.same h1 (fun k => rfl), fun hb => ?_⟩
  obtain ⟨h3, h4⟩ := h2 hb
  rw [List.drop_zero] at h4
  unfold callOk
  rw [Bool.and_eq_true, decide_eq_true_eq, List.all_eq_true]
  refine ⟨by omega, fun g hg => decide_eq_true ?_⟩
  have h5 := refs_len p.length g
  have h6 := sum_mem wG hg
  omega
/-- what Round says of a node of a part. -/
def valR (nx : List (List Int)) (n : Nat) (v : Nat) : Bool := decide (1 < n) || (nx.getD v []).contains (v : Int)
theorem row_val (nx : List (List Int)) (n v : Nat) : ∀ (l : List Int) (o : List Bool), (∀ x ∈ l, 0 ≤ x ∧ x.toNat < o.length) → (l.foldl (setR nx n) o).getD v false = if (v : Int) ∈ l then valR nx n v else o.getD v false := by
  intro l
  induction l with
  | nil => intro o _; rfl
  | cons a l ih =>
    intro o ho
    have ha := ho a List.mem_cons_self
    have hsl : (setR nx n o a).length = o.length := by unfold setR; rw [List.length_set]
    rw [List.foldl_cons, ih (setR nx n o a) (fun x hx => by rw [hsl]; exact ho x (List.mem_cons_of_mem _ hx))]
    by_cases h1 : (v : Int) ∈ l
    · rw [if_pos h1, if_pos (List.mem_cons_of_mem _ h1)]
    · rw [if_neg h1]
      unfold setR
      rw [getD_set ha.2]
      by_cases h2 : v = a.toNat
      · have e : (v : Int) = a := by omega
        rw [if_pos h2, if_pos (by rw [e]; exact List.mem_cons_self), ← h2, ← e]
        rfl
      · rw [if_neg h2, if_neg (fun h => by
          rcases List.mem_cons.1 h with h3 | h3
          · omega
          · exact h1 h3)]
theorem rounds_val (nx : List (List Int)) (n v : Nat) : ∀ (P : List (List Int)) (o : List Bool), (∀ l ∈ P, ∀ x ∈ l, 0 ≤ x ∧ x.toNat < o.length) → (∀ l ∈ P, (v : Int) ∈ l → l.length = n) → ((∃ l ∈ P, (v : Int) ∈ l) ∨ o.getD v false = valR nx n v) →
    (P.foldl (roundRow nx) o).getD v false = valR nx n v := by
  intro P
  induction P with
  | nil =>
    intro o _ _ h
    rcases h with ⟨l, hl, _⟩ | h
    · cases hl
    · exact h
  | cons l P ih =>
    intro o ho hn h
    rw [List.foldl_cons]
    have hlen : (roundRow nx o l).length = o.length := by unfold roundRow; exact foldl_row_len nx l.length l o
    refine ih _ (fun m hm x hx => by rw [hlen]; exact ho m (List.mem_cons_of_mem _ hm) x hx) (fun m hm hv => hn m (List.mem_cons_of_mem _ hm) hv) ?_
    have hrv := row_val nx l.length v l o (ho l List.mem_cons_self)
    by_cases hvl : (v : Int) ∈ l
    · refine .inr ?_
      unfold roundRow
      rw [hrv, if_pos hvl, hn l List.mem_cons_self hvl]
    · rcases h with ⟨m, hm, hvm⟩ | h
      · rcases List.mem_cons.1 hm with rfl | hm
        · exact absurd hvm hvl
        · exact .inl ⟨m, hm, hvm⟩
      · refine .inr ?_
        unfold roundRow
        rw [hrv, if_neg hvl]; exact h
theorem rounds_len (nx : List (List Int)) : ∀ (P : List (List Int)) (o : List Bool), (P.foldl (roundRow nx) o).length = o.length := by
  intro P
  induction P with
  | nil => intro o; rfl
  | cons l P ih => intro o; rw [List.foldl_cons, ih]; unfold roundRow; exact foldl_row_len nx l.length l o
theorem roundL_len (p : List S42) : (roundL p).length = p.length := by unfold roundL; rw [rounds_len, List.length_replicate]
theorem resP_called (p : List S42) : resP (calledL p) = (partsZ (calledL p), 0) := by unfold resP; rw [if_pos (okB_called p)]
/-- a node stands in one part alone. -/
theorem parts_same {l0 : List (List Int)} (hok : okB l0 = true) {l m : List Int} (hl : l ∈ partsZ l0) (hm : m ∈ partsZ l0) {x : Int} (hx : x ∈ l) (hx2 : x ∈ m) : l = m := by
  have K := parts_ok cmpN_mem (nxc_lt hok)
  unfold partsZ at hl hm
  obtain ⟨a, ha, rfl⟩ := List.mem_map.1 hl
  obtain ⟨b, hb, rfl⟩ := List.mem_map.1 hm
  obtain ⟨u, hu, rfl⟩ := List.mem_map.1 hx
  obtain ⟨w, hw, e⟩ := List.mem_map.1 hx2
  have e' : w = u := Int.ofNat.inj e
  rw [e'] at hw
  obtain ⟨i, hi, ei⟩ := List.getElem_of_mem ha
  obtain ⟨j, hj, ej⟩ := List.getElem_of_mem hb
  by_cases hij : i = j
  · subst hij
    rw [← ei, ← ej]
  · exact absurd hw (K.one i j a b (by rw [List.getElem?_eq_getElem hi, ei]) (by rw [List.getElem?_eq_getElem hj, ej]) hij u hu)
theorem roundL_at (p : List S42) {l : List Int} (hl : l ∈ partsZ (calledL p)) {v : Nat} (hv : (v : Int) ∈ l) : (roundL p).getD v false = valR (calledL p) l.length v := by
  unfold roundL
  rw [resP_called]
  refine rounds_val (calledL p) l.length v _ _ (fun m hm x hx => ?_) (fun m hm hvm => ?_) (.inl ⟨l, hl, hv⟩)
  · have := parts_in (okB_called p) hm hx
    rw [called_len] at this
    rw [List.length_replicate]; omega
  · rw [parts_same (okB_called p) hm hl hvm hv]
theorem in_nxc {l0 : List (List Int)} (hok : okB l0 = true) (v x : Nat) : x ∈ nxc l0 v ↔ (x : Int) ∈ l0.getD v [] := by
  unfold nxc
  rw [cmpN_mem, List.mem_map]
  constructor
  · rintro ⟨y, hy, rfl⟩
    rw [Int.toNat_of_nonneg (okB_at hok hy).1]; exact hy
  · intro h; exact ⟨(x : Int), h, Int.toNat_natCast x⟩
theorem round_re {p : List S42} {v : Nat} (hv : v < p.length) {b : Bool} (hb : b = true ↔ Re1 (es (calledL p)) v v) : (roundL p).getD v false = b := by
  have hok := okB_called p
  have K := parts_ok cmpN_mem (nxc_lt hok)
  obtain ⟨m, hm, hvm⟩ := (K.all v).1 (by rw [called_len]; exact hv)
  have hl : m.map Int.ofNat ∈ partsZ (calledL p) := List.mem_map.2 ⟨m, hm, rfl⟩
  rw [roundL_at p hl (v := v) (List.mem_map.2 ⟨v, hvm, rfl⟩), Bool.eq_iff_iff, hb]
  have h1 : Re1 (es (calledL p)) v v ↔ Re1 (nxc (calledL p)) v v :=
    ⟨fun h => h.same (fun v x hx => by unfold nxc; rw [cmpN_mem]; exact hx), fun h => h.same (fun v x hx => by unfold nxc at hx; rw [cmpN_mem] at hx; exact hx)⟩
  rw [h1, K.round (parts_sorted cmpN_lt) hm hvm, in_nxc hok]
  unfold valR
  rw [Bool.or_eq_true, decide_eq_true_eq, List.length_map, List.contains_iff_mem]
theorem refRound_ev {p : List S42} (hc : callOk p = true) (hpN : p.length ≤ 5864062014805) : Ev (fun k => smithyref19_Round.f k p) (roundL p) := by
  have hok := okB_called p
  obtain ⟨hN, hrl⟩ := net_rows' (called_small hc)
  have hcl := called_len p
  have hrN := roundL_len p
  have key : ∀ d j, j + d = p.length → Ev (fun k => smithyref19_Round.l0 k p (calledL p) ((roundL p).take j) (j : Int)) (roundL p) := by
    intro d
    induction d with
    | zero =>
      intro j hj
      refine Ev.now (fun k => ?_)
      rw [smithyref19_Round.l0, if_neg (by omega), List.take_of_length_le (by omega)]
    | succ d ih =>
      intro j hj
      have hjN : j < (calledL p).length := by omega
      have hjb : j ≤ 17592186044416 := by omega
      have hjr : j < (roundL p).length := by omega
      obtain ⟨x, ⟨hx1, hx2⟩, hx3⟩ := reached_ev hok hN hrl hjN
      have e : (roundL p).take (j + 1) = (roundL p).take j ++ [rdOf false x (j : Int)] := by
        rw [List.take_succ_eq_append_getElem hjr]
        have := round_re (p := p) (v := j) (by omega) (hx2 j hjN)
        rw [List.getD_eq_getElem?_getD, List.getElem?_eq_getElem hjr] at this
        congr 2
      have htl : ((roundL p).take j).length = j := by rw [List.length_take]; omega
      have G : Ev (fun k => (smithyref19_reached.f k (calledL p) (j : Int)).bind fun t355 => (if 0 ≤ (j : Int) then (if (j : Int) < (t355.length : Int) then (if ((roundL p).take j).length < 140737488355328 then (smithyref19_Round.l0 k p (calledL p) ((roundL p).take j ++ [rdOf false t355 (j : Int)]) ((j + 1 : Nat) : Int)) else (none)) else (none)) else (none))) (roundL p) :=
        Ev.bind (B := fun (t355 : List Bool) k => if 0 ≤ (j : Int) then (if (j : Int) < (t355.length : Int) then (if ((roundL p).take j).length < 140737488355328 then (smithyref19_Round.l0 k p (calledL p) ((roundL p).take j ++ [rdOf false t355 (j : Int)]) ((j + 1 : Nat) : Int)) else (none)) else (none)) else (none)) hx3
          (Ev.same (ih (j + 1) (by omega)) (fun k => by rw [if_pos (by omega), if_pos (by rw [hx1]; omega), if_pos (by omega), e]))
      refine Ev.next G (fun k => ?_)
      rw [smithyref19_Round.l0, if_pos (by omega), w1_ hjb]
  refine Ev.same (key p.length 0 (by omega)) (fun k => ?_)
  unfold smithyref19_Round.f smithyref19_Called.f
  rw [if_pos hpN]
  rfl
theorem sameTruths_ev (l : List Bool) (hl : l.length ≤ 17592186044416) : Ev (fun k => smithykit_SameTruths.f k l l) true := by
  have key : ∀ d j, j + d = l.length → Ev (fun k => smithykit_SameTruths.l0 k l l (j : Int)) true := by
    intro d
    induction d with
    | zero =>
      intro j hj
      refine Ev.now (fun k => ?_)
      rw [smithykit_SameTruths.l0, if_neg (by omega)]
    | succ d ih =>
      intro j hj
      refine Ev.next (ih (j + 1) (by omega)) (fun k => ?_)
      rw [smithykit_SameTruths.l0, if_pos (by omega), if_pos (by omega), if_pos (by omega), if_neg (by simp), w1_ (by omega)]
  exact Ev.same (key l.length 0 (by omega)) (fun k => by unfold smithykit_SameTruths.f; rw [if_pos rfl]; rfl)
theorem callsCalled_plain {p : List S42} (hp : ProgOk p) : ∃ k, smithylaw19_CallsCalled.f k p = some true := by
  obtain ⟨b, ⟨K1, h1⟩, h2⟩ := wide_ev hp
  cases b with
  | true =>
    refine ⟨K1, ?_⟩
    have h1' := h1 K1 (Nat.le_refl _)
    simp only at h1'
    unfold smithylaw19_CallsCalled.f smithylaw19_awake.f
    rw [h1', Option.bind_some, if_pos rfl, Option.bind_some]
  | false =>
    have hc := h2 rfl
    have hcl := called_len p
    have hrN := roundL_len p
    obtain ⟨hN, hrl⟩ := net_rows' (called_small hc)
    obtain ⟨K2, h3⟩ := sameRows_ev (calledL p) (by omega) (fun v => by rw [row_len]; exact hrl v)
    obtain ⟨K3, h4⟩ := refRound_ev hc (by omega)
    obtain ⟨K4, h5⟩ := sameTruths_ev (roundL p) (by omega)
    refine ⟨max (max K1 K2) (max K3 K4), ?_⟩
    have h1' := h1 (max (max K1 K2) (max K3 K4)) (by omega)
    have h3' := h3 (max (max K1 K2) (max K3 K4)) (by omega)
    have h4' := h4 (max (max K1 K2) (max K3 K4)) (by omega)
    have h5' := h5 (max (max K1 K2) (max K3 K4)) (by omega)
    simp only at h1' h3' h4' h5'
    have e1 : calls_Called.f p = some (calledL p) := by unfold calls_Called.f; rw [if_pos hc]
    have e2 : calls_Round.f p = some (roundL p) := by unfold calls_Round.f; rw [if_pos hc]
    have e3 : smithyref19_Called.f p = some (calledL p) := by unfold smithyref19_Called.f; rw [if_pos (by omega)]
    unfold smithylaw19_CallsCalled.f smithylaw19_awake.f
    rw [h1', Option.bind_some, if_neg (by decide), e1, Option.bind_some, e3, Option.bind_some, h3', Option.bind_some, if_pos rfl, e2, Option.bind_some, h4', Option.bind_some, h5', Option.bind_some, if_pos rfl, Option.bind_some]
end
section
open Go Go.ChangeShapes Go.WideShapes Go.Deep Go.RowKit Go.Proofs.YtligpleningglaaW.PrintWords Go.Proofs.Ytligpleningglaa.F Go.Proofs.Ytligpleningglaa.Ko
set_option linter.unusedVariables false
set_option linter.unusedSimpArgs false
section
variable {W : World}
theorem op3 : Opn Try.prog W (Kd.int .i64) 3 (fun _ => True) := op_weaken (op_int Try.underlying3) (fun _ _ => trivial)
theorem op35 : Opn Try.prog W (Kd.slice 3 (Kd.int .i64)) 35 (fun _ => True) := op_weaken (op_slice 3 Try.underlying35 (by kernel_rfl) op3) (fun _ _ => trivial)
theorem op38 : Opn Try.prog W (Kd.slice 37 (Kd.int .u8)) 38 (fun _ => True) := op_weaken (op_slice 37 Try.underlying38 (by kernel_rfl) (op_int Try.underlying37)) (fun _ _ => trivial)
theorem op115 : Opn Try.prog W k115 115 (fun _ => True) := op_weaken (op_iso (fun x => ⟨x.1, x.2⟩) (fun _ => rfl)
  (op_struct Try.underlying115 (by kernel_rfl) (op_more rfl (by kernel_rfl) (op_int Try.underlying37) (op_last rfl (by kernel_rfl) op3)))) (fun _ _ => trivial)
theorem op39 : Opn Try.prog W (Kd.slice 115 k115) 39 (fun _ => True) := op_weaken (op_slice 115 Try.underlying39 (by kernel_rfl) op115) (fun _ _ => trivial)
theorem op59 : Opn Try.prog W k59 59 (fun _ => True) := op_weaken (op_iso (fun x => ⟨x.1, x.2⟩) (fun _ => rfl) (op_arr2 Try.underlying59 (by kernel_rfl) (by kernel_rfl) op3)) (fun _ _ => trivial)
theorem op62 : Opn Try.prog W k62 62 (fun _ => True) := op_weaken (op_iso (fun x => ⟨x.1, x.2.1, x.2.2.1, x.2.2.2⟩) (fun _ => rfl)
  (op_struct Try.underlying62 (by kernel_rfl) (op_more rfl (by kernel_rfl) (op_int Try.underlying58) (op_more rfl (by kernel_rfl) op3 (op_more rfl (by kernel_rfl) op59 (op_last rfl (by kernel_rfl) (op_int Try.underlying60))))))) (fun _ _ => trivial)
theorem op69 : Opn Try.prog W k69 69 (fun _ => True) := op_weaken (op_iso (fun x => ⟨x.1, x.2.1, x.2.2.1, x.2.2.2.1, x.2.2.2.2.1, x.2.2.2.2.2⟩) (fun _ => rfl)
  (op_struct Try.underlying69 (by kernel_rfl) (op_more rfl (by kernel_rfl) (op_int Try.underlying65) (op_more rfl (by kernel_rfl) (op_int Try.underlying66) (op_more rfl (by kernel_rfl) op3 (op_more rfl (by kernel_rfl) op35 (op_more rfl (by kernel_rfl) (op_int Try.underlying67) (op_last rfl (by kernel_rfl) op3)))))))) (fun _ _ => trivial)
theorem op64 : Opn Try.prog W k64 64 (fun b => b.f0.length ≤ 17592186044416) := op_weaken (op_iso (fun x => ⟨x.1, x.2⟩) (fun _ => rfl)
  (op_struct Try.underlying64 (by kernel_rfl) (op_more rfl (by kernel_rfl) (op_slice 69 Try.underlying57 (by kernel_rfl) op69) (op_last rfl (by kernel_rfl) op62)))) (fun b hb => by
    have h : b.f0.length * Try.prog.bytesOf 69 ≤ reachBytes := hb.1.1
    rw [show Try.prog.bytesOf 69 = 56 by kernel_rfl, show reachBytes = 140737488351232 from rfl] at h
    omega)
theorem op42 : Opn Try.prog W k42 42 (fun g => g.f5.length ≤ 17592186044416 ∧ ∀ b ∈ g.f5, b.f0.length ≤ 17592186044416) := op_weaken (op_iso (fun x => ⟨x.1, x.2.1, x.2.2.1, x.2.2.2.1, x.2.2.2.2.1, x.2.2.2.2.2⟩) (fun _ => rfl)
  (op_struct Try.underlying42 (by kernel_rfl) (op_more rfl (by kernel_rfl) (op_string Try.underlying9) (op_more rfl (by kernel_rfl) op35 (op_more rfl (by kernel_rfl) (op_int Try.underlying37) (op_more rfl (by kernel_rfl) op38 (op_more rfl (by kernel_rfl) op39 (op_last rfl (by kernel_rfl) (op_slice 64 Try.underlying40 (by kernel_rfl) op64))))))))) (fun g hg => by
    have h : g.f5.length * Try.prog.bytesOf 64 ≤ reachBytes := hg.2.2.2.2.2.1
    have h2 : ∀ b ∈ g.f5, b.f0.length ≤ 17592186044416 := hg.2.2.2.2.2.2
    rw [show Try.prog.bytesOf 64 = 64 by kernel_rfl, show reachBytes = 140737488351232 from rfl] at h
    exact ⟨by omega, h2⟩)
theorem op29 : Opn Try.prog W (Kd.slice 42 k42) 29 ProgOk := op_weaken (op_slice 42 Try.underlying29 (by kernel_rfl) op42) (fun p hp => by
    obtain ⟨h, h2⟩ := hp
    rw [show Try.prog.bytesOf 42 = 120 by kernel_rfl, show reachBytes = 140737488351232 from rfl] at h
    exact ⟨by omega, h2⟩)
end
theorem open_graphs {H : Type} {enc : TypeId × Value → H} {W : World} {a : Option Addr} {len cap : Nat} {d : DataW H} {ps : List MemPlace}
    (h : DataW.Trod enc Try.prog W 0 (fun _ => true) true 29 (.slice a len cap) d ps) :
    ∃ l : List S42, l.length = len ∧ len ≤ cap ∧ Kd.C k42 W a len l ∧ ∀ {ts : List TypeId} {ds : List (DataW H)} {j : Nat}, (DataW.weightsEach Try.prog ts ds).all (· ≤ reachBytes) = true → ts[j]? = some 29 → ds[j]? = some d → ProgOk l := Opn.arg op29 h
theorem callsCalled_walk (A : Option Addr) (len cap : Nat) (l : List S42) (W : World) (hl : l.length = len) (hlc : len ≤ cap) (hC : Kd.C k42 W A len l) (hok : ProgOk l) :
    Calls Try.prog 4 #[.slice A len cap] W fun e W' => e = .returned (.bool true) ∧ Below W.heap.size W W' := by
  subst hl
  obtain ⟨k, hk⟩ := callsCalled_plain hok
  exact smithylaw19_CallsCalled.calls k A cap l true W hC hlc hk
end
end Go.Proofs.Ytligpleningglaa.Cw
