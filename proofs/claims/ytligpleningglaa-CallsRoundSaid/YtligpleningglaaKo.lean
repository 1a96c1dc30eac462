/- Whatever the reader treads reads as a plain value, no greater than memory lets it be: kind by kind. -/
import Derived.Test.YtligpleningglaaWWords
import Derived.Deep.Slices
import Derived.ChangeArms
import Derived.OpenShut
import Derived.SizedLaws
namespace Go.Proofs.Ytligpleningglaa.Ko
open Go Go.ChangeShapes Go.WideShapes Go.Deep Go.RowKit Go.Proofs.YtligpleningglaaW.PrintWords
set_option linter.unusedVariables false
set_option linter.unusedSimpArgs false
theorem weightsAll_mem {H : Type} {P : Program} {e : TypeId} : ∀ {l : List (DataW H)} {d : DataW H}, d ∈ l → ∀ n ∈ d.weights P e, n ∈ DataW.weightsAll P e l
  | d' :: r, d, hd, n, hn => by
    simp only [DataW.weightsAll, List.mem_append]
    rcases List.mem_cons.1 hd with rfl | h
    · exact Or.inl hn
    · exact Or.inr (weightsAll_mem h n hn)
/-- what is trodden at a type reads by a kind, and if its weights are what memory bears, so is the value. -/
structure Opn {α : Type} (P : Program) (W : World) (k : Kd α) (t : TypeId) (Ok : α → Prop) : Prop where
  out : ∀ {H : Type} {enc : TypeId × Value → H} {base : Nat} {spare : Nat → Bool} {held : Bool} {fuel : Nat} {cs : List Value} {x : DataW H × List MemPlace}, DataW.trod enc P W base spare held fuel t cs = some x →
    ∃ v, k.K W v cs ∧ ((∀ n ∈ x.1.weights P t, n ≤ reachBytes) → Ok v)
/-- the fields of a struct, from an offset on. -/
structure OpF {α : Type} (P : Program) (W : World) (k : Kd α) (off : Nat) (fs : List Field) (Ok : α → Prop) : Prop where
  out : ∀ {H : Type} {enc : TypeId × Value → H} {base : Nat} {spare : Nat → Bool} {held : Bool} {fuel : Nat} {cs : List Value} {xs : List (DataW H × List MemPlace)}, cs.length = off + k.sz → xs.length = fs.length →
    (∀ (i : Nat) (f : Field), fs[i]? = some f → DataW.trod enc P W base spare held fuel f.type ((cs.drop f.offset).take (P.cellsOf f.type)) = xs[i]?) →
    ∃ v, k.K W v (cs.drop off) ∧ ((∀ n ∈ DataW.weightsEach P (fs.map (·.type)) (xs.map (·.1)), n ≤ reachBytes) → Ok v)
section
variable {P : Program} {W : World}
theorem op_int {k : IntKind} {t : TypeId} (ht : P.underlying t = some (.int k)) : Opn P W (Kd.int k) t (fun n => (Lit.int k n).wf = true) := ⟨fun h => by
  obtain ⟨n, rfl, rfl, hw⟩ := DataW.trod_int ht h
  exact ⟨n, rfl, fun _ => hw⟩⟩
theorem op_bool {t : TypeId} (ht : P.underlying t = some .bool) : Opn P W Kd.bool t (fun _ => True) := ⟨fun h => by
  obtain ⟨n, rfl, rfl⟩ := DataW.trod_bool ht h
  exact ⟨n, rfl, fun _ => trivial⟩⟩
theorem op_string {t : TypeId} (ht : P.underlying t = some .string) : Opn P W Kd.string t (fun s => s.size ≤ reachBytes) := ⟨fun h => by
  obtain ⟨s, rfl, rfl, _⟩ := DataW.trod_string ht h
  exact ⟨s, rfl, fun hs => hs _ (by simp [DataW.weights])⟩⟩
theorem op_slice {α : Type} {d : Kd α} {t e : TypeId} {Ok : α → Prop} (q : Nat) (ht : P.underlying t = some (.slice e)) (hc : P.cellsOf e = d.sz) (hd : Opn P W d e Ok) :
    Opn P W (Kd.slice q d) t (fun l => l.length * P.bytesOf e ≤ reachBytes ∧ ∀ x ∈ l, Ok x) := ⟨fun {H enc base spare held fuel cs x} h => by
  rcases open_slice ht h with ⟨rfl, rfl⟩ | ⟨a, len, cap, m, n, D, Pl, rfl, hb, hl, hm, hmm, rfl, hx⟩
  · exact ⟨[], ⟨none, 0, rfl, Nat.le_refl _, Kd.C_nil _ _⟩, fun _ => ⟨by simp, fun _ h => by cases h⟩⟩
  · have hlm : len ≤ m := by rw [hmm]; split <;> omega
    have each : ∀ i, i < len → ∃ v : α, ∃ cs', cs'.length = d.sz ∧ d.K W v cs' ∧ (∀ j u, cs'[j]? = some u → W.cell? (a.add (i * d.sz + j)) = some u) ∧ ((∀ n ∈ (D i).weights P e, n ≤ reachBytes) → Ok v) := fun i hi => by
      obtain ⟨cs', h1, h2⟩ := hx i (by omega)
      rw [hc] at h1
      obtain ⟨_, hlen, hcell⟩ := World.cells?_some h1
      obtain ⟨v, hv, hw⟩ := hd.out h2
      refine ⟨v, cs', hlen, hv, fun j u hu => ?_, hw⟩
      have hj : j < d.sz := by
        rcases Nat.lt_or_ge j cs'.length with h | h
        · omega
        · rw [List.getElem?_eq_none h] at hu; cases hu
      rw [← hu, ← hcell j hj, Deep.add_add]
    have hinh : len = 0 ∨ Nonempty α := by
      by_cases h0 : len = 0
      · exact .inl h0
      · obtain ⟨v, _⟩ := each 0 (by omega); exact .inr ⟨v⟩
    rcases hinh with h0 | ⟨⟨v0⟩⟩
    · subst h0
      refine ⟨[], ⟨some a, cap, rfl, Nat.zero_le _, ⟨rfl, Nat.zero_le _, fun h => absurd h (Nat.lt_irrefl 0)⟩⟩, fun _ => ⟨by simp, fun _ h => by cases h⟩⟩
    · haveI : Inhabited α := ⟨v0⟩
      obtain ⟨f, hf⟩ := choose_lt each
      have hfl : ((List.range len).map f).length = len := by simp
      refine ⟨(List.range len).map f, ⟨some a, cap, by rw [hfl], by rw [hfl]; exact hl, ⟨rfl, by rw [hfl]; unfold maxLen at hm; omega, fun _ => ⟨a, rfl, fun j p hj => ?_⟩⟩⟩, fun hw => ⟨?_, ?_⟩⟩
      · rw [List.getElem?_map] at hj
        by_cases hjl : j < len
        · rw [List.getElem?_range hjl] at hj
          injection hj with hj
          subst hj
          obtain ⟨cs', h1, h2, h3, _⟩ := hf j hjl
          exact ⟨cs', h1, h2, h3⟩
        · rw [List.getElem?_eq_none (by simp; omega)] at hj
          cases hj
      · have := hw ((((List.range len).map D).length + ((List.range (m - len)).map fun j => D (len + j)).length) * P.bytesOf e) (by simp [DataW.weights, ht])
        rw [hfl]
        rw [List.length_map, List.length_map, List.length_range, List.length_range] at this
        exact Nat.le_trans (Nat.mul_le_mul_right _ (Nat.le_add_right _ _)) this
      · intro x hx
        obtain ⟨j, hj, rfl⟩ := List.mem_map.1 hx
        rw [List.mem_range] at hj
        obtain ⟨_, _, _, _, h4⟩ := hf j hj
        refine h4 (fun n hn => hw n ?_)
        have : n ∈ DataW.weightsAll P e ((List.range len).map D) := weightsAll_mem (List.mem_map.2 ⟨j, List.mem_range.2 hj, rfl⟩) n hn
        simp only [DataW.weights, ht, List.mem_cons, List.mem_append]
        exact .inr (.inl this)⟩
theorem op_last {α : Type} {k : Kd α} {off : Nat} {f : Field} {Ok : α → Prop} (ho : f.offset = off) (hc : P.cellsOf f.type = k.sz) (h : Opn P W k f.type Ok) : OpF P W k off [f] Ok := ⟨fun {H enc base spare held fuel cs xs} hl hx hf => by
  match xs, hx with
  | [y], _ =>
    have h1 : DataW.trod enc P W base spare held fuel f.type ((cs.drop f.offset).take (P.cellsOf f.type)) = some y := hf 0 f rfl
    rw [ho, hc, List.take_of_length_le (by rw [List.length_drop]; omega)] at h1
    obtain ⟨v, h2, h3⟩ := h.out h1
    exact ⟨v, h2, fun hw => h3 (fun n hn => hw n (by simp only [List.map_cons, List.map_nil, DataW.weightsEach, List.append_nil]; exact hn))⟩⟩
theorem op_more {α β : Type} {a : Kd α} {b : Kd β} {off : Nat} {f : Field} {fs : List Field} {OkA : α → Prop} {OkB : β → Prop} (ho : f.offset = off) (hc : P.cellsOf f.type = a.sz) (h : Opn P W a f.type OkA) (hs : OpF P W b (off + a.sz) fs OkB) :
    OpF P W (Kd.pair a b) off (f :: fs) (fun x => OkA x.1 ∧ OkB x.2) := ⟨fun {H enc base spare held fuel cs xs} hl hx hf => by
  have hl' : cs.length = off + (a.sz + b.sz) := hl
  match xs, hx with
  | y :: ys, hx =>
    have h1 : DataW.trod enc P W base spare held fuel f.type ((cs.drop f.offset).take (P.cellsOf f.type)) = some y := hf 0 f rfl
    rw [ho, hc] at h1
    obtain ⟨v, h2, h3⟩ := h.out h1
    obtain ⟨u, h4, h5⟩ := hs.out (cs := cs) (xs := ys) (by omega) (by simpa using hx) (fun i g hg => hf (i + 1) g hg)
    refine ⟨(v, u), ⟨(cs.drop off).take a.sz, cs.drop (off + a.sz), ?_, h2, h4⟩, fun hw => ⟨h3 (fun n hn => hw n ?_), h5 (fun n hn => hw n ?_)⟩⟩
    · rw [← List.drop_drop, List.take_append_drop]
    · simp only [List.map_cons, DataW.weightsEach, List.mem_append]; exact .inl hn
    · simp only [List.map_cons, DataW.weightsEach, List.mem_append]; exact .inr hn⟩
theorem op_struct {α : Type} {k : Kd α} {t : TypeId} {fs : Array Field} {Ok : α → Prop} (ht : P.underlying t = some (.struct fs)) (hc : P.cellsOf t = k.sz) (h : OpF P W k 0 fs.toList Ok) : Opn P W k t Ok := ⟨fun {H enc base spare held fuel cs x} hx => by
  obtain ⟨xs, n, _, rfl, hl, hlen, hf⟩ := DataW.trod_struct ht hx
  obtain ⟨v, h1, h2⟩ := h.out (cs := cs) (xs := xs) (by omega) (by simpa using hlen) (fun i f hi => hf i f (by simpa using hi))
  exact ⟨v, h1, fun hw => h2 (fun n hn => hw n (by simp only [DataW.weights, ht]; exact hn))⟩⟩
theorem op_arr2 {α : Type} {k : Kd α} {t e : TypeId} {Ok : α → Prop} (ht : P.underlying t = some (.array 2 e)) (hc : P.cellsOf t = k.sz + k.sz) (hce : P.cellsOf e = k.sz) (h : Opn P W k e Ok) : Opn P W (Kd.pair k k) t (fun x => Ok x.1 ∧ Ok x.2) := ⟨fun {H enc base spare held fuel cs x} hx => by
  obtain ⟨xs, n, _, rfl, hl, hlen, hf⟩ := DataW.trod_array ht hx
  match xs, hlen with
  | [y0, y1], _ =>
    have g0 : DataW.trod enc P W base spare held n e ((cs.drop (0 * P.cellsOf e)).take (P.cellsOf e)) = some y0 := hf 0 (by omega)
    have g1 : DataW.trod enc P W base spare held n e ((cs.drop (1 * P.cellsOf e)).take (P.cellsOf e)) = some y1 := hf 1 (by omega)
    rw [Nat.zero_mul, List.drop_zero, hce] at g0
    rw [Nat.one_mul, hce, List.take_of_length_le (by rw [List.length_drop]; omega)] at g1
    obtain ⟨v, h1, h2⟩ := h.out g0
    obtain ⟨u, h3, h4⟩ := h.out g1
    refine ⟨(v, u), ⟨cs.take k.sz, cs.drop k.sz, (List.take_append_drop _ _).symm, h1, h3⟩, fun hw => ⟨h2 (fun n hn => hw n ?_), h4 (fun n hn => hw n ?_)⟩⟩
    · simp only [DataW.weights, ht, List.map_cons, List.map_nil, DataW.weightsAll, List.mem_append]; exact .inl hn
    · simp only [DataW.weights, ht, List.map_cons, List.map_nil, DataW.weightsAll, List.mem_append]; exact .inr (.inl hn)⟩
theorem op_iso {α β : Type} {k : Kd α} {t : TypeId} {Ok : α → Prop} {f : β → α} (g : α → β) (hg : ∀ a, f (g a) = a) (h : Opn P W k t Ok) : Opn P W (Kd.iso k f) t (fun b => Ok (f b)) := ⟨fun hx => by
  obtain ⟨v, h1, h2⟩ := h.out hx
  refine ⟨g v, ?_, fun hw => ?_⟩
  · show k.K W (f (g v)) _
    rw [hg]; exact h1
  · show Ok (f (g v))
    rw [hg]; exact h2 hw⟩
theorem op_weaken {α : Type} {k : Kd α} {t : TypeId} {Ok Ok' : α → Prop} (h : Opn P W k t Ok) (hi : ∀ v, Ok v → Ok' v) : Opn P W k t Ok' := ⟨fun hx => by
  obtain ⟨v, h1, h2⟩ := h.out hx
  exact ⟨v, h1, fun hw => hi v (h2 hw)⟩⟩
/-- an argument that is a slice, opened. -/
theorem Opn.arg {α : Type} {d : Kd α} {t : TypeId} {q : Nat} {Ok : List α → Prop} (h : Opn P W (Kd.slice q d) t Ok) {H : Type} {enc : TypeId × Value → H} {base : Nat} {spare : Nat → Bool} {held : Bool} {a : Option Addr} {len cap : Nat} {x : DataW H} {ps : List MemPlace}
    (hx : DataW.Trod enc P W base spare held t (.slice a len cap) x ps) :
    ∃ l : List α, l.length = len ∧ len ≤ cap ∧ Kd.C d W a len l ∧ ∀ {ts : List TypeId} {ds : List (DataW H)} {j : Nat}, (DataW.weightsEach P ts ds).all (· ≤ reachBytes) = true → ts[j]? = some t → ds[j]? = some x → Ok l := by
  obtain ⟨fuel, hf⟩ := hx
  obtain ⟨l, ⟨A, c, e, hl, hC⟩, hw⟩ := h.out hf
  simp [Value.cells] at e
  obtain ⟨rfl, rfl, rfl⟩ := e
  exact ⟨l, rfl, hl, hC, fun hsz ht hd => hw (fun n hn => of_decide_eq_true (List.all_eq_true.1 hsz _ (DataW.weights_mem_each ht hd _ hn)))⟩
end
end Go.Proofs.Ytligpleningglaa.Ko
