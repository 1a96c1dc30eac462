/- The law's own search, told plainly; fuel that is enough. -/
import Derived.Test.YtligpleningglaaRd
import Derived.Test.YtligpleningglaaFxf21
import Derived.Test.YtligpleningglaaFxf8
namespace Go.Proofs.Ytligpleningglaa.Cw
open Go Go.RowKit Go.Proofs.Ytligpleningglaa.Tarjan Go.Proofs.YtligpleningglaaW.PrintWords Go.Proofs.Ytligpleningglaa.F
set_option linter.unusedVariables false
set_option linter.unusedSimpArgs false
/-- with fuel enough. -/
def Ev {α : Type} (F : Nat → Option α) (r : α) : Prop := ∃ K, ∀ k, K ≤ k → F k = some r
theorem Ev.next {α : Type} {F G : Nat → Option α} {r : α} (h : Ev G r) (e : ∀ k, F (k + 1) = G k) : Ev F r := by
  obtain ⟨K, hK⟩ := h
  refine ⟨K + 1, fun k hk => ?_⟩
  obtain ⟨m, rfl⟩ : ∃ m, k = m + 1 := ⟨k - 1, by omega⟩
  rw [e]; exact hK m (by omega)
theorem Ev.now {α : Type} {F : Nat → Option α} {r : α} (e : ∀ k, F (k + 1) = some r) : Ev F r := by
  refine ⟨1, fun k hk => ?_⟩
  obtain ⟨m, rfl⟩ : ∃ m, k = m + 1 := ⟨k - 1, by omega⟩
  exact e m
theorem Ev.bind {α β : Type} {A : Nat → Option α} {B : α → Nat → Option β} {a : α} {r : β} (h : Ev A a) (g : Ev (B a) r) : Ev (fun k => (A k).bind fun x => B x k) r := by
  obtain ⟨K, hK⟩ := h
  obtain ⟨L, hL⟩ := g
  exact ⟨max K L, fun k hk => by
    show (A k).bind _ = _
    rw [hK k (by omega), Option.bind_some]; exact hL k (by omega)⟩
theorem Ev.same {α : Type} {F G : Nat → Option α} {r : α} (h : Ev G r) (e : ∀ k, F k = G k) : Ev F r := by
  obtain ⟨K, hK⟩ := h
  exact ⟨K, fun k hk => by rw [e]; exact hK k hk⟩
/-- the edges of a node, as they stand. -/
def es (l0 : List (List Int)) (v : Nat) : List Nat := (l0.getD v []).map Int.toNat
theorem row_at {l0 : List (List Int)} {v : Nat} : rd_L1 l0 (v : Int) = l0.getD v [] := by unfold rd_L1; rw [Int.toNat_natCast]
theorem row_len {l0 : List (List Int)} {v : Nat} : (rd_L1 l0 (v : Int)).length = (es l0 v).length := by rw [row_at]; unfold es; rw [List.length_map]
theorem okB_at {l0 : List (List Int)} (h : okB l0 = true) {v : Nat} {x : Int} (hx : x ∈ l0.getD v []) : 0 ≤ x ∧ x < (l0.length : Int) := by
  rw [List.getD_eq_getElem?_getD] at hx
  cases hv : l0[v]? with
  | none => rw [hv] at hx; cases hx
  | some l =>
    rw [hv] at hx
    have h1 := List.all_eq_true.1 (List.all_eq_true.1 h l (List.mem_of_getElem? hv)) x hx
    rw [Bool.and_eq_true, decide_eq_true_eq, decide_eq_true_eq] at h1
    exact h1
theorem edge_at {l0 : List (List Int)} (h : okB l0 = true) {v j : Nat} (hj : j < (es l0 v).length) : rd (rd_L1 l0 (v : Int)) (j : Int) = (((es l0 v)[j] : Nat) : Int) ∧ (es l0 v)[j] < l0.length := by
  have hj' : j < (l0.getD v []).length := by unfold es at hj; rwa [List.length_map] at hj
  have e : (es l0 v)[j] = ((l0.getD v [])[j]).toNat := List.getElem_map ..
  have h1 := okB_at h (List.getElem_mem hj')
  rw [e, row_at]
  unfold rd
  rw [Int.toNat_natCast, List.getD_eq_getElem?_getD, List.getElem?_eq_getElem hj']
  show (l0.getD v [])[j] = _ ∧ _
  omega
theorem es_lt {l0 : List (List Int)} (h : okB l0 = true) (v : Nat) : ∀ x ∈ es l0 v, x < l0.length := fun x hx => by
  obtain ⟨y, hy, rfl⟩ := List.mem_map.1 hx
  have := okB_at h hy
  omega
/-- what a row of ones and naughts says. -/
def Rep (N : Nat) (m : Nat → Bool) (x : List Int) : Prop := x.length = N ∧ ∀ v, v < N → rd x (v : Int) = if m v then 1 else 0
theorem rd_set_nat {x : List Int} {k : Nat} {y : Int} (hk : k < x.length) (v : Nat) : rd (x.set ((k : Nat) : Int).toNat y) (v : Int) = if v = k then y else rd x (v : Int) := by
  unfold rd
  rw [Int.toNat_natCast, Int.toNat_natCast, List.getD_eq_getElem?_getD, List.getD_eq_getElem?_getD]
  by_cases e : v = k
  · subst e; rw [if_pos rfl, List.getElem?_set_self hk]; rfl
  · rw [if_neg e, List.getElem?_set_ne (fun h => e h.symm)]
theorem Rep.put {N : Nat} {m : Nat → Bool} {x : List Int} (h : Rep N m x) {k : Nat} (hk : k < N) : Rep N (upB m k) (x.set ((k : Nat) : Int).toNat 1) :=
  ⟨by rw [List.length_set]; exact h.1, fun v hv => by
    rw [rd_set_nat (by rw [h.1]; exact hk)]
    unfold upB
    by_cases e : v = k
    · rw [if_pos e, if_pos e]; rfl
    · rw [if_neg e, if_neg e]; exact h.2 v hv⟩
theorem w1_ {k : Nat} (h : k ≤ 17592186044416) : wrap64 ((k : Int) + 1) = ((k + 1 : Nat) : Int) := by unfold wrap64; omega
theorem reaches_l1 {l0 : List (List Int)} (hok : okB l0 = true) (hN : l0.length ≤ 5864062014805) (hrl : ∀ v, (es l0 v).length ≤ 17592186044416) (tt : Nat) (r : Bool) (i : Nat) (hi : i < l0.length) :
    ∀ d j, j + d = (es l0 i).length → ∀ (m : Nat → Bool) (w : List Nat) (x7 : List Int), Rep l0.length m x7 → cnt l0.length m + w.length ≤ l0.length + 1 →
    (((es l0 i).drop j).contains tt = false → ∀ x7', Rep l0.length (((es l0 i).drop j).foldl seeR (m, w)).1 x7' → Ev (fun k => smithylaw19_reaches.l0 k l0 (tt : Int) x7' ((((es l0 i).drop j).foldl seeR (m, w)).2.map fun v : Nat => (v : Int))) r) →
    Ev (fun k => smithylaw19_reaches.l1 k l0 (tt : Int) x7 (w.map fun v : Nat => (v : Int)) (i : Int) (j : Int)) (if ((es l0 i).drop j).contains tt then true else r) := by
  intro d
  induction d with
  | zero =>
    intro j hj m w x7 hR hc hcont
    have hd : (es l0 i).drop j = [] := List.drop_of_length_le (by omega)
    rw [hd] at hcont ⊢
    refine Ev.next (hcont rfl x7 hR) (fun k => ?_)
    rw [smithylaw19_reaches.l1, if_pos (by omega), if_pos (by omega), row_len, if_neg (by omega)]
    rfl
  | succ d ih =>
    intro j hj m w x7 hR hc hcont
    have hjl : j < (es l0 i).length := by omega
    obtain ⟨he, hen⟩ := edge_at hok hjl
    have hd : (es l0 i).drop j = (es l0 i)[j] :: (es l0 i).drop (j + 1) := List.drop_eq_getElem_cons hjl
    obtain ⟨n, en⟩ : ∃ n, n = (es l0 i)[j] := ⟨_, rfl⟩
    rw [← en] at he hen hd
    rw [hd] at hcont ⊢
    by_cases ht : n = tt
    · subst ht
      rw [if_pos (by simp)]
      refine Ev.now (fun k => ?_)
      rw [smithylaw19_reaches.l1, if_pos (by omega), if_pos (by omega), row_len, if_pos (by omega), if_pos (by omega), he, if_pos rfl]
    · have hct : (n :: (es l0 i).drop (j + 1)).contains tt = ((es l0 i).drop (j + 1)).contains tt := by
        rw [List.contains_cons]
        have : (tt == n) = false := by simpa using fun h => ht h.symm
        rw [this, Bool.false_or]
      rw [hct] at hcont ⊢
      have hti : ¬ ((n : Int) = (tt : Int)) := fun h => ht (by omega)
      have hx7 := hR.2 n hen
      have hjb : j ≤ 17592186044416 := by have := hrl i; omega
      by_cases hm : m n = true
      · have hs : seeR (m, w) n = (m, w) := by unfold seeR; rw [if_pos hm]
        rw [List.foldl_cons, hs] at hcont
        refine Ev.next (ih (j + 1) (by omega) m w x7 hR hc hcont) (fun k => ?_)
        rw [hm, if_pos rfl] at hx7
        rw [smithylaw19_reaches.l1, if_pos (by omega), if_pos (by omega), row_len, if_pos (by omega), if_pos (by omega), he, if_neg hti, if_pos (by omega), if_pos (by rw [hR.1]; omega), hx7, if_neg (by decide), w1_ hjb]
      · have hm' : m n = false := by simpa using hm
        have hs : seeR (m, w) n = (upB m n, w ++ [n]) := by unfold seeR; rw [if_neg hm]
        have hc2 := see_cnt (m, w) n hen
        rw [hs] at hc2
        simp only [] at hc2
        rw [List.foldl_cons, hs] at hcont
        refine Ev.next (ih (j + 1) (by omega) (upB m n) (w ++ [n]) _ (hR.put hen) (by omega) hcont) (fun k => ?_)
        rw [hm'] at hx7
        rw [if_neg (by decide)] at hx7
        rw [smithylaw19_reaches.l1, if_pos (by omega), if_pos (by omega), row_len, if_pos (by omega), if_pos (by omega), he, if_neg hti, if_pos (by omega), if_pos (by rw [hR.1]; omega), hx7, if_pos rfl, if_pos (by rw [List.length_map]; omega), w1_ hjb, List.map_append]
        rfl
theorem reaches_l0 {l0 : List (List Int)} (hok : okB l0 = true) (hN : l0.length ≤ 5864062014805) (hrl : ∀ v, (es l0 v).length ≤ 17592186044416) (tt : Nat) :
    ∀ f (m : Nat → Bool) (w : List Nat) (x7 : List Int), Rep l0.length m x7 → cnt l0.length m + w.length ≤ l0.length + 1 → cnt l0.length m + w.length < f → (∀ v ∈ w, v < l0.length) →
    Ev (fun k => smithylaw19_reaches.l0 k l0 (tt : Int) x7 (w.map fun v : Nat => (v : Int))) (reachQ (es l0) f (m, w) tt) := by
  intro f
  induction f with
  | zero => intro m w x7 _ _ h; omega
  | succ f ih =>
    intro m w x7 hR hc hf hw
    cases w with
    | nil =>
      refine Ev.now (fun k => ?_)
      rw [smithylaw19_reaches.l0]
      rfl
    | cons i w =>
      have hi := hw i List.mem_cons_self
      have hq : reachQ (es l0) (f + 1) (m, i :: w) tt = if ((es l0 i).drop 0).contains tt then true else reachQ (es l0) f ((es l0 i).foldl seeR (m, w)) tt := by
        rw [List.drop_zero]

        rfl
      rw [hq]
      have hcn : cnt l0.length m + w.length ≤ l0.length + 1 := by simp at hc; omega
      refine Ev.next (reaches_l1 hok hN hrl tt _ i hi (es l0 i).length 0 (by omega) m w x7 hR hcn (fun hno x7' hR' => ?_)) (fun k => ?_)
      · rw [List.drop_zero] at hR' ⊢
        have hs := sees_cnt (es l0 i) (m, w) (es_lt hok i)
        simp only at hs
        simp only [List.length_cons] at hc hf
        refine ih _ _ x7' hR' (by omega) (by omega) (fun v hv => ?_)
        rcases (sees_wait _ _ _).1 hv with h1 | ⟨h1, _⟩
        · exact hw v (List.mem_cons_of_mem _ h1)
        · exact es_lt hok i v h1
      · rw [smithylaw19_reaches.l0, List.map_cons, if_pos (by simp only [List.length_cons]; omega), if_pos (by simp only [List.length_cons]; omega), if_pos (by simp only [List.length_cons]; omega)]
        rfl
theorem reaches_ev {l0 : List (List Int)} (hok : okB l0 = true) (hN : l0.length ≤ 5864062014805) (hrl : ∀ v, (es l0 v).length ≤ 17592186044416) {a tt : Nat} (ha : a < l0.length) (h : Re1 (es l0) a tt) :
    Ev (fun k => smithylaw19_reaches.f k l0 (a : Int) (tt : Int)) true := by
  have hq := (reachQ_told (N := l0.length) (es_lt hok) a tt).2 h
  rw [← hq]
  have hR : Rep l0.length (fun _ => false) (List.replicate l0.length (0 : Int)) := ⟨List.length_replicate, fun v hv => by
    unfold rd
    rw [Int.toNat_natCast, List.getD_eq_getElem?_getD, List.getElem?_replicate, if_pos hv]; rfl⟩
  have hc := cnt_le l0.length (fun _ => false)
  refine Ev.same (reaches_l0 hok hN hrl tt (l0.length + 2) (fun _ => false) [a] _ hR (by simp; omega) (by simp; omega) (fun v hv => by rw [List.mem_singleton] at hv; rw [hv]; exact ha)) (fun k => ?_)
  unfold smithylaw19_reaches.f
  rw [if_pos (by omega), if_pos (by omega), Int.toNat_natCast]
  rfl
theorem great_ev {l0 : List (List Int)} (hN : l0.length ≤ 5864062014805) : ∃ b, Ev (fun k => smithylaw19_great.f k l0) b := by
  have key : ∀ d (x3 : Int) (j : Nat), j + d = l0.length → ∃ b, Ev (fun k => smithylaw19_great.l0 k l0 x3 (j : Int)) b := by
    intro d
    induction d with
    | zero =>
      intro x3 j hj
      refine ⟨_, Ev.now (r := if (l0.length : Int) > 120 then true else decide (x3 > 2400)) (fun k => ?_)⟩
      rw [smithylaw19_great.l0, if_neg (by omega)]
      split <;> rfl
    | succ d ih =>
      intro x3 j hj
      by_cases h : x3 ≤ 2400
      · obtain ⟨b, hb⟩ := ih (wrap64 (x3 + ((rd_L1 l0 (j : Int)).length : Int))) (j + 1) (by omega)
        refine ⟨b, Ev.next hb (fun k => ?_)⟩
        rw [smithylaw19_great.l0, if_pos (by omega), if_pos h, if_pos (by omega), w1_ (by omega)]
      · refine ⟨_, Ev.now (r := if (l0.length : Int) > 120 then true else decide (x3 > 2400)) (fun k => ?_)⟩
        rw [smithylaw19_great.l0, if_pos (by omega), if_neg h]
        split <;> rfl
  exact key l0.length _ 0 (by omega)
end Go.Proofs.Ytligpleningglaa.Cw
