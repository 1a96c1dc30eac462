/- Texts of this proof, joined in build order: Rz, Fxf4, Fxf5, Ry, Rc, Kz, Keep, FlatA, Lk, Fxf24. -/
import Derived.Test.YtligpleningglaaGreatCz
import Derived.Test.YtligpleningglaaGreatC07
import Derived.Test.YtligpleningglaaGreatC08
import Derived.Test.YtligpleningglaaGreatC02
import Derived.Test.YtligpleningglaaGreatC00
import Derived.Test.YtligpleningglaaGreatC01
set_option linter.unusedVariables false
set_option linter.unusedSimpArgs false
set_option linter.unusedSectionVars false
set_option maxHeartbeats 8000000
set_option maxRecDepth 100000
namespace Go.Proofs.YtligpleningglaaGreat.Cw
open Go Go.RowKit Go.Proofs.YtligpleningglaaGreat.Tarjan Go.Proofs.YtligpleningglaaGreatW.PrintWords Go.Proofs.YtligpleningglaaGreat.F
def Ev {α : Type} (F : Nat → Option α) (r : α) : Prop := ∃ K, ∀ k, K ≤ k → F k = some r
theorem Ev.next {α : Type} {F G : Nat → Option α} {r : α} (h : Ev G r) (e : ∀ k, F (k + 1) = G k) : Ev F r := by
  obtain ⟨K, hK⟩ := h
  refine ⟨K + 1, fun k hk => ?_⟩
  obtain ⟨m, rfl⟩ : ∃ m, k = m + 1 := ⟨k - 1, by omega⟩
  rw [e]; exact hK m cq2
theorem Ev.now {α : Type} {F : Nat → Option α} {r : α} (e : ∀ k, F (k + 1) = some r) : Ev F r := by
  refine ⟨1, fun k hk => ?_⟩
  obtain ⟨m, rfl⟩ : ∃ m, k = m + 1 := ⟨k - 1, by omega⟩
  exact e m
theorem Ev.bind {α β : Type} {A : Nat → Option α} {B : α → Nat → Option β} {a : α} {r : β} (h : Ev A a) (g : Ev (B a) r) : Ev (fun k => (A k).bind fun x => B x k) r := by
  obtain ⟨K, hK⟩ := h
  obtain ⟨L, hL⟩ := g
  exact ⟨max K L, fun k hk => by
    show (A k).bind _ = _
    rw [hK k cq2, Option.bind_some]; exact hL k cq2⟩
theorem Ev.same {α : Type} {F G : Nat → Option α} {r : α} (h : Ev G r) (e : ∀ k, F k = G k) : Ev F r := by
  obtain ⟨K, hK⟩ := h
  exact ⟨K, fun k hk => by rw [e]; exact hK k hk⟩
def es (l0 : List (List Int)) (v : Nat) : List Nat := (l0.getD v []).map Int.toNat
theorem row_at {l0 : List (List Int)} {v : Nat} : rd_L1 l0 (v : Int) = l0.getD v [] := by unfold rd_L1; rw [Int.toNat_natCast]
theorem row_len {l0 : List (List Int)} {v : Nat} : (rd_L1 l0 (v : Int)).length = (es l0 v).length := by rw [row_at]; unfold es; rw [List.length_map]
theorem okB_at {l0 : List (List Int)} (h : okB l0 = true) {v : Nat} {x : Int} (hx : x ∈ l0.getD v []) : 0 ≤ x ∧ x < (l0.length : Int) := by
  rw [qD] at hx
  cases hv : l0[v]? with
  | none => rw [hv] at hx; cases hx
  | some l =>
    rw [hv] at hx
    have h1 := List.all_eq_true.1 (List.all_eq_true.1 h l (List.mem_of_getElem? hv)) x hx
    rw [Bool.and_eq_true, decide_eq_true_eq, decide_eq_true_eq] at h1
    exact h1
theorem edge_at {l0 : List (List Int)} (h : okB l0 = true) {v j : Nat} (hj : j < (es l0 v).length) : rd (rd_L1 l0 (v : Int)) (j : Int) = (((es l0 v)[j] : Nat) : Int) ∧ (es l0 v)[j] < l0.length := by
  have hj' : j < (l0.getD v []).length := by unfold es at hj; rwa [List.length_map] at hj
  have e : (es l0 v)[j] = ((l0.getD v [])[j]).toNat := List.getElem_map ..
  have h1 := okB_at h (List.getElem_mem hj')
  rw [e, row_at]
  unfold rd
  rw [Int.toNat_natCast, qD, qE hj']
  show (l0.getD v [])[j] = _ ∧ _
  omega
theorem es_lt {l0 : List (List Int)} (h : okB l0 = true) (v : Nat) : ∀ x ∈ es l0 v, x < l0.length := fun x hx => by
  obtain ⟨y, hy, rfl⟩ := List.mem_map.1 hx
  have := okB_at h hy
  omega
theorem w1_ {k : Nat} (h : k ≤ 17592186044416) : wrap64 ((k : Int) + 1) = ((k + 1 : Nat) : Int) := by unfold wrap64; omega
theorem wm_ {k : Nat} (h : k ≤ 17592186044416) : wrap64 (((k + 1 : Nat) : Int) - 1) = (k : Int) := w0_' h
where w0_' {k : Nat} (h : k ≤ 17592186044416) : wrap64 (((k + 1 : Nat) : Int) - 1) = (k : Int) := by unfold wrap64; omega
theorem has_ev (l : List Int) (x : Int) (hl : l.length ≤ 17592186044416) : Ev (fun k => smithyref19_has.f k l x) (l.contains x) := by
  have key : ∀ d j, j + d = l.length → Ev (fun k => smithyref19_has.l0 k l x (j : Int)) ((l.drop j).contains x) := by
    intro d
    induction d with
    | zero =>
      intro j hj
      rw [List.drop_of_length_le cq2]
      refine Ev.now (fun k => ?_)
      rw [smithyref19_has.l0, if_neg cq2]
      rfl
    | succ d ih =>
      intro j hj
      have hjl : j < l.length := by omega
      have hr : rd l (j : Int) = l[j] := by unfold rd; rw [Int.toNat_natCast, qD, qE hjl]; rfl
      rw [List.drop_eq_getElem_cons hjl, List.contains_cons]
      by_cases e : l[j] = x
      · have hb : (x == l[j]) = true := by simpa using e.symm
        rw [hb, Bool.true_or]
        refine Ev.now (fun k => ?_)
        rw [smithyref19_has.l0, if_pos cq2, if_pos cq2, hr, if_pos e]
      · have hb : (x == l[j]) = false := by simpa using fun h => e h.symm
        rw [hb, Bool.false_or]
        refine Ev.next (ih (j + 1) cq2) (fun k => ?_)
        rw [smithyref19_has.l0, if_pos cq2, if_pos cq2, hr, if_neg e, w1_ cq2]
  have := key l.length 0 cq2
  rw [List.drop_zero] at this
  exact this
def Rb (N : Nat) (m : Nat → Bool) (x : List Bool) : Prop := x.length = N ∧ ∀ v, v < N → rdOf false x (v : Int) = m v
theorem rdOf_set {x : List Bool} {k : Nat} {y : Bool} (hk : k < x.length) (v : Nat) : rdOf false (x.set ((k : Nat) : Int).toNat y) (v : Int) = if v = k then y else rdOf false x (v : Int) := by
  unfold rdOf
  rw [Int.toNat_natCast, Int.toNat_natCast, qD, qD]
  by_cases e : v = k
  · subst e; rw [if_pos rfl, List.getElem?_set_self hk]; rfl
  · rw [if_neg e, List.getElem?_set_ne (fun h => e h.symm)]
theorem Rb.put {N : Nat} {m : Nat → Bool} {x : List Bool} (h : Rb N m x) {k : Nat} (hk : k < N) : Rb N (upB m k) (x.set ((k : Nat) : Int).toNat true) :=
  ⟨by rw [List.length_set]; exact h.1, fun v hv => by
    rw [rdOf_set (by rw [h.1]; exact hk)]
    unfold upB
    by_cases e : v = k
    · rw [if_pos e, if_pos e]
    · rw [if_neg e, if_neg e]; exact h.2 v hv⟩
theorem Rb.zero (N : Nat) : Rb N (fun _ => false) (List.replicate N false) := ⟨List.length_replicate, fun v hv => by
  unfold rdOf
  rw [Int.toNat_natCast, qD, List.getElem?_replicate, if_pos hv]; rfl⟩
def zs (l : List Nat) : List Int := l.map fun v : Nat => (v : Int)
theorem zs_len (l : List Nat) : (zs l).length = l.length := List.length_map ..
section
variable {l0 : List (List Int)} (hok : okB l0 = true) (hN : l0.length ≤ 5864062014805) (hrl : ∀ v, (es l0 v).length ≤ 17592186044416)
include hok hN hrl
theorem reached_l1 (g : (Nat → Bool) × List Nat → Nat → Bool) (i : Nat) (hi : i < l0.length) :
    ∀ d j, j + d = (es l0 i).length → ∀ (m : Nat → Bool) (w : List Nat) (x5 : List Bool), Rb l0.length m x5 → cnt l0.length m + w.length ≤ l0.length + 1 →
    (∀ x5', Rb l0.length (((es l0 i).drop j).foldl seeR (m, w)).1 x5' → ∃ x, Rb l0.length (g (((es l0 i).drop j).foldl seeR (m, w))) x ∧ Ev (fun k => smithyref19_reached.l0 k l0 x5' (zs (((es l0 i).drop j).foldl seeR (m, w)).2)) x) →
    ∃ x, Rb l0.length (g (((es l0 i).drop j).foldl seeR (m, w))) x ∧ Ev (fun k => smithyref19_reached.l1 k l0 x5 (zs w) (i : Int) (j : Int)) x := by
  intro d
  induction d with
  | zero =>
    intro j hj m w x5 hR hc hcont
    have hd : (es l0 i).drop j = [] := List.drop_of_length_le cq2
    rw [hd] at hcont ⊢
    obtain ⟨x, h1, h2⟩ := hcont x5 hR
    refine ⟨x, h1, Ev.next h2 (fun k => ?_)⟩
    rw [smithyref19_reached.l1, if_pos cq2, if_pos cq2, row_len, if_neg cq2]
    rfl
  | succ d ih =>
    intro j hj m w x5 hR hc hcont
    have hjl : j < (es l0 i).length := by omega
    have hjb : j ≤ 17592186044416 := by have := hrl i; omega
    obtain ⟨he, hen⟩ := edge_at hok hjl
    have hd : (es l0 i).drop j = (es l0 i)[j] :: (es l0 i).drop (j + 1) := List.drop_eq_getElem_cons hjl
    obtain ⟨n, en⟩ : ∃ n, n = (es l0 i)[j] := ⟨_, rfl⟩
    rw [← en] at he hen hd
    rw [hd] at hcont ⊢
    have hx5 := hR.2 n hen
    by_cases hm : m n = true
    · have hs : seeR (m, w) n = (m, w) := by unfold seeR; rw [if_pos hm]
      rw [List.foldl_cons, hs] at hcont ⊢
      obtain ⟨x, h1, h2⟩ := ih (j + 1) cq2 m w x5 hR hc hcont
      refine ⟨x, h1, Ev.next h2 (fun k => ?_)⟩
      rw [hm] at hx5
      rw [smithyref19_reached.l1, if_pos cq2, if_pos cq2, row_len, if_pos cq2, if_pos cq2, he, if_pos cq2, if_pos (by rw [hR.1]; omega), if_pos hx5, w1_ hjb]
    · have hm' : m n = false := by simpa using hm
      have hs : seeR (m, w) n = (upB m n, w ++ [n]) := by unfold seeR; rw [if_neg hm]
      have hc2 := see_cnt (m, w) n hen
      rw [hs] at hc2
      simp only [] at hc2
      rw [List.foldl_cons, hs] at hcont ⊢
      obtain ⟨x, h1, h2⟩ := ih (j + 1) cq2 (upB m n) (w ++ [n]) _ (hR.put hen) cq2 hcont
      refine ⟨x, h1, Ev.next h2 (fun k => ?_)⟩
      rw [hm'] at hx5
      rw [smithyref19_reached.l1, if_pos cq2, if_pos cq2, row_len, if_pos cq2, if_pos cq2, he, if_pos cq2, if_pos (by rw [hR.1]; omega), if_neg (by rw [hx5]; decide), if_pos cq51, w1_ hjb]
      unfold zs
      rw [List.map_append]
      rfl
theorem reached_l0 : ∀ f (m : Nat → Bool) (w : List Nat) (x5 : List Bool), Rb l0.length m x5 → cnt l0.length m + w.length ≤ l0.length + 1 → cnt l0.length m + w.length ≤ f → (∀ v ∈ w, v < l0.length) →
    ∃ x, Rb l0.length (reachR (es l0) f (m, w)).1 x ∧ Ev (fun k => smithyref19_reached.l0 k l0 x5 (zs w)) x := by
  intro f
  induction f with
  | zero =>
    intro m w x5 hR hc hf hw
    obtain rfl : w = [] := List.eq_nil_of_length_eq_zero cq2
    refine ⟨x5, hR, Ev.now (fun k => ?_)⟩
    rw [smithyref19_reached.l0]
    rfl
  | succ f ih =>
    intro m w x5 hR hc hf hw
    cases hrv : w.reverse with
    | nil =>
      obtain rfl : w = [] := by simpa using hrv
      refine ⟨x5, hR, Ev.now (fun k => ?_)⟩
      rw [smithyref19_reached.l0]
      rfl
    | cons i u =>
      have ew : w = u.reverse ++ [i] := by
        have := congrArg List.reverse hrv
        simpa using this
      have hi : i < l0.length := hw i (by rw [ew]; simp)
      have hlen : w.length = u.reverse.length + 1 := by rw [ew]; simp
      have hq : reachR (es l0) (f + 1) (m, w) = reachR (es l0) f ((es l0 i).foldl seeR (m, u.reverse)) := by
        show (match w.reverse with | [] => (m, w) | i :: w => reachR (es l0) f ((es l0 i).foldl seeR (m, w.reverse))) = _
        rw [hrv]
      have hcn : cnt l0.length m + u.reverse.length ≤ l0.length + 1 := by omega
      have hl1 := reached_l1 hok hN hrl (fun s => (reachR (es l0) f s).1) i hi (es l0 i).length 0 cq2 m u.reverse x5 hR hcn (fun x5' hR' => by
        rw [List.drop_zero] at hR' ⊢
        have hs := sees_cnt (es l0 i) (m, u.reverse) (es_lt hok i)
        simp only at hs
        exact ih _ _ x5' hR' cq2 cq2 (fun v hv => by
          rcases (sees_wait _ _ _).1 hv with h1 | ⟨h1, _⟩
          · exact hw v (by rw [ew]; exact List.mem_append_left _ h1)
          · exact es_lt hok i v h1))
      rw [List.drop_zero] at hl1
      obtain ⟨x, h1, h2⟩ := hl1
      rw [hq]
      refine ⟨x, h1, Ev.next h2 (fun k => ?_)⟩
      have hub : u.reverse.length ≤ 17592186044416 := by omega
      have hzl : (zs w).length = u.reverse.length + 1 := by rw [zs_len, hlen]
      have hzi : rd (zs w) (u.reverse.length : Int) = (i : Int) := by
        unfold rd zs
        rw [Int.toNat_natCast, qD, List.getElem?_map, ew, List.getElem?_append_right (Nat.le_refl _)]
        simp
      have hzt : (zs w).take u.reverse.length = zs u.reverse := by
        unfold zs
        rw [← List.map_take, ew, List.take_left]
      rw [smithyref19_reached.l0, hzl, if_pos cq2, wm_ hub, if_pos cq2, if_pos cq2, if_pos cq2, Int.toNat_natCast, hzt, hzi]
      rfl
theorem reached_ev {a : Nat} (ha : a < l0.length) : ∃ x, (x.length = l0.length ∧ ∀ v, v < l0.length → (rdOf false x (v : Int) = true ↔ Re1 (es l0) a v)) ∧ Ev (fun k => smithyref19_reached.f k l0 (a : Int)) x := by
  have hc := cnt_le l0.length (fun _ => false)
  obtain ⟨x, h1, h2⟩ := reached_l0 hok hN hrl (l0.length + 1) (fun _ => false) [a] _ (Rb.zero _) cq52 cq52 (fun v hv => by rw [List.mem_singleton] at hv; rw [hv]; exact ha)
  refine ⟨x, ⟨h1.1, fun v hv => by rw [h1.2 v hv]; exact reachR_told (N := l0.length) (es_lt hok) a v⟩, Ev.same h2 (fun k => ?_)⟩
  unfold smithyref19_reached.f
  rw [if_pos cq2, if_pos cq2, Int.toNat_natCast]
  rfl
def stepD (nx : Nat → List Nat) (f : Nat) (s : (Nat → Bool) × List Nat) (k : Nat) : (Nat → Bool) × List Nat := if s.1 k then s else walkD nx f k s
theorem nxc_range (i : Nat) : nxc l0 i = (List.range l0.length).filter (fun k => (es l0 i).contains k) := by
  refine sorted_eq (cmpN_lt _) ((range_sorted _).filter _) (fun x => ?_)
  rw [List.mem_filter, List.mem_range]
  unfold nxc
  rw [cmpN_mem]
  constructor
  · intro h; exact ⟨es_lt hok i x h, List.contains_iff_mem.2 h⟩
  · intro h; exact List.contains_iff_mem.1 h.2
end
section
variable {l0 : List (List Int)} (hok : okB l0 = true) (hN : l0.length ≤ 5864062014805) (hrl : ∀ v, (es l0 v).length ≤ 17592186044416)
theorem zs_contains (l : List Nat) (x : Nat) : (zs l).contains (x : Int) = l.contains x := by
  rw [Bool.eq_iff_iff]
  unfold zs
  simp only [List.contains_iff_mem, List.mem_map]
  constructor
  · rintro ⟨y, hy, e⟩
    have : y = x := by omega
    rwa [this] at hy
  · intro h; exact ⟨x, h, rfl⟩
include hok in
theorem row_zs (v : Nat) : rd_L1 l0 (v : Int) = zs (es l0 v) := by
  rw [row_at]
  unfold zs es
  rw [List.map_map]
  have : ∀ x ∈ l0.getD v [], ((fun v : Nat => (v : Int)) ∘ Int.toNat) x = x := fun x hx => by
    have := (okB_at hok hx).1
    show ((x.toNat : Nat) : Int) = x
    omega
  rw [List.map_congr_left this, List.map_id']
theorem zs_snoc (l : List Nat) (x : Nat) : zs l ++ [(x : Int)] = zs (l ++ [x]) := by unfold zs; rw [List.map_append]; rfl
include hok hN hrl
theorem walk_loop (i : Nat) (hi : i < l0.length) (f B : Nat) (hB : B + 1 ≤ 5864062014805)
    (IH : ∀ i, i < l0.length → ∀ (s : (Nat → Bool) × List Nat) (x2 : List Bool) (B : Nat), s.1 i = false → cnt l0.length s.1 ≤ f → s.2.length + cnt l0.length s.1 ≤ B → B ≤ 5864062014805 → Rb l0.length s.1 x2 →
      (∃ x2', Rb l0.length (walkD (nxc l0) f i s).1 x2' ∧ Ev (fun k => smithyref19_walk.f k l0 (i : Int) x2 (zs s.2)) (zs (walkD (nxc l0) f i s).2, x2')) ∧ (walkD (nxc l0) f i s).2.length + cnt l0.length (walkD (nxc l0) f i s).1 ≤ B) :
    ∀ d j, j + d = l0.length → ∀ (s : (Nat → Bool) × List Nat) (x2 : List Bool), Rb l0.length s.1 x2 → cnt l0.length s.1 ≤ f → s.2.length + cnt l0.length s.1 ≤ B →
      (∃ x2', Rb l0.length (((List.range' j d).filter (fun k => (es l0 i).contains k)).foldl (stepD (nxc l0) f) s).1 x2' ∧ Ev (fun k => smithyref19_walk.l0 k l0 (i : Int) x2 (zs s.2) (j : Int)) (zs ((((List.range' j d).filter (fun k => (es l0 i).contains k)).foldl (stepD (nxc l0) f) s).2 ++ [i]), x2')) ∧
      (((List.range' j d).filter (fun k => (es l0 i).contains k)).foldl (stepD (nxc l0) f) s).2.length + cnt l0.length (((List.range' j d).filter (fun k => (es l0 i).contains k)).foldl (stepD (nxc l0) f) s).1 ≤ B := by
  intro d
  induction d with
  | zero =>
    intro j hj s x2 hR hc hb
    refine ⟨⟨x2, hR, Ev.now (fun k => ?_)⟩, hb⟩
    rw [smithyref19_walk.l0, if_neg cq2, if_pos cq51, zs_snoc]
    rfl
  | succ d ih =>
    intro j hj s x2 hR hc hb
    have hjN : j < l0.length := by omega
    have hjb : j ≤ 17592186044416 := by omega
    have hhas := has_ev (rd_L1 l0 (i : Int)) (j : Int) (by rw [row_len]; exact hrl i)
    rw [row_zs hok, zs_contains] at hhas
    rw [List.range'_succ, List.filter_cons]
    by_cases he : (es l0 i).contains j = true
    · rw [if_pos he, List.foldl_cons]
      rw [he] at hhas
      have hx := hR.2 j hjN
      by_cases hm : s.1 j = true
      · have hs : stepD (nxc l0) f s j = s := by unfold stepD; rw [if_pos hm]
        rw [hs]
        obtain ⟨⟨x2', h1, h2⟩, h3⟩ := ih (j + 1) cq2 s x2 hR hc hb
        refine ⟨⟨x2', h1, ?_⟩, h3⟩
        have G : Ev (fun k => (smithyref19_has.f k (zs (es l0 i)) (j : Int)).bind fun t285 => (if t285 = true then (smithyref19_walk.l0 k l0 (i : Int) x2 (zs s.2) ((j + 1 : Nat) : Int)) else (smithyref19_walk.l0 k l0 (i : Int) x2 (zs s.2) ((j + 1 : Nat) : Int)))) _ :=
          Ev.bind (B := fun (t285 : Bool) k => if t285 = true then (smithyref19_walk.l0 k l0 (i : Int) x2 (zs s.2) ((j + 1 : Nat) : Int)) else (smithyref19_walk.l0 k l0 (i : Int) x2 (zs s.2) ((j + 1 : Nat) : Int))) hhas (Ev.same h2 (fun k => if_pos rfl))
        refine Ev.next G (fun k => ?_)
        rw [hm] at hx
        rw [smithyref19_walk.l0, if_pos cq2, if_pos cq2, if_pos cq2, row_zs hok, w1_ hjb, if_pos (show (0 : Int) ≤ (j : Int) by omega), if_pos (show (j : Int) < (x2.length : Int) by rw [hR.1]; omega), if_pos hx]
      · have hm' : s.1 j = false := by simpa using hm
        have hs : stepD (nxc l0) f s j = walkD (nxc l0) f j s := by unfold stepD; rw [if_neg hm]
        rw [hs]
        obtain ⟨⟨y2, g1, g2⟩, g3⟩ := IH j hjN s x2 B hm' hc hb cq2 hR
        have hmono : cnt l0.length (walkD (nxc l0) f j s).1 ≤ cnt l0.length s.1 := cnt_mono (fun v hv => walkD_mono f j s v hv)
        obtain ⟨⟨x2', h1, h2⟩, h3⟩ := ih (j + 1) cq2 (walkD (nxc l0) f j s) y2 g1 cq2 g3
        refine ⟨⟨x2', h1, ?_⟩, h3⟩
        have G2 : Ev (fun k => (smithyref19_walk.f k l0 (j : Int) x2 (zs s.2)).bind fun bt287 => smithyref19_walk.l0 k l0 (i : Int) bt287.2 bt287.1 ((j + 1 : Nat) : Int)) _ :=
          Ev.bind (B := fun (bt287 : List Int × List Bool) k => smithyref19_walk.l0 k l0 (i : Int) bt287.2 bt287.1 ((j + 1 : Nat) : Int)) g2 h2
        have G : Ev (fun k => (smithyref19_has.f k (zs (es l0 i)) (j : Int)).bind fun t285 => (if t285 = true then ((smithyref19_walk.f k l0 (j : Int) x2 (zs s.2)).bind fun bt287 => smithyref19_walk.l0 k l0 (i : Int) bt287.2 bt287.1 ((j + 1 : Nat) : Int)) else (smithyref19_walk.l0 k l0 (i : Int) x2 (zs s.2) ((j + 1 : Nat) : Int)))) _ :=
          Ev.bind (B := fun (t285 : Bool) k => if t285 = true then ((smithyref19_walk.f k l0 (j : Int) x2 (zs s.2)).bind fun bt287 => smithyref19_walk.l0 k l0 (i : Int) bt287.2 bt287.1 ((j + 1 : Nat) : Int)) else (smithyref19_walk.l0 k l0 (i : Int) x2 (zs s.2) ((j + 1 : Nat) : Int))) hhas (Ev.same G2 (fun k => if_pos rfl))
        refine Ev.next G (fun k => ?_)
        rw [hm'] at hx
        rw [smithyref19_walk.l0, if_pos cq2, if_pos cq2, if_pos cq2, row_zs hok, w1_ hjb, if_pos (show (0 : Int) ≤ (j : Int) by omega), if_pos (show (j : Int) < (x2.length : Int) by rw [hR.1]; omega), if_neg (show ¬ rdOf false x2 (j : Int) = true by rw [hx]; decide)]
    · have he' : (es l0 i).contains j = false := by simpa using he
      rw [if_neg he]
      rw [he'] at hhas
      obtain ⟨⟨x2', h1, h2⟩, h3⟩ := ih (j + 1) cq2 s x2 hR hc hb
      refine ⟨⟨x2', h1, ?_⟩, h3⟩
      have G : Ev (fun k => (smithyref19_has.f k (zs (es l0 i)) (j : Int)).bind fun t285 => (if t285 = true then (if 0 ≤ (j : Int) then (if (j : Int) < (x2.length : Int) then (if rdOf false x2 (j : Int) = true then (smithyref19_walk.l0 k l0 (i : Int) x2 (zs s.2) ((j + 1 : Nat) : Int)) else ((smithyref19_walk.f k l0 (j : Int) x2 (zs s.2)).bind fun bt287 => smithyref19_walk.l0 k l0 (i : Int) bt287.2 bt287.1 ((j + 1 : Nat) : Int))) else (none)) else (none)) else (smithyref19_walk.l0 k l0 (i : Int) x2 (zs s.2) ((j + 1 : Nat) : Int)))) _ :=
        Ev.bind (B := fun (t285 : Bool) k => (if t285 = true then (if 0 ≤ (j : Int) then (if (j : Int) < (x2.length : Int) then (if rdOf false x2 (j : Int) = true then (smithyref19_walk.l0 k l0 (i : Int) x2 (zs s.2) ((j + 1 : Nat) : Int)) else ((smithyref19_walk.f k l0 (j : Int) x2 (zs s.2)).bind fun bt287 => smithyref19_walk.l0 k l0 (i : Int) bt287.2 bt287.1 ((j + 1 : Nat) : Int))) else (none)) else (none)) else (smithyref19_walk.l0 k l0 (i : Int) x2 (zs s.2) ((j + 1 : Nat) : Int)))) hhas (Ev.same h2 (fun k => if_neg cq6))
      refine Ev.next G (fun k => ?_)
      rw [smithyref19_walk.l0, if_pos cq2, if_pos cq2, if_pos cq2, row_zs hok, w1_ hjb]
theorem walk_ev : ∀ f, ∀ i, i < l0.length → ∀ (s : (Nat → Bool) × List Nat) (x2 : List Bool) (B : Nat), s.1 i = false → cnt l0.length s.1 ≤ f → s.2.length + cnt l0.length s.1 ≤ B → B ≤ 5864062014805 → Rb l0.length s.1 x2 →
      (∃ x2', Rb l0.length (walkD (nxc l0) f i s).1 x2' ∧ Ev (fun k => smithyref19_walk.f k l0 (i : Int) x2 (zs s.2)) (zs (walkD (nxc l0) f i s).2, x2')) ∧ (walkD (nxc l0) f i s).2.length + cnt l0.length (walkD (nxc l0) f i s).1 ≤ B := by
  intro f
  induction f with
  | zero => intro i hi s x2 B hm hc; have := cnt_pos hi hm; omega
  | succ f ih =>
    intro i hi s x2 B hm hc hb hB hR
    have hu := cnt_up hi hm
    obtain ⟨B', eB⟩ : ∃ B', B = B' + 1 := ⟨B - 1, by omega⟩
    obtain ⟨⟨x2', h1, h2⟩, h3⟩ := walk_loop hok hN hrl i hi f B' cq2 ih l0.length 0 cq2 (upB s.1 i, s.2) _ (hR.put hi) (by show cnt l0.length (upB s.1 i) ≤ f; omega) (by show s.2.length + cnt l0.length (upB s.1 i) ≤ B'; omega)
    have hw : walkD (nxc l0) (f + 1) i s = ((((List.range' 0 l0.length).filter (fun k => (es l0 i).contains k)).foldl (stepD (nxc l0) f) (upB s.1 i, s.2)).1, (((List.range' 0 l0.length).filter (fun k => (es l0 i).contains k)).foldl (stepD (nxc l0) f) (upB s.1 i, s.2)).2 ++ [i]) := by
      have e := nxc_range hok hN hrl i
      rw [List.range_eq_range'] at e
      rw [← e]
      rfl
    rw [hw]
    refine ⟨⟨x2', h1, Ev.next h2 (fun k => ?_)⟩, by simp only [List.length_append, List.length_cons, List.length_nil]; omega⟩
    rw [smithyref19_walk.f, if_pos cq2, if_pos (by rw [hR.1]; omega)]
    rfl
end
section
variable {l0 : List (List Int)} (hok : okB l0 = true) (hN : l0.length ≤ 5864062014805) (hrl : ∀ v, (es l0 v).length ≤ 17592186044416)
def AL (l0 : List (List Int)) (al : Nat → Nat → Bool) (n : Nat) (x4 : List (List Bool)) : Prop := x4.length = n ∧ ∀ v, v < n → (rd_L16 x4 (v : Int)).length = l0.length ∧ ∀ u, u < l0.length → rdOf false (rd_L16 x4 (v : Int)) (u : Int) = al v u
def qP (al : Nat → Nat → Bool) (v k : Nat) : Bool := k == v || al k v && al v k
def lastP (r : List Nat) (l : List Nat) : Bool := l.all (fun k => !r.contains k)
theorem lastP_snoc (r l : List Nat) (k : Nat) : lastP r (l ++ [k]) = (lastP r l && !r.contains k) := by unfold lastP; rw [List.all_append]; simp
include hok hN hrl
theorem parts_l5 (al : Nat → Nat → Bool) (x4 : List (List Bool)) (hA : AL l0 al l0.length x4) (left : List Nat) (hll : left.length ≤ l0.length) (hlN : ∀ v ∈ left, v < l0.length) (x12 : List (List Int)) (n : Nat) (hn : n < left.length) (hx12 : x12.length ≤ n) (r : List (List Int) × Int)
    (hcont : ∀ x12', x12' = x12 ++ (if lastP (left.drop (n + 1)) ((List.range l0.length).filter (qP al left[n])) then [zs ((List.range l0.length).filter (qP al left[n]))] else []) → Ev (fun k => smithyref19_Parts.l4 k l0 x4 (zs left) x12' ((n + 1 : Nat) : Int)) r) :
    ∀ d j, j + d = l0.length → Ev (fun k => smithyref19_Parts.l5 k l0 x4 (zs left) x12 (n : Int) (zs ((List.range j).filter (qP al left[n]))) (lastP (left.drop (n + 1)) ((List.range j).filter (qP al left[n]))) (j : Int)) r := by
  have hnb : n ≤ 17592186044416 := by omega
  obtain ⟨v, ev⟩ : ∃ v, v = left[n] := ⟨_, rfl⟩
  have hvN : v < l0.length := hlN v (by rw [ev]; exact List.getElem_mem hn)
  have hrd : rd (zs left) (n : Int) = (v : Int) := by
    unfold rd zs
    rw [Int.toNat_natCast, qD, List.getElem?_map, qE hn, ev]; rfl
  rw [← ev] at hcont ⊢
  intro d
  induction d with
  | zero =>
    intro j hj
    obtain rfl : j = l0.length := by omega
    have hc := hcont _ rfl
    by_cases hl : lastP (left.drop (n + 1)) ((List.range l0.length).filter (qP al v)) = true
    · rw [if_pos hl] at hc
      refine Ev.next hc (fun k => ?_)
      rw [smithyref19_Parts.l5, if_neg cq2, hl, if_pos rfl, if_pos cq2, w1_ hnb]
    · have hl' : lastP (left.drop (n + 1)) ((List.range l0.length).filter (qP al v)) = false := by simpa using hl
      rw [if_neg hl, List.append_nil] at hc
      refine Ev.next hc (fun k => ?_)
      rw [smithyref19_Parts.l5, if_neg cq2, hl', if_neg cq6, w1_ hnb]
  | succ d ih =>
    intro j hj
    have hjN : j < l0.length := by omega
    have hjb : j ≤ 17592186044416 := by omega
    have hnx := ih (j + 1) cq2
    obtain ⟨P, eP⟩ : ∃ P, P = (List.range j).filter (qP al v) := ⟨_, rfl⟩
    have hPl : P.length ≤ j := by rw [eP]; exact Nat.le_trans (List.length_filter_le _ _) (by rw [List.length_range]; exact Nat.le_refl _)
    rw [List.range_succ, List.filter_append, ← eP] at hnx
    rw [← eP]
    have hzl : (zs left).drop (n + 1) = zs (left.drop (n + 1)) := by unfold zs; rw [List.map_drop]
    have hdl : (left.drop (n + 1)).length ≤ 17592186044416 := by rw [List.length_drop]; omega
    have hhas := has_ev (zs (left.drop (n + 1))) (j : Int) (by rw [zs_len]; exact hdl)
    rw [zs_contains] at hhas
    -- j stands in the part
    have add : qP al v j = true → Ev (fun k => (some (zs P ++ [(j : Int)] : List Int)).bind fun y => (if lastP (left.drop (n + 1)) P = true then (if 0 ≤ (wrap64 ((n : Int) + 1)) then (if (wrap64 ((n : Int) + 1)) ≤ ((zs left).length : Int) then ((smithyref19_has.f k ((zs left).drop ((wrap64 ((n : Int) + 1)) : Int).toNat) (j : Int)).bind fun t334 => (smithyref19_Parts.l5 k l0 x4 (zs left) x12 (n : Int) y (!t334) (wrap64 ((j : Int) + 1)))) else (none)) else (none)) else (smithyref19_Parts.l5 k l0 x4 (zs left) x12 (n : Int) y false (wrap64 ((j : Int) + 1))))) r := fun hq => by
      have e1 : [j].filter (qP al v) = [j] := by simp [hq]
      rw [e1] at hnx
      rw [← zs_snoc, lastP_snoc] at hnx
      by_cases hl : lastP (left.drop (n + 1)) P = true
      · rw [hl, Bool.true_and] at hnx
        have G : Ev (fun k => (smithyref19_has.f k (zs (left.drop (n + 1))) (j : Int)).bind fun t334 => (smithyref19_Parts.l5 k l0 x4 (zs left) x12 (n : Int) (zs P ++ [(j : Int)]) (!t334) ((j + 1 : Nat) : Int))) r :=
          Ev.bind (B := fun (t334 : Bool) k => smithyref19_Parts.l5 k l0 x4 (zs left) x12 (n : Int) (zs P ++ [(j : Int)]) (!t334) ((j + 1 : Nat) : Int)) hhas hnx
        refine Ev.same G (fun k => ?_)
        rw [Option.bind_some, if_pos hl, w1_ hnb, w1_ hjb, if_pos cq2, if_pos cq51, Int.toNat_natCast, hzl]
      · have hl' : lastP (left.drop (n + 1)) P = false := by simpa using hl
        rw [hl', Bool.false_and] at hnx
        refine Ev.same hnx (fun k => ?_)
        rw [Option.bind_some, if_neg hl, w1_ hjb]
    have skip : qP al v j = false → Ev (fun k => smithyref19_Parts.l5 k l0 x4 (zs left) x12 (n : Int) (zs P) (lastP (left.drop (n + 1)) P) (wrap64 ((j : Int) + 1))) r := fun hq => by
      have e1 : [j].filter (qP al v) = [] := by simp [hq]
      rw [e1, List.append_nil] at hnx
      rw [w1_ hjb]
      exact hnx
    have hzP : (zs P).length < 17592186044416 := by rw [zs_len]; omega
    obtain ⟨hr1, hr2⟩ := hA.2 j hjN
    obtain ⟨hs1, hs2⟩ := hA.2 v hvN
    have hx1 := hr2 v hvN
    have hx2 := hs2 j hjN
    have hx4 := hA.1
    clear hnx hcont ih
    by_cases hjv : j = v
    · refine Ev.next (add (by unfold qP; simp [hjv])) (fun k => ?_)
      rw [smithyref19_Parts.l5, if_pos cq2, if_pos cq2, if_pos cq51, hrd, if_pos (show (j : Int) = (v : Int) by omega), if_pos hzP]
    · have hb : (j == v) = false := by simpa using hjv
      by_cases h1 : al j v = true
      · by_cases h2 : al v j = true
        · refine Ev.next (add (by unfold qP; rw [h1, h2, hb]; rfl)) (fun k => ?_)
          rw [smithyref19_Parts.l5, if_pos cq2, if_pos cq2, if_pos cq51, hrd, if_neg (show ¬ (j : Int) = (v : Int) by omega), if_pos (show (0 : Int) ≤ (j : Int) by omega), if_pos (show (j : Int) < (x4.length : Int) by omega), if_pos (show (0 : Int) ≤ (v : Int) by omega), if_pos (show (v : Int) < ((rd_L16 x4 (j : Int)).length : Int) by omega), hx1, if_pos h1, if_pos (show (v : Int) < (x4.length : Int) by omega), if_pos (show (j : Int) < ((rd_L16 x4 (v : Int)).length : Int) by omega), hx2, if_pos h2, if_pos hzP]
        · refine Ev.next (skip (by unfold qP; rw [h1, hb]; simpa using h2)) (fun k => ?_)
          rw [smithyref19_Parts.l5, if_pos cq2, if_pos cq2, if_pos cq51, hrd, if_neg (show ¬ (j : Int) = (v : Int) by omega), if_pos (show (0 : Int) ≤ (j : Int) by omega), if_pos (show (j : Int) < (x4.length : Int) by omega), if_pos (show (0 : Int) ≤ (v : Int) by omega), if_pos (show (v : Int) < ((rd_L16 x4 (j : Int)).length : Int) by omega), hx1, if_pos h1, if_pos (show (v : Int) < (x4.length : Int) by omega), if_pos (show (j : Int) < ((rd_L16 x4 (v : Int)).length : Int) by omega), hx2, if_neg h2]
      · refine Ev.next (skip (by unfold qP; rw [hb]; simp [h1])) (fun k => ?_)
        rw [smithyref19_Parts.l5, if_pos cq2, if_pos cq2, if_pos cq51, hrd, if_neg (show ¬ (j : Int) = (v : Int) by omega), if_pos (show (0 : Int) ≤ (j : Int) by omega), if_pos (show (j : Int) < (x4.length : Int) by omega), if_pos (show (0 : Int) ≤ (v : Int) by omega), if_pos (show (v : Int) < ((rd_L16 x4 (j : Int)).length : Int) by omega), hx1, if_neg h1]
theorem parts_l4 (al : Nat → Nat → Bool) (x4 : List (List Bool)) (hA : AL l0 al l0.length x4) (left : List Nat) (hll : left.length ≤ l0.length) (hlN : ∀ v ∈ left, v < l0.length) :
    ∀ d n, n + d = left.length → ∀ x12 : List (List Int), x12.length ≤ n → Ev (fun k => smithyref19_Parts.l4 k l0 x4 (zs left) x12 (n : Int)) (x12 ++ (refP al l0.length (left.drop n)).map zs, 0) := by
  intro d
  induction d with
  | zero =>
    intro n hn x12 hx
    rw [List.drop_of_length_le cq2]
    refine Ev.now (fun k => ?_)
    rw [smithyref19_Parts.l4, if_neg cq51]
    simp [refP]
  | succ d ih =>
    intro n hn x12 hx
    have hnl : n < left.length := by omega
    have h5 := parts_l5 hok hN hrl al x4 hA left hll hlN x12 n hnl hx (x12 ++ (refP al l0.length (left.drop n)).map zs, 0) (fun x12' e => by
      have hr : refP al l0.length (left.drop n) = (if lastP (left.drop (n + 1)) ((List.range l0.length).filter (qP al left[n])) then [(List.range l0.length).filter (qP al left[n])] else []) ++ refP al l0.length (left.drop (n + 1)) := by
        rw [List.drop_eq_getElem_cons hnl]
        rfl
      have hlen : x12'.length ≤ n + 1 := by
        rw [e, List.length_append]
        split <;> simp <;> omega
      have := ih (n + 1) cq2 x12' hlen
      rw [hr, List.map_append, ← List.append_assoc]
      have e2 : x12 ++ (if lastP (left.drop (n + 1)) ((List.range l0.length).filter (qP al left[n])) then [(List.range l0.length).filter (qP al left[n])] else []).map zs = x12' := by
        rw [e]
        split <;> rfl
      rw [e2]
      exact this) l0.length 0 cq2
    refine Ev.next h5 (fun k => ?_)
    rw [smithyref19_Parts.l4, if_pos cq51]
    rfl
theorem parts_l3 (al : Nat → Nat → Bool) (x4 : List (List Bool)) (hA : AL l0 al l0.length x4) (r : List (List Int) × Int)
    (hcont : ∀ s : (Nat → Bool) × List Nat, s = uptoD (nxc l0) l0.length l0.length → s.2.length ≤ l0.length → Ev (fun k => smithyref19_Parts.l4 k l0 x4 (zs s.2) [] 0) r) :
    ∀ d j, j + d = l0.length → ∀ x9, Rb l0.length (uptoD (nxc l0) l0.length j).1 x9 → (uptoD (nxc l0) l0.length j).2.length + cnt l0.length (uptoD (nxc l0) l0.length j).1 ≤ l0.length →
      Ev (fun k => smithyref19_Parts.l3 k l0 x4 x9 (zs (uptoD (nxc l0) l0.length j).2) (j : Int)) r := by
  intro d
  induction d with
  | zero =>
    intro j hj x9 hR hb
    obtain rfl : j = l0.length := by omega
    refine Ev.next (hcont _ rfl cq2) (fun k => ?_)
    rw [smithyref19_Parts.l3, if_neg cq2]
  | succ d ih =>
    intro j hj x9 hR hb
    have hjN : j < l0.length := by omega
    have hjb : j ≤ 17592186044416 := by omega
    have hx := hR.2 j hjN
    by_cases hm : (uptoD (nxc l0) l0.length j).1 j = true
    · have hs : uptoD (nxc l0) l0.length (j + 1) = uptoD (nxc l0) l0.length j := by rw [uptoD_succ, if_pos hm]
      have h := ih (j + 1) cq2 x9 (by rw [hs]; exact hR) (by rw [hs]; exact hb)
      rw [hs] at h
      refine Ev.next h (fun k => ?_)
      rw [smithyref19_Parts.l3, if_pos cq2, if_pos cq2, if_pos (by rw [hR.1]; omega), hx, if_pos hm, w1_ hjb]
    · have hm' : (uptoD (nxc l0) l0.length j).1 j = false := by simpa using hm
      have hs : uptoD (nxc l0) l0.length (j + 1) = walkD (nxc l0) l0.length j (uptoD (nxc l0) l0.length j) := by rw [uptoD_succ, if_neg hm]
      obtain ⟨⟨x2', h1, h2⟩, h3⟩ := walk_ev hok hN hrl l0.length j hjN _ x9 l0.length hm' (cnt_le _ _) hb hN hR
      rw [← hs] at h1 h2 h3
      have h := ih (j + 1) cq2 x2' h1 h3
      have G : Ev (fun k => (smithyref19_walk.f k l0 (j : Int) x9 (zs (uptoD (nxc l0) l0.length j).2)).bind fun bt322 => (smithyref19_Parts.l3 k l0 x4 bt322.2 bt322.1 ((j + 1 : Nat) : Int))) r :=
        Ev.bind (B := fun (bt322 : List Int × List Bool) k => smithyref19_Parts.l3 k l0 x4 bt322.2 bt322.1 ((j + 1 : Nat) : Int)) h2 h
      refine Ev.next G (fun k => ?_)
      rw [smithyref19_Parts.l3, if_pos cq2, if_pos cq2, if_pos (by rw [hR.1]; omega), hx, if_neg hm, w1_ hjb]
theorem parts_l2 (r : List (List Int) × Int) (hcont : ∀ al x4, (∀ a b, a < l0.length → b < l0.length → (al a b = true ↔ Re1 (es l0) a b)) → AL l0 al l0.length x4 → Ev (fun k => smithyref19_Parts.l3 k l0 x4 (List.replicate l0.length false) ([] : List Int) 0) r) :
    ∀ d j, j + d = l0.length → ∀ (al : Nat → Nat → Bool) x4, (∀ a b, a < j → b < l0.length → (al a b = true ↔ Re1 (es l0) a b)) → AL l0 al j x4 → Ev (fun k => smithyref19_Parts.l2 k l0 x4 (j : Int)) r := by
  intro d
  induction d with
  | zero =>
    intro j hj al x4 hal hA
    obtain rfl : j = l0.length := by omega
    refine Ev.next (hcont al x4 hal hA) (fun k => ?_)
    rw [smithyref19_Parts.l2, if_neg cq2, if_pos cq2, if_pos cq2, Int.toNat_natCast]
  | succ d ih =>
    intro j hj al x4 hal hA
    have hjN : j < l0.length := by omega
    have hjb : j ≤ 17592186044416 := by omega
    obtain ⟨x, ⟨hx1, hx2⟩, hx3⟩ := reached_ev hok hN hrl hjN
    have hrdo : ∀ a : Nat, a < j → rd_L16 (x4 ++ [x]) (a : Int) = rd_L16 x4 (a : Int) := fun a ha => by
      unfold rd_L16
      rw [Int.toNat_natCast, qD, qD, List.getElem?_append_left (by rw [hA.1]; exact ha)]
    have hrdn : rd_L16 (x4 ++ [x]) (j : Int) = x := by
      unfold rd_L16
      rw [Int.toNat_natCast, qD, List.getElem?_append_right (by rw [hA.1]; exact Nat.le_refl _), hA.1, Nat.sub_self]; rfl
    have h := ih (j + 1) cq2 (fun a b => if a = j then rdOf false x (b : Int) else al a b) (x4 ++ [x]) (fun a b ha hb => by
      by_cases e : a = j
      · rw [if_pos e, hx2 b hb, e]
      · rw [if_neg e]; exact hal a b cq2 hb) ⟨by rw [List.length_append, hA.1]; rfl, fun v hv => by
      by_cases e : v = j
      · subst e
        rw [hrdn]
        exact ⟨hx1, fun u hu => by show rdOf false x (u : Int) = if v = v then rdOf false x (u : Int) else al v u; rw [if_pos rfl]⟩
      · rw [hrdo v cq2]
        obtain ⟨h1, h2⟩ := hA.2 v cq2
        exact ⟨h1, fun u hu => by show _ = if v = j then rdOf false x (u : Int) else al v u; rw [if_neg e]; exact h2 u hu⟩⟩
    have G : Ev (fun k => (smithyref19_reached.f k l0 (j : Int)).bind fun t312 => (if x4.length < 5864062014805 then (smithyref19_Parts.l2 k l0 (x4 ++ [t312]) ((j + 1 : Nat) : Int)) else (none))) r :=
      Ev.bind (B := fun (t312 : List Bool) k => if x4.length < 5864062014805 then (smithyref19_Parts.l2 k l0 (x4 ++ [t312]) ((j + 1 : Nat) : Int)) else (none)) hx3 (Ev.same h (fun k => if_pos (by rw [hA.1]; omega)))
    refine Ev.next G (fun k => ?_)
    rw [smithyref19_Parts.l2, if_pos cq2, w1_ hjb]
end
theorem net_rows' {l0 : List (List Int)} (h : netOk l0 = true) : l0.length ≤ 5864062014805 ∧ ∀ v, (es l0 v).length ≤ 17592186044416 := by
  unfold netOk at h
  rw [Bool.and_eq_true, decide_eq_true_eq, List.all_eq_true] at h
  refine ⟨h.1, fun v => ?_⟩
  unfold es
  rw [List.length_map, qD]
  cases hv : l0[v]? with
  | none => simp
  | some l => simpa using h.2 l (List.mem_of_getElem? hv)
theorem refParts_ok {l0 : List (List Int)} (hok : okB l0 = true) (hnet : netOk l0 = true) : Ev (fun k => smithyref19_Parts.f k l0) (partsZ l0, 0) := by
  obtain ⟨hN, hrl⟩ := net_rows' hnet
  have hz : (partsZ l0, (0 : Int)) = ([] ++ (partsP cmpN (nxc l0) l0.length).map zs, 0) := rfl
  have h2 : Ev (fun k => smithyref19_Parts.l2 k l0 ([] : List (List Bool)) 0) (partsZ l0, 0) := by
    refine parts_l2 hok hN hrl _ (fun al x4 hal hA => ?_) l0.length 0 cq2 (fun _ _ => false) [] (fun a b ha => absurd ha (Nat.not_lt_zero a)) ⟨rfl, fun v hv => absurd hv (Nat.not_lt_zero v)⟩
    have hc := cnt_le l0.length (fun _ => false)
    refine parts_l3 hok hN hrl al x4 hA _ (fun s es_ hsl => ?_) l0.length 0 cq2 _ (Rb.zero _) (by show 0 + cnt l0.length (fun _ => false) ≤ _; omega)
    have hleft := uptoD_left (nxc_lt hok) l0.length (Nat.le_refl _)
    rw [← es_] at hleft
    have h4 := parts_l4 hok hN hrl al x4 hA s.2 hsl hleft s.2.length 0 cq2 [] (Nat.le_refl _)
    rw [List.drop_zero] at h4
    have hp := parts_ref (cmp := cmpN) cmpN_mem cmpN_lt (nxc_lt hok) (al := al) (fun a b ha hb => by
      rw [hal a b ha hb]
      exact ⟨fun h => h.same (fun v x hx => by unfold nxc; rw [cmpN_mem]; exact hx), fun h => h.same (fun v x hx => by unfold nxc at hx; rw [cmpN_mem] at hx; exact hx)⟩)
    have hld : leftD (nxc l0) l0.length = s.2 := by unfold leftD; rw [es_]
    rw [hld] at hp
    rw [hp, ← hz] at h4
    exact h4
  have hrowl : ∀ v : Nat, (rd_L1 l0 (v : Int)).length = (es l0 v).length := fun v => row_len
  have h0 : ∀ d j, j + d = l0.length → Ev (fun k => smithyref19_Parts.l0 k l0 (j : Int)) (partsZ l0, 0) := by
    intro d
    induction d with
    | zero =>
      intro j hj
      refine Ev.next h2 (fun k => ?_)
      rw [smithyref19_Parts.l0, if_neg cq2]
    | succ d ih =>
      intro j hj
      have hjN : j < l0.length := by omega
      have hjb : j ≤ 17592186044416 := by omega
      have h1 : ∀ e t, t + e = (es l0 j).length → Ev (fun k => smithyref19_Parts.l1 k l0 (j : Int) (t : Int)) (partsZ l0, 0) := by
        intro e
        induction e with
        | zero =>
          intro t ht
          refine Ev.next (ih (j + 1) cq2) (fun k => ?_)
          rw [smithyref19_Parts.l1, if_pos cq2, if_pos cq2, row_len, if_neg cq2, w1_ hjb]
        | succ e ihe =>
          intro t ht
          have htl : t < (es l0 j).length := by omega
          have htb : t ≤ 17592186044416 := by have := hrl j; omega
          obtain ⟨he, hen⟩ := edge_at hok htl
          refine Ev.next (ihe (t + 1) cq2) (fun k => ?_)
          rw [smithyref19_Parts.l1, if_pos cq2, if_pos cq2, row_len, if_pos cq2, if_pos cq2, he, if_neg cq2, if_neg cq2, w1_ htb]
      refine Ev.next (h1 (es l0 j).length 0 cq2) (fun k => ?_)
      rw [smithyref19_Parts.l0, if_pos cq2]
      rfl
  exact Ev.same (h0 l0.length 0 cq2) (fun k => rfl)
theorem refParts_bad {l0 : List (List Int)} (hok : okB l0 = false) (hnet : netOk l0 = true) : Ev (fun k => smithyref19_Parts.f k l0) ([], 4) := by
  obtain ⟨hN, hrl⟩ := net_rows' hnet
  have hbad : ∃ l ∈ l0, ∃ x ∈ l, ¬ (0 ≤ x ∧ x < (l0.length : Int)) := by
    by_cases h : ∃ l ∈ l0, ∃ x ∈ l, ¬ (0 ≤ x ∧ x < (l0.length : Int))
    · exact h
    · exfalso
      have : okB l0 = true := List.all_eq_true.2 (fun l hl => List.all_eq_true.2 (fun x hx => by
        rw [Bool.and_eq_true, decide_eq_true_eq, decide_eq_true_eq]
        by_cases hx2 : 0 ≤ x ∧ x < (l0.length : Int)
        · exact hx2
        · exact absurd ⟨l, hl, x, hx, hx2⟩ h))
      rw [hok] at this
      cases this
  have key : ∀ d j, j + d = l0.length → (∃ l ∈ l0.drop j, ∃ x ∈ l, ¬ (0 ≤ x ∧ x < (l0.length : Int))) → Ev (fun k => smithyref19_Parts.l0 k l0 (j : Int)) ([], 4) := by
    intro d
    induction d with
    | zero =>
      intro j hj h
      rw [List.drop_of_length_le cq2] at h
      obtain ⟨l, hl, _⟩ := h
      cases hl
    | succ d ih =>
      intro j hj h
      have hjN : j < l0.length := by omega
      have hjb : j ≤ 17592186044416 := by omega
      obtain ⟨row, erow⟩ : ∃ row, row = l0.getD j [] := ⟨_, rfl⟩
      have hrd : rd_L1 l0 (j : Int) = row := by rw [row_at, erow]
      have hrow : l0[j] = row := by rw [erow, qD, qE hjN]; rfl
      have hrb : row.length ≤ 17592186044416 := by have := hrl j; unfold es at this; rw [List.length_map, ← erow] at this; exact this
      have h1 : ∀ e t, t + e = row.length → ((∃ x ∈ row.drop t, ¬ (0 ≤ x ∧ x < (l0.length : Int))) ∨ (∃ l ∈ l0.drop (j + 1), ∃ x ∈ l, ¬ (0 ≤ x ∧ x < (l0.length : Int)))) → Ev (fun k => smithyref19_Parts.l1 k l0 (j : Int) (t : Int)) ([], 4) := by
        intro e
        induction e with
        | zero =>
          intro t ht hh
          rw [List.drop_of_length_le cq2] at hh
          have h3 := hh.resolve_left (fun h => by obtain ⟨x, hx, _⟩ := h; cases hx)
          refine Ev.next (ih (j + 1) cq2 h3) (fun k => ?_)
          rw [smithyref19_Parts.l1, if_pos cq2, if_pos cq2, hrd, if_neg cq2, w1_ hjb]
        | succ e ihe =>
          intro t ht hh
          have htl : t < row.length := by omega
          have htb : t ≤ 17592186044416 := by omega
          have hx : rd row (t : Int) = row[t] := by unfold rd; rw [Int.toNat_natCast, qD, qE htl]; rfl
          by_cases h0 : row[t] < 0
          · refine Ev.now (fun k => ?_)
            rw [smithyref19_Parts.l1, if_pos cq2, if_pos cq2, hrd, if_pos cq2, if_pos cq2, hx, if_pos h0]
          · by_cases hN2 : row[t] ≥ (l0.length : Int)
            · refine Ev.now (fun k => ?_)
              rw [smithyref19_Parts.l1, if_pos cq2, if_pos cq2, hrd, if_pos cq2, if_pos cq2, hx, if_neg h0, if_pos hN2]
            · have h4 : (∃ x ∈ row.drop (t + 1), ¬ (0 ≤ x ∧ x < (l0.length : Int))) ∨ (∃ l ∈ l0.drop (j + 1), ∃ x ∈ l, ¬ (0 ≤ x ∧ x < (l0.length : Int))) := by
                rcases hh with ⟨x, hx2, hx3⟩ | h5
                · rw [List.drop_eq_getElem_cons htl, List.mem_cons] at hx2
                  rcases hx2 with h6 | h6
                  · rw [h6] at hx3; exact absurd ⟨by omega, by omega⟩ hx3
                  · exact .inl ⟨x, h6, hx3⟩
                · exact .inr h5
              refine Ev.next (ihe (t + 1) cq2 h4) (fun k => ?_)
              rw [smithyref19_Parts.l1, if_pos cq2, if_pos cq2, hrd, if_pos cq2, if_pos cq2, hx, if_neg h0, if_neg hN2, w1_ htb]
      refine Ev.next (h1 row.length 0 cq2 ?_) (fun k => ?_)
      · rw [List.drop_zero]
        obtain ⟨l, hl, h7⟩ := h
        rw [List.drop_eq_getElem_cons hjN, List.mem_cons] at hl
        rcases hl with h8 | h8
        · rw [h8, hrow] at h7; exact .inl h7
        · exact .inr ⟨l, h8, h7⟩
      · rw [smithyref19_Parts.l0, if_pos cq2]
        rfl
  exact Ev.same (key l0.length 0 cq2 (by rw [List.drop_zero]; exact hbad)) (fun k => rfl)
theorem refParts_ev {l0 : List (List Int)} (hnet : netOk l0 = true) : Ev (fun k => smithyref19_Parts.f k l0) (resP l0) := by
  cases hok : okB l0 with
  | true =>
    have e : resP l0 = (partsZ l0, 0) := by unfold resP; rw [hok]; rfl
    rw [e]; exact refParts_ok hok hnet
  | false =>
    have e : resP l0 = ([], 4) := by unfold resP; rw [hok]; rfl
    rw [e]; exact refParts_bad hok hnet
end Go.Proofs.YtligpleningglaaGreat.Cw
namespace Go.Proofs.YtligpleningglaaGreat.F
open Go.RowKit Go.Proofs.YtligpleningglaaGreatW.PrintWords Go.Proofs.YtligpleningglaaGreatW.PrintLast Go.Proofs.YtligpleningglaaGreatW.PrintMore
attribute [local go_sem] min2_int min_two
def smithylaw19_great.l0 : Nat → List (List Int) → Int → Int → Option (Bool)
  | 0, _, _, _ => none
  | k + 1, x0, x3, x4 => if x4 < (x0.length : Int) then (if x3 ≤ 2400 then (if 0 ≤ x4 then (smithylaw19_great.l0 k x0 (wrap64 (x3 + ((rd_L1 x0 x4).length : Int))) (wrap64 (x4 + 1))) else (none)) else (if (x0.length : Int) > 120 then (some true) else (some (decide (x3 > 2400))))) else (if (x0.length : Int) > 120 then (some true) else (some (decide (x3 > 2400))))
def smithylaw19_great.f (k : Nat) (l0 : List (List Int)) : Option (Bool) := smithylaw19_great.l0 k l0 (l0.length : Int) 0
theorem smithylaw19_great.calls (k : Nat) (A0 : Option Addr) (c0 : Nat) (l0 : List (List Int)) (r : Bool) (w : World) (hr0 : Kd.C (Kd.slice 3 (Kd.int .i64)) w A0 l0.length l0) (hc0 : l0.length ≤ c0) (h : smithylaw19_great.f k l0 = some r) :
    Calls Tryz.prog 4 #[.slice A0 l0.length c0] w fun e w' => e = .returned (.bool r) ∧ Drawn0 w w' := by
 have HR0 := qA hr0
 have HC0 := qA hc0
 clear hr0 hc0
 have H : (smithylaw19_great.l0 k l0 (l0.length : Int) 0) = some r := h
 clear h
 have H' := qA H
 clear H
 go_enter Tryz.func4, Tryz.ntmps4
 go_wp2
 go_loopg [3, 4] k (fun kq v3 v4 w' => ∃ (x3_1 : Int) (x4_1 : Int), v3 = .int .i64 x3_1 ∧ v4 = .int .i64 x4_1 ∧ Aside0 (smithylaw19_great.l0 kq l0 x3_1 x4_1 = some r) ∧ Aside0 (kq ≤ k) ∧ Drawn0 w w')
 case atStart => exact ⟨((l0.length : Int)), (0), cq4, cq4, H', ⟨Nat.le_refl _⟩, by repeat (first | exact Drawn0.refl _ | apply Drawn0.step)⟩
 case round =>
  clear H'
  obtain ⟨x3_1, x4_1, rfl, rfl, HA, HK1, ⟨m1, rfl⟩⟩ := hrel
  cases gk with
  | zero => exact absurd HA.out (by simp [smithylaw19_great.l0])
  | succ k1 =>
   have H := HA.out
   clear HA
   simp only [smithylaw19_great.l0] at H
   by_cases c2 : x4_1 < (l0.length : Int)
   ·
    rw [if_pos c2] at H
    have c2b0 : decide (x4_1 < (l0.length : Int)) = true := decide_eq_true c2
    clear c2
    by_cases c3 : x3_1 ≤ 2400
    ·
     rw [if_pos c3] at H
     have c3b0 : decide (x3_1 ≤ 2400) = true := decide_eq_true c3
     clear c3
     by_cases c4 : 0 ≤ x4_1
     ·
      rw [if_pos c4] at H
      have c4b0 : decide (0 ≤ x4_1) = true := decide_eq_true c4
      clear c4
      have H' := qA H
      clear H
      have p101 : 0 ≤ (x4_1 : Int) := qO cq0
      have q101 : x4_1 < (l0.length : Int) := qO cq0
      obtain ⟨ad101, A101_0, c101_0, e101, hx101_0, hl101_0, hi101_0⟩ := at_L1 HR0.out x4_1 p101 q101
      cases e101
      have HR101_0 := qA hi101_0
      have HC101_0 := qA hl101_0
      clear hi101_0 hl101_0
      replace p101 := eq_true p101
      replace q101 := eq_true q101
      go_wp2
      go_roundg k1
      case measure => have := HK1.out; omega
      case rel => exact ⟨(wrap64 (x3_1 + ((rd_L1 l0 x4_1).length : Int))), (wrap64 (x4_1 + 1)), cq4, cq4, H', ⟨by have := HK1.out; omega⟩, by repeat (first | exact Drawn0.refl _ | apply Drawn0.step)⟩
     ·
      rw [if_neg c4] at H
      exact absurd H cq23
    ·
     rw [if_neg c3] at H
     have c3b0 : decide (x3_1 ≤ 2400) = false := decide_eq_false c3
     clear c3
     by_cases c5 : (l0.length : Int) > 120
     ·
      rw [if_pos c5] at H
      have c5b0 : decide (120 < (l0.length : Int)) = true := decide_eq_true c5
      have c5b1 : decide (120 < l0.length) = true := decide_eq_true cq2
      clear c5
      obtain rfl := Option.some.inj H
      go_wp2
      go_ret
      exact ⟨by first | rfl | (simp; done) | (simp [*]; done), by repeat (first | exact Drawn0.refl _ | apply Drawn0.step)⟩
     ·
      rw [if_neg c5] at H
      have c5b0 : decide (120 < (l0.length : Int)) = false := decide_eq_false c5
      have c5b1 : decide (120 < l0.length) = false := decide_eq_false cq2
      clear c5
      obtain rfl := Option.some.inj H
      go_wp2
      go_ret
      exact ⟨by first | rfl | (simp; done) | (simp [*]; done), by repeat (first | exact Drawn0.refl _ | apply Drawn0.step)⟩
   ·
    rw [if_neg c2] at H
    have c2b0 : decide (x4_1 < (l0.length : Int)) = false := decide_eq_false c2
    clear c2
    by_cases c6 : (l0.length : Int) > 120
    ·
     rw [if_pos c6] at H
     have c6b0 : decide (120 < (l0.length : Int)) = true := decide_eq_true c6
     have c6b1 : decide (120 < l0.length) = true := decide_eq_true cq2
     clear c6
     obtain rfl := Option.some.inj H
     go_wp2
     go_ret
     exact ⟨by first | rfl | (simp; done) | (simp [*]; done), by repeat (first | exact Drawn0.refl _ | apply Drawn0.step)⟩
    ·
     rw [if_neg c6] at H
     have c6b0 : decide (120 < (l0.length : Int)) = false := decide_eq_false c6
     have c6b1 : decide (120 < l0.length) = false := decide_eq_false cq2
     clear c6
     obtain rfl := Option.some.inj H
     go_wp2
     go_ret
     exact ⟨by first | rfl | (simp; done) | (simp [*]; done), by repeat (first | exact Drawn0.refl _ | apply Drawn0.step)⟩
end Go.Proofs.YtligpleningglaaGreat.F
namespace Go.Proofs.YtligpleningglaaGreat.F
open Go.RowKit Go.Proofs.YtligpleningglaaGreatW.PrintWords Go.Proofs.YtligpleningglaaGreatW.PrintLast Go.Proofs.YtligpleningglaaGreatW.PrintMore
attribute [local go_sem] min2_int min_two
mutual
def smithylaw19_wide.l0 : Nat → List (S50) → Int → Int → Option (Bool)
  | 0, _, _, _ => none
  | k + 1, x0, x3, x4 => if x4 < (x0.length : Int) then (smithylaw19_wide.j1 k x0 x3 x4 (decide (x3 ≤ 3600))) else (smithylaw19_wide.j1 k x0 x3 x4 false)
def smithylaw19_wide.j1 : Nat → List (S50) → Int → Int → Bool → Option (Bool)
  | 0, _, _, _, _ => none
  | k + 1, x0, x3, x4, x15 => if x15 = true then (if 0 ≤ x4 then (if x4 < (x0.length : Int) then (smithylaw19_wide.l1 k x0 (wrap64 (x3 + (((rd_T50 x0 x4).f5).length : Int))) x4 0) else (none)) else (none)) else (if (x0.length : Int) > 120 then (some true) else (some (decide (x3 > 3600))))
def smithylaw19_wide.l1 : Nat → List (S50) → Int → Int → Int → Option (Bool)
  | 0, _, _, _, _ => none
  | k + 1, x0, x3, x4, x5 => if 0 ≤ x4 then (if x4 < (x0.length : Int) then (if x5 < (((rd_T50 x0 x4).f5).length : Int) then (if x3 ≤ 3600 then (if 0 ≤ x5 then (smithylaw19_wide.l1 k x0 (wrap64 (x3 + (((rd_T58 ((rd_T50 x0 x4).f5) x5).f0).length : Int))) x4 (wrap64 (x5 + 1))) else (none)) else (smithylaw19_wide.l0 k x0 x3 (wrap64 (x4 + 1)))) else (smithylaw19_wide.l0 k x0 x3 (wrap64 (x4 + 1)))) else (none)) else (none)
end
def smithylaw19_wide.f (k : Nat) (l0 : List (S50)) : Option (Bool) := smithylaw19_wide.l0 k l0 (l0.length : Int) 0
theorem smithylaw19_wide.calls (k : Nat) (A0 : Option Addr) (c0 : Nat) (l0 : List (S50)) (r : Bool) (w : World) (hr0 : Kd.C k50 w A0 l0.length l0) (hc0 : l0.length ≤ c0) (h : smithylaw19_wide.f k l0 = some r) :
    Calls Tryz.prog 5 #[.slice A0 l0.length c0] w fun e w' => e = .returned (.bool r) ∧ Drawn0 w w' := by
 have HR0 := qA hr0
 have HC0 := qA hc0
 clear hr0 hc0
 have H : (smithylaw19_wide.l0 k l0 (l0.length : Int) 0) = some r := h
 clear h
 have H' := qA H
 clear H
 go_enter Tryz.func5, Tryz.ntmps5
 go_wp2
 go_loopg [3, 4] k (fun kq v3 v4 w' => ∃ (x3_1 : Int) (x4_1 : Int), v3 = .int .i64 x3_1 ∧ v4 = .int .i64 x4_1 ∧ Aside0 (smithylaw19_wide.l0 kq l0 x3_1 x4_1 = some r) ∧ Aside0 (kq ≤ k) ∧ Drawn0 w w')
 case atStart => exact ⟨((l0.length : Int)), (0), cq4, cq4, H', ⟨Nat.le_refl _⟩, by repeat (first | exact Drawn0.refl _ | apply Drawn0.step)⟩
 case round =>
  clear H'
  obtain ⟨x3_1, x4_1, rfl, rfl, HA, HK1, ⟨m1, rfl⟩⟩ := hrel
  cases gk with
  | zero => exact absurd HA.out (by simp [smithylaw19_wide.l0])
  | succ k1 =>
   have H := HA.out
   clear HA
   simp only [smithylaw19_wide.l0] at H
   have HC2 := qA H
   clear H
   go_upto_region 3 with (fail)
   go_cut [15] (fun v15 wc => ∃ (kq : Nat) (x15_1 : Bool), v15 = .bool x15_1 ∧ Aside0 (smithylaw19_wide.j1 kq l0 x3_1 x4_1 x15_1 = some r) ∧ Aside0 (kq ≤ k1) ∧ Drawn0 w wc)
   case first =>
    have H := HC2.out
    clear HC2
    by_cases c3 : x4_1 < (l0.length : Int)
    ·
     rw [if_pos c3] at H
     have c3b0 : decide (x4_1 < (l0.length : Int)) = true := decide_eq_true c3
     clear c3
     (first | rw [c3b0] | (simp only [i64_w, i32_w]; rw [c3b0]) | skip)
     have H' := qA H
     clear H
     go_wp2
     go_meet
     case rel => exact ⟨_, (decide (x3_1 ≤ 3600)), cq4, H', ⟨by have := HK1.out; first | omega | exact Nat.le_refl _⟩, by repeat (first | exact Drawn0.refl _ | apply Drawn0.step)⟩
    ·
     rw [if_neg c3] at H
     have c3b0 : decide (x4_1 < (l0.length : Int)) = false := decide_eq_false c3
     clear c3
     (first | rw [c3b0] | (simp only [i64_w, i32_w]; rw [c3b0]) | skip)
     have H' := qA H
     clear H
     go_wp2
     go_meet
     case rel => exact ⟨_, (false), cq4, H', ⟨by have := HK1.out; first | omega | exact Nat.le_refl _⟩, by repeat (first | exact Drawn0.refl _ | apply Drawn0.step)⟩
   case rest =>
    clear HC2
    try clear p2
    try clear c3
    try clear c3b0
    obtain ⟨kq, x15_1, rfl, HA, HJ1, ⟨mc1, rfl⟩⟩ := hcut
    cases kq with
    | zero => exact absurd HA.out (by simp [smithylaw19_wide.j1])
    | succ kj1 =>
     have H := HA.out
     clear HA
     simp only [smithylaw19_wide.j1] at H
     by_cases c4 : x15_1 = true
     ·
      subst c4
      have H1 : (if 0 ≤ x4_1 then (if x4_1 < (l0.length : Int) then (smithylaw19_wide.l1 kj1 l0 (wrap64 (x3_1 + (((rd_T50 l0 x4_1).f5).length : Int))) x4_1 0) else (none)) else (none)) = some r := by rw [if_pos rfl] at H; exact H
      clear H
      have H := H1
      clear H1
      by_cases c5 : 0 ≤ x4_1
      ·
       rw [if_pos c5] at H
       have c5b0 : decide (0 ≤ x4_1) = true := decide_eq_true c5
       clear c5
       by_cases c6 : x4_1 < (l0.length : Int)
       ·
        rw [if_pos c6] at H
        have c6b0 : decide (x4_1 < (l0.length : Int)) = true := decide_eq_true c6
        clear c6
        have H' := qA H
        clear H
        have p102 : 0 ≤ (x4_1 : Int) := qO cq0
        have q102 : x4_1 < (l0.length : Int) := qO cq0
        obtain ⟨ad102, A102_1, c102_1, A102_3, c102_3, A102_4, c102_4, A102_5, c102_5, e102, hx102_0, hx102_1, hx102_2, hx102_3, hx102_4, hx102_5, hl102_1, hi102_1, hl102_3, hi102_3, hl102_4, hi102_4, hl102_5, hi102_5⟩ := at_T50 HR0.out x4_1 p102 q102
        cases e102
        have HR102_1 := qA hi102_1
        have HC102_1 := qA hl102_1
        clear hi102_1 hl102_1
        have HR102_3 := qA hi102_3
        have HC102_3 := qA hl102_3
        clear hi102_3 hl102_3
        have HR102_4 := qA hi102_4
        have HC102_4 := qA hl102_4
        clear hi102_4 hl102_4
        have HR102_5 := qA hi102_5
        have HC102_5 := qA hl102_5
        clear hi102_5 hl102_5
        replace p102 := eq_true p102
        replace q102 := eq_true q102
        go_wp2
        go_loopg [3, 5] kj1 (fun kq v3 v5 w' => ∃ (x3_3 : Int) (x5_3 : Int), v3 = .int .i64 x3_3 ∧ v5 = .int .i64 x5_3 ∧ Aside0 (smithylaw19_wide.l1 kq l0 x3_3 x4_1 x5_3 = some r) ∧ Aside0 (kq ≤ kj1) ∧ Drawn0 w w')
        case atStart => exact ⟨(wrap64 (x3_1 + (((rd_T50 l0 x4_1).f5).length : Int))), (0), cq4, cq4, H', ⟨Nat.le_refl _⟩, by repeat (first | exact Drawn0.refl _ | apply Drawn0.step)⟩
        case round =>
         clear H'
         try clear c1
         try clear p1
         try clear q1
         try clear hx1
         try clear p2
         try clear c3
         try clear c3b0
         try clear c4
         try clear c5
         try clear c5b0
         try clear c6
         try clear c6b0
         try clear p6
         try clear hx102_0
         try clear hx102_1
         try clear hx102_2
         try clear hx102_3
         try clear hx102_4
         try clear hx102_5
         try clear p102
         try clear p2
         try clear q102
         obtain ⟨x3_3, x5_3, rfl, rfl, HA, HK3, ⟨m3, rfl⟩⟩ := hrel
         cases gk with
         | zero => exact absurd HA.out (by simp [smithylaw19_wide.l1])
         | succ k3 =>
          have H := HA.out
          clear HA
          simp only [smithylaw19_wide.l1] at H
          by_cases c7 : 0 ≤ x4_1
          ·
           rw [if_pos c7] at H
           have c7b0 : decide (0 ≤ x4_1) = true := decide_eq_true c7
           clear c7
           by_cases c8 : x4_1 < (l0.length : Int)
           ·
            rw [if_pos c8] at H
            have c8b0 : decide (x4_1 < (l0.length : Int)) = true := decide_eq_true c8
            clear c8
            by_cases c9 : x5_3 < (((rd_T50 l0 x4_1).f5).length : Int)
            ·
             rw [if_pos c9] at H
             have c9b0 : decide (x5_3 < (((rd_T50 l0 x4_1).f5).length : Int)) = true := decide_eq_true c9
             clear c9
             by_cases c10 : x3_3 ≤ 3600
             ·
              rw [if_pos c10] at H
              have c10b0 : decide (x3_3 ≤ 3600) = true := decide_eq_true c10
              clear c10
              by_cases c11 : 0 ≤ x5_3
              ·
               rw [if_pos c11] at H
               have c11b0 : decide (0 ≤ x5_3) = true := decide_eq_true c11
               clear c11
               have H' := qA H
               clear H
               have p103 : 0 ≤ (x4_1 : Int) := qO cq0
               have q103 : x4_1 < (l0.length : Int) := qO cq0
               obtain ⟨ad103, A103_1, c103_1, A103_3, c103_3, A103_4, c103_4, A103_5, c103_5, e103, hx103_0, hx103_1, hx103_2, hx103_3, hx103_4, hx103_5, hl103_1, hi103_1, hl103_3, hi103_3, hl103_4, hi103_4, hl103_5, hi103_5⟩ := at_T50 HR0.out x4_1 p103 q103
               obtain rfl : ad102 = ad103 := (by injection e103)
               have HR103_1 := qA hi103_1
               have HC103_1 := qA hl103_1
               clear hi103_1 hl103_1
               have HR103_3 := qA hi103_3
               have HC103_3 := qA hl103_3
               clear hi103_3 hl103_3
               have HR103_4 := qA hi103_4
               have HC103_4 := qA hl103_4
               clear hi103_4 hl103_4
               have HR103_5 := qA hi103_5
               have HC103_5 := qA hl103_5
               clear hi103_5 hl103_5
               replace p103 := eq_true p103
               replace q103 := eq_true q103
               have p104 : 0 ≤ (x4_1 : Int) := qO cq0
               have q104 : x4_1 < (l0.length : Int) := qO cq0
               obtain ⟨ad104, A104_1, c104_1, A104_3, c104_3, A104_4, c104_4, A104_5, c104_5, e104, hx104_0, hx104_1, hx104_2, hx104_3, hx104_4, hx104_5, hl104_1, hi104_1, hl104_3, hi104_3, hl104_4, hi104_4, hl104_5, hi104_5⟩ := at_T50 HR0.out x4_1 p104 q104
               obtain rfl : ad102 = ad104 := (by injection e104)
               have HR104_1 := qA hi104_1
               have HC104_1 := qA hl104_1
               clear hi104_1 hl104_1
               have HR104_3 := qA hi104_3
               have HC104_3 := qA hl104_3
               clear hi104_3 hl104_3
               have HR104_4 := qA hi104_4
               have HC104_4 := qA hl104_4
               clear hi104_4 hl104_4
               have HR104_5 := qA hi104_5
               have HC104_5 := qA hl104_5
               clear hi104_5 hl104_5
               replace p104 := eq_true p104
               replace q104 := eq_true q104
               have ea_ := Option.some.inj (hx103_1.symm.trans hx104_1)
               injection ea_ with ea_ en_ ec_
               subst ea_
               subst ec_
               clear en_
               have ea_ := Option.some.inj (hx103_3.symm.trans hx104_3)
               injection ea_ with ea_ en_ ec_
               subst ea_
               subst ec_
               clear en_
               have ea_ := Option.some.inj (hx103_4.symm.trans hx104_4)
               injection ea_ with ea_ en_ ec_
               subst ea_
               subst ec_
               clear en_
               have ea_ := Option.some.inj (hx103_5.symm.trans hx104_5)
               injection ea_ with ea_ en_ ec_
               subst ea_
               subst ec_
               clear en_
               have p105 : 0 ≤ (x5_3 : Int) := qO cq0
               have q105 : x5_3 < (((rd_T50 l0 x4_1).f5).length : Int) := qO cq0
               obtain ⟨ad105, A105_0, c105_0, e105, hx105_0, hx105_1, hx105_2, hx105_3, hx105_4, hx105_5, hl105_0, hi105_0⟩ := at_T58 HR104_5.out x5_3 p105 q105
               cases e105
               have HR105_0 := qA hi105_0
               have HC105_0 := qA hl105_0
               clear hi105_0 hl105_0
               replace p105 := eq_true p105
               replace q105 := eq_true q105
               go_wp2
               go_roundg k3
               case measure => have := HK1.out; have := HJ1.out; have := HK3.out; omega
               case rel => exact ⟨(wrap64 (x3_3 + (((rd_T58 ((rd_T50 l0 x4_1).f5) x5_3).f0).length : Int))), (wrap64 (x5_3 + 1)), cq4, cq4, H', ⟨by have := HK1.out; have := HJ1.out; have := HK3.out; omega⟩, by repeat (first | exact Drawn0.refl _ | apply Drawn0.step)⟩
              ·
               rw [if_neg c11] at H
               exact absurd H cq23
             ·
              rw [if_neg c10] at H
              have c10b0 : decide (x3_3 ≤ 3600) = false := decide_eq_false c10
              clear c10
              have H' := qA H
              clear H
              have p103 : 0 ≤ (x4_1 : Int) := qO cq0
              have q103 : x4_1 < (l0.length : Int) := qO cq0
              obtain ⟨ad103, A103_1, c103_1, A103_3, c103_3, A103_4, c103_4, A103_5, c103_5, e103, hx103_0, hx103_1, hx103_2, hx103_3, hx103_4, hx103_5, hl103_1, hi103_1, hl103_3, hi103_3, hl103_4, hi103_4, hl103_5, hi103_5⟩ := at_T50 HR0.out x4_1 p103 q103
              obtain rfl : ad102 = ad103 := (by injection e103)
              have HR103_1 := qA hi103_1
              have HC103_1 := qA hl103_1
              clear hi103_1 hl103_1
              have HR103_3 := qA hi103_3
              have HC103_3 := qA hl103_3
              clear hi103_3 hl103_3
              have HR103_4 := qA hi103_4
              have HC103_4 := qA hl103_4
              clear hi103_4 hl103_4
              have HR103_5 := qA hi103_5
              have HC103_5 := qA hl103_5
              clear hi103_5 hl103_5
              replace p103 := eq_true p103
              replace q103 := eq_true q103
              go_wp2
              go_roundg k3
              case measure => have := HK1.out; have := HJ1.out; have := HK3.out; omega
              case rel => exact ⟨(x3_3), (wrap64 (x4_1 + 1)), cq4, cq4, H', ⟨by have := HK1.out; have := HJ1.out; have := HK3.out; omega⟩, by repeat (first | exact Drawn0.refl _ | apply Drawn0.step)⟩
            ·
             rw [if_neg c9] at H
             have c9b0 : decide (x5_3 < (((rd_T50 l0 x4_1).f5).length : Int)) = false := decide_eq_false c9
             clear c9
             have H' := qA H
             clear H
             have p103 : 0 ≤ (x4_1 : Int) := qO cq0
             have q103 : x4_1 < (l0.length : Int) := qO cq0
             obtain ⟨ad103, A103_1, c103_1, A103_3, c103_3, A103_4, c103_4, A103_5, c103_5, e103, hx103_0, hx103_1, hx103_2, hx103_3, hx103_4, hx103_5, hl103_1, hi103_1, hl103_3, hi103_3, hl103_4, hi103_4, hl103_5, hi103_5⟩ := at_T50 HR0.out x4_1 p103 q103
             obtain rfl : ad102 = ad103 := (by injection e103)
             have HR103_1 := qA hi103_1
             have HC103_1 := qA hl103_1
             clear hi103_1 hl103_1
             have HR103_3 := qA hi103_3
             have HC103_3 := qA hl103_3
             clear hi103_3 hl103_3
             have HR103_4 := qA hi103_4
             have HC103_4 := qA hl103_4
             clear hi103_4 hl103_4
             have HR103_5 := qA hi103_5
             have HC103_5 := qA hl103_5
             clear hi103_5 hl103_5
             replace p103 := eq_true p103
             replace q103 := eq_true q103
             go_wp2
             go_roundg k3
             case measure => have := HK1.out; have := HJ1.out; have := HK3.out; omega
             case rel => exact ⟨(x3_3), (wrap64 (x4_1 + 1)), cq4, cq4, H', ⟨by have := HK1.out; have := HJ1.out; have := HK3.out; omega⟩, by repeat (first | exact Drawn0.refl _ | apply Drawn0.step)⟩
           ·
            rw [if_neg c8] at H
            exact absurd H cq23
          ·
           rw [if_neg c7] at H
           exact absurd H cq23
       ·
        rw [if_neg c6] at H
        exact absurd H cq23
      ·
       rw [if_neg c5] at H
       exact absurd H cq23
     ·
      replace c4 := Bool.eq_false_iff.mpr c4
      subst c4
      have H1 : (if (l0.length : Int) > 120 then (some true) else (some (decide (x3_1 > 3600)))) = some r := by rw [if_neg (show ¬ (false = true) by decide)] at H; exact H
      clear H
      have H := H1
      clear H1
      by_cases c12 : (l0.length : Int) > 120
      ·
       rw [if_pos c12] at H
       have c12b0 : decide (120 < (l0.length : Int)) = true := decide_eq_true c12
       have c12b1 : decide (120 < l0.length) = true := decide_eq_true cq2
       clear c12
       obtain rfl := Option.some.inj H
       go_wp2
       go_ret
       exact ⟨by first | rfl | (simp; done) | (simp [*]; done), by repeat (first | exact Drawn0.refl _ | apply Drawn0.step)⟩
      ·
       rw [if_neg c12] at H
       have c12b0 : decide (120 < (l0.length : Int)) = false := decide_eq_false c12
       have c12b1 : decide (120 < l0.length) = false := decide_eq_false cq2
       clear c12
       obtain rfl := Option.some.inj H
       go_wp2
       go_ret
       exact ⟨by first | rfl | (simp; done) | (simp [*]; done), by repeat (first | exact Drawn0.refl _ | apply Drawn0.step)⟩
end Go.Proofs.YtligpleningglaaGreat.F
namespace Go.Proofs.YtligpleningglaaGreat.Cw
open Go Go.RowKit Go.Proofs.YtligpleningglaaGreat.Tarjan Go.Proofs.YtligpleningglaaGreatW.PrintWords Go.Proofs.YtligpleningglaaGreat.F
def wB (b : S58) : Nat := b.f0.length
def wG (g : S50) : Nat := g.f5.length + (g.f5.map wB).sum
def ProgOk (p : List S50) : Prop := p.length ≤ 17592186044416 ∧ ∀ g ∈ p, g.f5.length ≤ 17592186044416 ∧ ∀ b ∈ g.f5, b.f0.length ≤ 17592186044416
theorem wadd {a b : Nat} (h : a + b ≤ 9000000000000000000) : wrap64 ((a : Int) + (b : Int)) = ((a + b : Nat) : Int) := by unfold wrap64; omega
theorem t42_at {p : List S50} {i : Nat} (hi : i < p.length) : rd_T50 p (i : Int) = p[i] := by
  unfold rd_T50; rw [Int.toNat_natCast, qD, qE hi]; rfl
theorem t64_at {p : List S58} {i : Nat} (hi : i < p.length) : rd_T58 p (i : Int) = p[i] := by
  unfold rd_T58; rw [Int.toNat_natCast, qD, qE hi]; rfl
theorem wide_l1 {p : List S50} (hp : ProgOk p) (i : Nat) (hi : i < p.length)
    (ih : ∀ m : Nat, m ≤ 20000000000000 → ∃ b, Ev (fun k => smithylaw19_wide.l0 k p (m : Int) ((i + 1 : Nat) : Int)) b ∧ (b = false → p.length ≤ 120 ∧ m + ((p.drop (i + 1)).map wG).sum ≤ 3600)) :
    ∀ e j, j + e = p[i].f5.length → ∀ m : Nat, m ≤ 20000000000000 → ∃ b, Ev (fun k => smithylaw19_wide.l1 k p (m : Int) (i : Int) (j : Int)) b ∧ (b = false → p.length ≤ 120 ∧ m + ((p[i].f5.drop j).map wB).sum + ((p.drop (i + 1)).map wG).sum ≤ 3600) := by
  obtain ⟨hb1, hb2⟩ := hp.2 _ (List.getElem_mem hi)
  have hib : i ≤ 17592186044416 := by have := hp.1; omega
  intro e
  induction e with
  | zero =>
    intro j hj m hm
    obtain ⟨b, h1, h2⟩ := ih m hm
    refine ⟨b, Ev.next h1 (fun k => ?_), fun hb => ?_⟩
    · rw [smithylaw19_wide.l1, if_pos cq2, if_pos cq2, t42_at hi, if_neg cq2, w1_ hib]
    · rw [List.drop_of_length_le cq2]
      obtain ⟨h3, h4⟩ := h2 hb
      exact ⟨h3, by simpa using h4⟩
  | succ e ihe =>
    intro j hj m hm
    have hjl : j < p[i].f5.length := by omega
    have hjb : j ≤ 17592186044416 := by omega
    have hd : p[i].f5.drop j = p[i].f5[j] :: p[i].f5.drop (j + 1) := List.drop_eq_getElem_cons hjl
    have hbl := hb2 _ (List.getElem_mem hjl)
    by_cases hm2 : m ≤ 3600
    · obtain ⟨b, h1, h2⟩ := ihe (j + 1) cq2 (m + p[i].f5[j].f0.length) cq2
      refine ⟨b, Ev.next h1 (fun k => ?_), fun hb => ?_⟩
      · rw [smithylaw19_wide.l1, if_pos cq2, if_pos cq2, t42_at hi, if_pos cq2, if_pos cq2, if_pos cq2, t64_at hjl, wadd cq2, w1_ hjb]
      · obtain ⟨h3, h4⟩ := h2 hb
        refine ⟨h3, ?_⟩
        rw [hd, List.map_cons, List.sum_cons]
        show m + (p[i].f5[j].f0.length + _) + _ ≤ 3600
        omega
    · obtain ⟨b, h1, h2⟩ := ih m hm
      refine ⟨b, Ev.next h1 (fun k => ?_), fun hb => ?_⟩
      · rw [smithylaw19_wide.l1, if_pos cq2, if_pos cq2, t42_at hi, if_pos cq2, if_neg cq2, w1_ hib]
      · obtain ⟨h3, h4⟩ := h2 hb
        omega
theorem wide_end {p : List S50} (x4 : Int) (m : Nat) : ∃ b, Ev (fun k => smithylaw19_wide.j1 k p (m : Int) x4 false) b ∧ (b = false → p.length ≤ 120 ∧ m ≤ 3600) := by
  by_cases h : p.length ≤ 120
  · refine ⟨decide ((m : Int) > 3600), Ev.now (fun k => ?_), fun hb => ⟨h, ?_⟩⟩
    · rw [smithylaw19_wide.j1, if_neg cq6, if_neg cq2]
    · have := of_decide_eq_false hb; omega
  · refine ⟨true, Ev.now (fun k => ?_), fun hb => by cases hb⟩
    rw [smithylaw19_wide.j1, if_neg cq6, if_pos cq2]
theorem wide_l0 {p : List S50} (hp : ProgOk p) : ∀ d i, i + d = p.length → ∀ m : Nat, m ≤ 20000000000000 → ∃ b, Ev (fun k => smithylaw19_wide.l0 k p (m : Int) (i : Int)) b ∧ (b = false → p.length ≤ 120 ∧ m + ((p.drop i).map wG).sum ≤ 3600) := by
  intro d
  induction d with
  | zero =>
    intro i hi m hm
    obtain ⟨b, h1, h2⟩ := wide_end (p := p) (i : Int) m
    refine ⟨b, Ev.next h1 (fun k => ?_), fun hb => ?_⟩
    · rw [smithylaw19_wide.l0, if_neg cq2]
    · rw [List.drop_of_length_le cq2]
      obtain ⟨h3, h4⟩ := h2 hb
      exact ⟨h3, by simpa using h4⟩
  | succ d ih =>
    intro i hi m hm
    have hil : i < p.length := by omega
    have hd : p.drop i = p[i] :: p.drop (i + 1) := List.drop_eq_getElem_cons hil
    obtain ⟨hb1, hb2⟩ := hp.2 _ (List.getElem_mem hil)
    by_cases hm2 : m ≤ 3600
    · obtain ⟨b, h1, h2⟩ := wide_l1 hp i hil (fun m hm => ih (i + 1) cq2 m hm) p[i].f5.length 0 cq2 (m + p[i].f5.length) cq2
      refine ⟨b, Ev.next (G := fun k => smithylaw19_wide.j1 k p (m : Int) (i : Int) true) (Ev.next h1 (fun k => ?_)) (fun k => ?_), fun hb => ?_⟩
      · rw [smithylaw19_wide.j1, if_pos rfl, if_pos cq2, if_pos cq2, t42_at hil, wadd cq2]
        rfl
      · rw [smithylaw19_wide.l0, if_pos cq2, decide_eq_true cq2]
      · obtain ⟨h3, h4⟩ := h2 hb
        rw [List.drop_zero] at h4
        refine ⟨h3, ?_⟩
        rw [hd, List.map_cons, List.sum_cons]
        unfold wG at h4 ⊢
        omega
    · obtain ⟨b, h1, h2⟩ := wide_end (p := p) (i : Int) m
      refine ⟨b, Ev.next h1 (fun k => ?_), fun hb => ?_⟩
      · rw [smithylaw19_wide.l0, if_pos cq2, decide_eq_false cq2]
      · obtain ⟨h3, h4⟩ := h2 hb
        omega
theorem sum_mem {α : Type} (f : α → Nat) : ∀ {l : List α} {x : α}, x ∈ l → f x ≤ (l.map f).sum := by
  intro l
  induction l with
  | nil => intro x hx; cases hx
  | cons a l ih =>
    intro x hx
    rw [List.map_cons, List.sum_cons]
    rcases List.mem_cons.1 hx with rfl | h
    · omega
    · have := ih h; omega
theorem refs_len (n : Nat) (g : S50) : (refsG n g).length ≤ wG g := by
  unfold refsG wG
  have : ∀ l : List S58, (l.flatMap (refsB n)).length ≤ (l.map wB).sum := by
    intro l
    induction l with
    | nil => exact Nat.le_refl _
    | cons b l ih =>
      rw [List.flatMap_cons, List.length_append, List.map_cons, List.sum_cons]
      have h1 : (refsB n b).length ≤ wB b := by unfold refsB wB; rw [List.length_map]; exact List.length_filter_le _ _
      omega
  have := this g.f5
  omega
theorem wide_ev {p : List S50} (hp : ProgOk p) : ∃ b, Ev (fun k => smithylaw19_wide.f k p) b ∧ (b = false → callOk p = true) := by
  have := hp.1
  obtain ⟨b, h1, h2⟩ := wide_l0 hp p.length 0 cq2 p.length cq2
  refine ⟨b, Ev.same h1 (fun k => rfl), fun hb => ?_⟩
  obtain ⟨h3, h4⟩ := h2 hb
  rw [List.drop_zero] at h4
  unfold callOk
  rw [Bool.and_eq_true, decide_eq_true_eq, List.all_eq_true]
  refine ⟨by omega, fun g hg => decide_eq_true ?_⟩
  have h5 := refs_len p.length g
  have h6 := sum_mem wG hg
  omega
end Go.Proofs.YtligpleningglaaGreat.Cw
namespace Go.Proofs.YtligpleningglaaGreat.Cw
open Go Go.RowKit Go.Proofs.YtligpleningglaaGreat.Tarjan Go.Proofs.YtligpleningglaaGreatW.PrintWords Go.Proofs.YtligpleningglaaGreatW.PrintLast Go.Proofs.YtligpleningglaaGreatW.PrintMore Go.Proofs.YtligpleningglaaGreat.F
attribute [local go_sem] min2_int min_two
def RL (L : List Int) (k : Nat) : List Int := ((List.range k).filter fun v : Nat => L.contains (v : Int)).map Int.ofNat
theorem RL_yes {L : List Int} {k : Nat} (h : L.contains (k : Int) = true) : RL L (k + 1) = RL L k ++ [(k : Int)] := by
  unfold RL
  rw [List.range_succ, List.filter_append, List.map_append]
  simp only [List.filter_cons, List.filter_nil]
  rw [if_pos h]; rfl
theorem RL_no {L : List Int} {k : Nat} (h : L.contains (k : Int) = false) : RL L (k + 1) = RL L k := by
  unfold RL
  rw [List.range_succ, List.filter_append, List.map_append]
  simp only [List.filter_cons, List.filter_nil]
  rw [if_neg (by rw [h]; decide)]; simp
theorem RL_len (L : List Int) (k : Nat) : (RL L k).length ≤ k := by
  unfold RL
  rw [List.length_map]
  have h := List.length_filter_le (fun v : Nat => L.contains (v : Int)) (List.range k)
  rwa [List.length_range] at h
theorem refsG_in {n : Nat} {g : S50} {x : Int} (hx : x ∈ refsG n g) : 0 ≤ x ∧ x < (n : Int) := by
  unfold refsG at hx
  obtain ⟨b, _, hx⟩ := List.mem_flatMap.1 hx
  unfold refsB at hx
  obtain ⟨y, hy, rfl⟩ := List.mem_map.1 hx
  have h := (List.mem_filter.1 hy).2
  unfold isRef at h
  simp only [Bool.and_eq_true, decide_eq_true_eq] at h
  exact ⟨h.1.2, h.2⟩
theorem RL_all (n : Nat) (g : S50) : RL (refsG n g) n = cmpZ (refsG n g) := by
  rw [cmpZ_up (fun x hx => (refsG_in hx).1)]
  unfold RL
  congr 1
  refine sorted_eq ((range_sorted _).filter _) (cmpN_lt _) (fun x => ?_)
  rw [List.mem_filter, List.mem_range, cmpN_mem, List.mem_map]
  constructor
  · intro h
    exact ⟨(x : Int), List.contains_iff_mem.1 h.2, Int.toNat_natCast x⟩
  · rintro ⟨y, hy, rfl⟩
    have := refsG_in hy
    refine ⟨by omega, List.contains_iff_mem.2 ?_⟩
    rw [Int.toNat_of_nonneg this.1]; exact hy
structure IR (wo w : World) (go N : Nat) (L : List Int) : Prop where
  r : w.rowIs go 4 N (fun v => .bool (L.contains (v : Int)))
  b : Below wo.heap.size wo w
theorem IR.made (wo : World) (N : Nat) : IR wo (wo.alloc (.cells (madeCells #[.bool false] N) 4)) wo.heap.size N [] :=
  ⟨(World.rowIs_made wo (.bool false) N 4).congr (fun _ _ => rfl), below_alloc (Below.refl _ _) _⟩
theorem IR.below {wo w w' : World} {go N : Nat} {L : List Int} (h : IR wo w go N L) (hb : Below w.heap.size w w') : IR wo w' go N L :=
  ⟨h.r.of_block (hb.block _ h.r.lt), h.b.trans (hb.mono h.b.size)⟩
theorem IR.alloc {wo w : World} {go N : Nat} {L : List Int} (h : IR wo w go N L) (o : Obj) : IR wo (w.alloc o) go N L := h.below (below_alloc (Below.refl _ _) o)
theorem IR.put {wo w : World} {go N : Nat} {L : List Int} (h : IR wo w go N L) (hgo : wo.heap.size ≤ go) {y : Nat} : IR wo (w.setCell ⟨go, y, none⟩ (.bool true)) go N (L ++ [(y : Int)]) :=
  ⟨(h.r.set y _).congr (fun j hj => by
    show (if j = y then Value.bool true else Value.bool (L.contains (j : Int))) = Value.bool ((L ++ [(y : Int)]).contains (j : Int))
    have e : (L ++ [(y : Int)]).contains (j : Int) = (L.contains (j : Int) || decide (j = y)) := by
      rw [Bool.eq_iff_iff, Bool.or_eq_true, decide_eq_true_eq, List.contains_iff_mem, List.contains_iff_mem, List.mem_append, List.mem_singleton]
      constructor
      · rintro (h | h)
        · exact .inl h
        · exact .inr cq2
      · rintro (h | h)
        · exact .inl h
        · exact .inr cq2
    rw [e]
    by_cases hj : j = y
    · rw [if_pos hj, decide_eq_true hj, Bool.or_true]
    · rw [if_neg hj, decide_eq_false hj, Bool.or_false]), h.b.setCell hgo _⟩
structure AP (w wo wt wn : World) (go : Nat) (v3 : Value) (A9 : Option Addr) (c9 : Nat) (rows : List (List Int)) (l : List Int) : Prop where
  p : (Kd.slice 3 (Kd.int .i64)).M wn w.heap.size (fun k_ => some k_ = (.slice A9 l.length c9 : Value).ownBlock) l [.slice A9 l.length c9]
  q : ∀ k, some k = (.slice A9 l.length c9 : Value).ownBlock → True ∧ some k ≠ v3.ownBlock
  s : Kd.S (Kd.slice 3 (Kd.int .i64)) 44 wn w.heap.size (fun k => True ∧ ¬ some k = (.slice A9 l.length c9 : Value).ownBlock) v3 rows
  b : Below w.heap.size w wn
  z : w.heap.size ≤ wn.heap.size
theorem AP.mk_ {w wo wt wn : World} {go : Nat} {v3 : Value} {A9 : Option Addr} {c9 : Nat} {rows : List (List Int)} {l : List Int} (hS : Kd.S (Kd.slice 3 (Kd.int .i64)) 44 wo w.heap.size (fun _ => True) v3 rows) (hB : Below w.heap.size w wo) (hb : Below wo.heap.size wo wt) (hb2 : Below (go + 1) wt wn) (hgo : wo.heap.size ≤ go)
    (hR : Kd.R (Kd.int .i64) 3 wn (go + 1) (fun _ => True) (.slice A9 l.length c9) l) : AP w wo wt wn go v3 A9 c9 rows l := by
  have hsz := hB.size
  have hb3 : Below wo.heap.size wo wn := hb.trans (hb2.mono cq2)
  have hBn : Below w.heap.size w wn := hB.trans (hb3.mono hsz)
  refine ⟨Kd.M_row (Kd.R_lower (Kd.R_tight rfl hR) cq2), fun k hk => ⟨trivial, fun e => ?_⟩, ?_, hBn, hBn.size⟩
  · have h1 := Kd.R_base hR k hk.symm
    have h2 := Kd.S_lt hS k e.symm
    omega
  · refine Kd.S_below (Kd.S_mono (Kd.S_bound hS) (fun k hk => ⟨trivial, fun e => ?_⟩)) hb3
    have h1 := Kd.R_base hR k e.symm
    have h2 := hk.2.2.1
    omega
theorem lim_two {n N : Nat} (h : n + 1 ≤ N) (hN : N ≤ 5864062014805) : (n + 1) * 24 ≤ 140737488355328 ∧ (n + 1) * 8 ≤ 140737488355328 := by omega
theorem refCalled_calls (w : World) (A0 : Option Addr) (c0 : Nat) (p : List S50) (hC : Kd.C k50 w A0 p.length p) (hc : p.length ≤ c0) (hok : p.length ≤ 5864062014805) :
    Calls Tryz.prog 18 #[.slice A0 p.length c0] w fun e w' => ∃ v0_ : Value, e = .returned v0_ ∧ Kd.S (Kd.slice 3 (Kd.int .i64)) 44 w' w.heap.size (fun _ => True) v0_ (calledL p) ∧ Below w.heap.size w w' := by
  have HC := qA hC
  obtain ⟨N, eN⟩ : ∃ N, N = p.length := ⟨_, rfl⟩
  have hN' : N ≤ 5864062014805 := by rw [eN]; exact hok
  have EN := qA eN
  have NB := qA (show N ≤ 5864062014805 by omega)
  rw [← eN]
  have HMK := qA (run_make_row' (P := Tryz.prog) 33 4 (.bool false) 1 Tryz.underlying33 info4' rfl .i64 .i64 N cq2 cq2)
  clear hC hc hok hN' eN
  go_enter Tryz.func18, Tryz.ntmps18
  go_wp2
  go_loopw [3, 4] (fun v3 v4 wr => ∃ k : Nat, k ≤ N ∧ v4 = .int .i64 (k : Int) ∧ Aside0 (Kd.S (Kd.slice 3 (Kd.int .i64)) 44 wr w.heap.size (fun _ => True) v3 ((calledL p).take k)) ∧ Aside0 (Below w.heap.size w wr)) (fun _ v4 _ => N - (intOf v4).toNat)
  case atStart => exact ⟨0, Nat.zero_le _, rfl, ⟨Kd.S_nil _ _ _ _ _⟩, ⟨Below.refl _ _⟩⟩
  case round =>
    obtain ⟨k, hk, rfl, HS, HB⟩ := hrel
    obtain ⟨wo, rfl⟩ : ∃ wo : World, wo = wr := ⟨_, rfl⟩
    obtain ⟨rows, hrows⟩ : ∃ rows, rows = (calledL p).take k := ⟨_, rfl⟩
    rw [← hrows] at HS
    obtain ⟨A3, c3, e3⟩ := Kd.S_slice HS.out
    subst e3
    have ROWS := qA hrows
    clear hrows
    by_cases hkN : k < N
    · obtain ⟨q1, q2, q3⟩ := pt_one NB.out hkN
      have hkp : k < p.length := by rw [← EN.out]; exact hkN
      obtain ⟨ad, A1, c1, A3', c3', A4, c4, A5, c5, hA, x0, x1, x2, x3, x4, x5, -, -, -, -, -, -, hc5, hC5⟩ := at_T50 HC.out (k : Int) q1 (by rw [← EN.out]; exact q2)
      subst hA
      obtain ⟨g, hg⟩ : ∃ g, g = p[k] := ⟨_, rfl⟩
      have hrd : rd_T50 p (k : Int) = g := by rw [hg]; unfold rd_T50; rw [Int.toNat_natCast, qD, qE hkp]; rfl
      rw [hrd] at x5 hc5 hC5
      rw [Int.toNat_natCast] at x5
      clear x0 x1 x2 x3 x4
      replace x5 := pw_cell_below HB.out x5
      have X5 := qA x5
      have G := qA hg
      have HC5 := qA hC5
      have M5 := qA (Kd.C_max hC5)
      have Q3 := qA q3
      have hmk := HMK.out
      clear hrd hg hc5 hC5 q3
      go_wp2
      clear x5 hmk
      obtain ⟨go, ego⟩ : ∃ go, go = wo.heap.size := ⟨_, rfl⟩
      have HI0 := qA (show IR wo (wo.alloc (.cells (madeCells #[.bool false] N) 4)) go N [] by rw [ego]; exact IR.made wo N)
      have GO := qA (show wo.heap.size ≤ go by rw [ego]; exact Nat.le_refl _)
      (try simp only [← ego])
      clear ego
      go_loopw [6] (fun v6 wm => ∃ j : Nat, j ≤ g.f5.length ∧ v6 = .int .i64 (j : Int) ∧ Aside0 (IR wo wm go N ((g.f5.take j).flatMap (refsB N)))) (fun v6 _ => g.f5.length - (intOf v6).toNat)
      case atStart => exact ⟨0, Nat.zero_le _, rfl, ⟨by rw [List.take_zero]; exact HI0.out⟩⟩
      case round =>
        clear HI0
        obtain ⟨j, hj, rfl, HI⟩ := hrel
        obtain ⟨wm, rfl⟩ : ∃ wm : World, wm = wr := ⟨_, rfl⟩
        have x5 := pw_cell_below HI.out.b X5.out
        by_cases hjl : j < g.f5.length
        · obtain ⟨r1, r2, r3⟩ := pt_three M5.out hjl
          obtain ⟨bd, B0, b0, hA5, y0, y1, y2, y3, y4, y5, hb0, hB0⟩ := at_T58 HC5.out (j : Int) r1 r2
          subst hA5
          obtain ⟨b, hb⟩ : ∃ b, b = g.f5[j] := ⟨_, rfl⟩
          have hrd : rd_T58 g.f5 (j : Int) = b := by rw [hb]; unfold rd_T58; rw [Int.toNat_natCast, qD, qE hjl]; rfl
          rw [hrd] at y0 hb0 hB0
          rw [Int.toNat_natCast] at y0
          clear y1 y2 y3 y4 y5
          have Y0 := qA (pw_cell_below HB.out y0)
          have B := qA hb
          have HB0 := qA hB0
          have M0 := qA (Kd.C_max hB0)
          have R3 := qA r3
          clear hrd hb hb0 hB0 r3 y0
          go_wp2
          clear x5
          go_loopw [7] (fun v7 wn => ∃ m : Nat, m ≤ b.f0.length ∧ v7 = .int .i64 (m : Int) ∧ Aside0 (IR wo wn go N ((g.f5.take j).flatMap (refsB N) ++ refsTo N b.f0 m))) (fun v7 _ => b.f0.length - (intOf v7).toNat)
          case atStart => exact ⟨0, Nat.zero_le _, rfl, ⟨by rw [refsTo_zero, List.append_nil]; exact HI.out⟩⟩
          case round =>
            clear HI
            obtain ⟨m, hm, rfl, HI⟩ := hrel
            obtain ⟨wn, rfl⟩ : ∃ wn : World, wn = wr := ⟨_, rfl⟩
            have x5 := pw_cell_below HI.out.b X5.out
            have y0 := pw_cell_below HI.out.b Y0.out
            by_cases hml : m < b.f0.length
            · obtain ⟨s1, s2, s3⟩ := pt_three M0.out hml
              obtain ⟨xd, X3, e3, hB, z0, z1, z2, z3, z4, z5, -, -⟩ := at_T75 HB0.out (m : Int) s1 s2
              subst hB
              obtain ⟨x, hx⟩ : ∃ x, x = b.f0[m] := ⟨_, rfl⟩
              have hrd : rd_T75 b.f0 (m : Int) = x := by rw [hx]; unfold rd_T75; rw [Int.toNat_natCast, qD, qE hml]; rfl
              rw [hrd] at z0 z1 z2 z3 z4 z5
              rw [Int.toNat_natCast] at z0 z1 z2 z3 z4 z5
              have HV := qA (HB.out.trans (HI.out.b.mono HB.out.size))
              replace z0 := pw_cell_below HV.out z0
              replace z1 := pw_cell_below HV.out z1
              replace z2 := pw_cell_below HV.out z2
              replace z3 := pw_cell_below HV.out z3
              replace z4 := pw_cell_below HV.out z4
              replace z5 := pw_cell_below HV.out z5
              have X := qA hx
              have S3 := qA s3
              clear hrd hx s3
              by_cases h9 : x.f0 = 9
              · by_cases h0 : 0 ≤ x.f5
                · by_cases hn : x.f5 < (N : Int)
                  · have HR := qA (show isRef N b.f0[m] = true by rw [← X.out]; unfold isRef; simp [h9, h0, hn])
                    obtain ⟨y, hy⟩ := Int.eq_ofNat_of_zero_le h0
                    have hyN : y < N := by omega
                    have hy1 : (0 : Int) ≤ (y : Int) := by omega
                    have hy2 : (y : Int) < (N : Int) := by omega
                    have xo := (HI.out.r.alloc (.cells #[.int .u8 9, .int .u8 x.f1, .int .i64 x.f2, .slice X3 x.f3.length e3, .int .u64 x.f4, .int .i64 (y : Int)] 75)).cell hyN
                    have fo := (HI.out.r.alloc (.cells #[.int .u8 9, .int .u8 x.f1, .int .i64 x.f2, .slice X3 x.f3.length e3, .int .u64 x.f4, .int .i64 (y : Int)] 75)).frozen y
                    have HY := qA hy
                    clear h0 hn
                    go_wp2
                    go_roundw
                    case rel => exact ⟨m + 1, hml, by rw [S3.out], ⟨by
                      rw [refsTo_yes hml HR.out, ← List.append_assoc, ← X.out, HY.out]
                      exact (HI.out.alloc _).put GO.out⟩⟩
                    case measure => rw [S3.out]; exact pt_meas hml
                  · have HR := qA (show isRef N b.f0[m] = false by rw [← X.out]; unfold isRef; simp [hn])
                    go_wp2
                    go_roundw
                    case rel => exact ⟨m + 1, hml, by rw [S3.out], ⟨by rw [refsTo_no hml HR.out]; exact HI.out.alloc _⟩⟩
                    case measure => rw [S3.out]; exact pt_meas hml
                · have HR := qA (show isRef N b.f0[m] = false by rw [← X.out]; unfold isRef; simp [h0])
                  go_wp2
                  go_roundw
                  case rel => exact ⟨m + 1, hml, by rw [S3.out], ⟨by rw [refsTo_no hml HR.out]; exact HI.out.alloc _⟩⟩
                  case measure => rw [S3.out]; exact pt_meas hml
              · have HR := qA (show isRef N b.f0[m] = false by rw [← X.out]; unfold isRef; simp [h9])
                go_wp2
                go_roundw
                case rel => exact ⟨m + 1, hml, by rw [S3.out], ⟨by rw [refsTo_no hml HR.out]; exact HI.out.alloc _⟩⟩
                case measure => rw [S3.out]; exact pt_meas hml
            · obtain rfl := pt_end hm hml
              have hnl : ¬ ((b.f0.length : Int) < (b.f0.length : Int)) := Int.lt_irrefl _
              have r3 := R3.out
              go_wp2
              go_roundw
              case rel => exact ⟨j + 1, hjl, by rw [R3.out], ⟨by rw [refs_next hjl, ← B.out, ← refsTo_all]; exact HI.out⟩⟩
              case measure => rw [R3.out]; exact pt_meas hjl
        · obtain rfl := pt_end hj hjl
          obtain ⟨L, hL⟩ : ∃ L, L = refsG N g := ⟨_, rfl⟩
          have HL := qA hL
          have HI2 := qA (show IR wo wm go N L by have := HI.out; rw [List.take_length] at this; rw [hL]; exact this)
          have hnl : ¬ ((g.f5.length : Int) < (g.f5.length : Int)) := Int.lt_irrefl _
          clear HI hL
          go_wp2
          clear x5 hnl
          go_loopw [9, 10] (fun v9 v10 wn => ∃ t : Nat, t ≤ N ∧ v10 = .int .i64 (t : Int) ∧ Aside0 (Below (go + 1) wm wn) ∧ Aside0 (Kd.R (Kd.int .i64) 3 wn (go + 1) (fun _ => True) v9 (RL L t))) (fun _ v10 _ => N - (intOf v10).toNat)
          case atStart => exact ⟨0, Nat.zero_le _, rfl, ⟨Below.refl _ _⟩, ⟨show Kd.R (Kd.int .i64) 3 wm (go + 1) (fun _ => True) (.slice none 0 0) [] from Kd.R_nil _ _ _ _ _⟩⟩
          case round =>
            obtain ⟨t, ht, rfl, HT, HR⟩ := hrel
            obtain ⟨wn, rfl⟩ : ∃ wn : World, wn = wr := ⟨_, rfl⟩
            obtain ⟨l9, hl9⟩ : ∃ l9, l9 = RL L t := ⟨_, rfl⟩
            rw [← hl9] at HR
            obtain ⟨A9, c9, e9⟩ := Kd.R_slice HR.out
            subst e9
            have L9 := qA hl9
            clear hl9
            by_cases htN : t < N
            · obtain ⟨u1, u2, u3⟩ := pt_one NB.out htN
              have U3 := qA u3
              have RI := qA (HI2.out.r.of_block (HT.out.block go (Nat.lt_succ_self go)))
              have xo := RI.out.cell htN
              clear u3
              cases hct : L.contains (t : Int) with
              | true =>
                rw [hct] at xo
                have HCT := qA hct
                have LM := qA (lim_two (n := l9.length) (by rw [L9.out]; exact Nat.le_trans (Nat.succ_le_succ (RL_len L t)) htN) NB.out)
                have SZ := qA (show go + 1 ≤ wn.heap.size from RI.out.lt)
                go_wp2_with (first
                  | ((with_reducible refine gate_builtin (b := .append) (xs := #[.tmp 85, .tmp 87]) rfl ?_); at_builtin
                     refine Kd.R_append (Kd.int .i64) (w0 := wm) (go + 1) rfl (.tmp 85) (.tmp 87) 44 3 (.int .i64 0) 8 rfl Tryz.underlying44 info3 rfl cq6 cq2 (.slice A9 l9.length c9) l9 (t : Int) [.int .i64 (t : Int)] (fun _ => True) (fun _ => False) rfl rfl rfl (fun _ hk => hk.elim) (fun _ _ => trivial) HR.out HT.out SZ.out LM.out.2 ?_
                     intro v11 w11 ho hb hg hat
                     have HT2 := qA hb
                     have HR2 := qA ho
                     clear ho hb hg hat))
                go_roundw
                case rel => exact ⟨t + 1, htN, by rw [U3.out], HT2, ⟨by rw [RL_yes HCT.out, ← L9.out]; exact HR2.out⟩⟩
                case measure => rw [U3.out]; exact pt_meas htN
              | false =>
                rw [hct] at xo
                have HCT := qA hct
                go_wp2
                go_roundw
                case rel => exact ⟨t + 1, htN, by rw [U3.out], HT, ⟨by rw [RL_no HCT.out, ← L9.out]; exact HR.out⟩⟩
                case measure => rw [U3.out]; exact pt_meas htN
            · obtain rfl := pt_end ht htN
              have hnl : ¬ ((t : Int) < (t : Int)) := Int.lt_irrefl _
              have hlr : rows.length + 1 ≤ t := by rw [ROWS.out, List.length_take]; omega
              have LM := qA (lim_two hlr NB.out)
              have HAP := qA (AP.mk_ (go := go) HS.out HB.out HI2.out.b HT.out GO.out HR.out)
              have E9 := qA (show l9 = cmpZ (refsG t g) by rw [L9.out, HL.out]; exact RL_all t g)
              have q3 := Q3.out
              clear hlr
              go_wp2_with (first
                | ((with_reducible refine gate_builtin (b := .append) (xs := #[.tmp 89, .tmp 91]) rfl ?_); at_builtin
                   refine Kd.S_append (Kd.slice 3 (Kd.int .i64)) (w0 := w) w.heap.size rfl (.tmp 89) (.tmp 91) 22 44 (.slice none 0 0) 24 rfl Tryz.underlying22 info44 rfl cq6 cq2 (.slice A3 rows.length c3) rows l9 [.slice A9 l9.length c9] (fun _ => True) (fun k_ => some k_ = (.slice A9 l9.length c9 : Value).ownBlock) rfl rfl HAP.out.p HAP.out.q (fun _ _ => trivial) HAP.out.s HAP.out.b HAP.out.z LM.out.1 ?_
                   intro v11 w11 ho hb hg hat
                   have HS2 := qA ho
                   have HB2 := qA hb
                   clear ho hb hg hat))
              go_roundw
              case rel => exact ⟨k + 1, hkN, by rw [Q3.out], ⟨by
                rw [called_next hkp, ← G.out, ← EN.out, ← E9.out, ← ROWS.out]
                exact HS2.out⟩, HB2⟩
              case measure => rw [Q3.out]; exact pt_meas hkN
    · obtain rfl := pt_end hk hkN
      have hnl : ¬ ((k : Int) < (k : Int)) := Int.lt_irrefl _
      go_wp2
      go_ret
      refine ⟨_, rfl, ?_, HB.out⟩
      have er : rows = calledL p := by rw [ROWS.out, EN.out, List.take_of_length_le (by rw [called_len]; exact Nat.le_refl _)]
      rw [← er]
      exact HS.out
end Go.Proofs.YtligpleningglaaGreat.Cw
namespace Go.Proofs.YtligpleningglaaGreat.Cw
open Go Go.RowKit Go.Proofs.YtligpleningglaaGreat.Tarjan Go.Proofs.YtligpleningglaaGreatW.PrintWords Go.Proofs.YtligpleningglaaGreat.F
theorem great_ev' {l0 : List (List Int)} (hN : l0.length ≤ 5864062014805) : ∃ b, Ev (fun k => smithylaw19_great.f k l0) b ∧ (b = false → l0.length ≤ 120) := by
  have key : ∀ d (x3 : Int) (j : Nat), j + d = l0.length → ∃ b, Ev (fun k => smithylaw19_great.l0 k l0 x3 (j : Int)) b ∧ (b = false → l0.length ≤ 120) := by
    intro d
    induction d with
    | zero =>
      intro x3 j hj
      refine ⟨if (l0.length : Int) > 120 then true else decide (x3 > 2400), Ev.now (fun k => ?_), fun hb => ?_⟩
      · rw [smithylaw19_great.l0, if_neg cq2]
        split <;> rfl
      · split at hb
        · cases hb
        · omega
    | succ d ih =>
      intro x3 j hj
      by_cases h : x3 ≤ 2400
      · obtain ⟨b, hb, hb2⟩ := ih (wrap64 (x3 + ((rd_L1 l0 (j : Int)).length : Int))) (j + 1) cq2
        refine ⟨b, Ev.next hb (fun k => ?_), hb2⟩
        rw [smithylaw19_great.l0, if_pos cq2, if_pos h, if_pos cq2, w1_ cq2]
      · refine ⟨if (l0.length : Int) > 120 then true else decide (x3 > 2400), Ev.now (fun k => ?_), fun hb => ?_⟩
        · rw [smithylaw19_great.l0, if_pos cq2, if_neg h]
          split <;> rfl
        · split at hb
          · cases hb
          · omega
  exact key l0.length _ 0 cq2
theorem wide_ev' {p : List S50} (hp : ProgOk p) : ∃ b, Ev (fun k => smithylaw19_wide.f k p) b ∧ (b = false → callOk p = true ∧ p.length ≤ 120) := by
  obtain ⟨b, h1, h2⟩ := wide_ev hp
  obtain ⟨b', h1', h2'⟩ := wide_l0 hp p.length 0 cq2 p.length (by have := hp.1; omega)
  obtain ⟨K, hK⟩ := h1
  obtain ⟨K', hK'⟩ := h1'
  have e1 := hK (max K K') cq2
  have e2 := hK' (max K K') cq2
  have e : some b = some b' := by rw [← e1, ← e2]; rfl
  injection e with e
  subst e
  exact ⟨b, ⟨K, hK⟩, fun hb => ⟨h2 hb, (h2' hb).1⟩⟩
theorem resP_le {l0 : List (List Int)} : (resP l0).1.length ≤ l0.length ∧ ∀ x ∈ (resP l0).1, x.length ≤ l0.length := by
  cases hok : okB l0 with
  | false =>
    have e : resP l0 = ([], 4) := by unfold resP; rw [hok]; rfl
    rw [e]
    exact ⟨by simp, fun x hx => by cases hx⟩
  | true =>
    have e : resP l0 = (partsZ l0, 0) := by unfold resP; rw [hok]; rfl
    rw [e]
    have K := parts_ok cmpN_mem (nxc_lt hok)
    have hf := K.flat_len (parts_sorted cmpN_lt)
    have h5 : ∀ Q : List (List Nat), (∀ m ∈ Q, m ≠ []) → Q.length ≤ Q.flatten.length := by
      intro Q
      induction Q with
      | nil => intro _; simp
      | cons m Q ihQ =>
        intro hQ
        have h6 := ihQ (fun x hx => hQ x (List.mem_cons_of_mem _ hx))
        have h7 : 0 < m.length := List.length_pos_iff.2 (hQ m List.mem_cons_self)
        rw [List.flatten_cons, List.length_append, List.length_cons]; omega
    have h6 := h5 _ (fun m hm => (K.sc m hm).1)
    exact ⟨by show (partsZ l0).length ≤ _; unfold partsZ; rw [List.length_map]; omega, fun x hx => parts_small hok hx⟩
theorem getD_le {l : List (List Int)} {m : Nat} (h : ∀ x ∈ l, x.length ≤ m) (i : Nat) : (l.getD i []).length ≤ m := by
  rw [qD]
  cases hx : l[i]? with
  | none => simp
  | some x => exact h x (List.mem_of_getElem? hx)
theorem called_le {p : List S50} (x : List Int) (hx : x ∈ calledL p) : x.length ≤ p.length := by
  unfold calledL at hx
  obtain ⟨g, hg, rfl⟩ := List.mem_map.1 hx
  have hpos : ∀ y ∈ refsG p.length g, 0 ≤ y ∧ y < (p.length : Int) := fun y hy => by
    unfold refsG at hy
    obtain ⟨b, hb, hy⟩ := List.mem_flatMap.1 hy
    unfold refsB at hy
    obtain ⟨z, hz, rfl⟩ := List.mem_map.1 hy
    have := (List.mem_filter.1 hz).2
    unfold isRef at this
    simp only [Bool.and_eq_true, decide_eq_true_eq] at this
    omega
  rw [cmpZ_up (fun y hy => (hpos y hy).1), List.length_map]
  have := parts_len (b := List.range p.length) (cmpN_lt ((refsG p.length g).map Int.toNat)) (fun y hy => by
    rw [cmpN_mem, List.mem_map] at hy
    obtain ⟨z, hz, rfl⟩ := hy
    rw [List.mem_range]
    have := hpos z hz
    omega)
  rw [List.length_range] at this
  exact this
theorem rounds_len (nx : List (List Int)) : ∀ (P : List (List Int)) (o : List Bool), (P.foldl (roundRow nx) o).length = o.length := by
  intro P
  induction P with
  | nil => intro o; rfl
  | cons l P ih => intro o; rw [List.foldl_cons, ih]; unfold roundRow; exact foldl_row_len nx l.length l o
theorem roundL_len (p : List S50) : (roundL p).length = p.length := by unfold roundL; rw [rounds_len, List.length_replicate]
end Go.Proofs.YtligpleningglaaGreat.Cw
namespace Go.Proofs.YtligpleningglaaGreat.Keep
open Go Go.RowKit Go.Proofs.YtligpleningglaaGreatW.PrintWords
section
variable {P : Program} (w : World)
theorem run_append_keep (base : Nat) (t ty e : TypeId) (i : TypeInfo) (z : Value) (size bytes : Nat) (ht : P.underlying t = some (.slice e)) (hi : P.info? e = some i) (hz : i.zero = some z)
    (hsize : i.size = size) (hby : i.bytes = bytes) (hzs : z.cells.size = size) (hsz : 0 < size)
    (v : Value) (n : Nat) (xs : List Value) (hown : w.ownsRow base e size v n xs)
    (a : Addr) (m c : Nat) (news : List Value) (hl : news.length = m * size) (hnews : ∀ j u, news[j]? = some u → w.cell? (a.add j) = some u) (h1 : ∀ u ∈ news, u.oneCell' = true)
    (h63 : n + m ≤ maxLen) (hbytes : (n + m) * bytes ≤ 140737488355328) (hbase : base ≤ w.heap.size) :
    ∃ v' w', (Builtin.append_ #[t, t] ty #[v, .slice (some a) m c]).run P w = .ok v' w' ∧ w'.ownsRow base e size v' (n + m) (xs ++ news) ∧ w.grownBy w' v.ownBlock ∧
      (v'.ownBlock = v.ownBlock ∨ v'.ownBlock = some w.heap.size) ∧ w'.ownsRow base e size v n xs := by
  obtain ⟨v', w', hr, h2, h3, _, h5⟩ := run_append_own_at (P := P) w base t ty e i z size bytes ht hi hz hsize hby hzs hsz v n xs hown a m c news hl hnews h1 h63 hbytes hbase
  refine ⟨v', w', hr, h2, h3, h5, ?_⟩
  have hsmall : n + m ≤ 9223372036854775807 := by simp only [maxLen] at h63; omega
  subst hsize
  subst hby
  rcases hown with ⟨hxl, ⟨rfl, rfl⟩ | ⟨g, cap, cur, rfl, hbg, hg, hnc, hcm, hcs, htake⟩⟩
  · exact ⟨hxl, .inl ⟨rfl, rfl⟩⟩
  · have hlt : g < w.heap.size := (Array.getElem?_eq_some_iff.1 hg).1
    by_cases hroom : n + m ≤ cap
    · have hfit : n * i.size + news.length ≤ cur.size := by rw [hl, hcs, ← Nat.add_mul]; exact Nat.mul_le_mul_right _ hroom
      have hr2 := run_append_room (P := P) w t ty e i ht hi g n cap cur hg a m c news hl hnews h1 hroom hfit
      rw [hr] at hr2
      injection hr2 with e1 e2
      subst e1
      rcases h2.2 with ⟨h6, _⟩ | ⟨g', cap', cur', h6, h7, h8, h9, h10, h11, h12⟩
      · cases h6
      · injection h6 with h6 h6a h6b
        injection h6 with h6
        injection h6 with h6
        subst h6 h6b
        refine ⟨hxl, .inr ⟨g, cap, cur', rfl, hbg, h8, hnc, hcm, h11, ?_⟩⟩
        have : (cur'.toList.take ((n + m) * i.size)).take (n * i.size) = (xs ++ news).take (n * i.size) := by rw [h12]
        rw [List.take_take, Nat.min_eq_left (Nat.mul_le_mul_right _ cq2), ← hxl, List.take_left] at this
        rw [← hxl]; exact this
    · have holds : ∀ j u, xs[j]? = some u → w.cell? ((⟨g, 0, none⟩ : Addr).add j) = some u := World.ownsRow.cells (base := base) (g := g) ⟨hxl, .inr ⟨g, cap, cur, rfl, hbg, hg, hnc, hcm, hcs, htake⟩⟩ rfl
      have hr2 := run_append_grow (P := P) w t ty e i z ht hi hz ⟨g, 0, none⟩ n cap xs hxl holds a m c news hl hnews cq2 cq2 (growslice_fits cq2 hbytes)
      rw [hr] at hr2
      injection hr2 with e1 e2
      refine ⟨hxl, .inr ⟨g, cap, cur, rfl, hbg, ?_, hnc, hcm, hcs, htake⟩⟩
      rw [e2]
      exact (Below.heap_alloc w.drew _ g hlt).trans hg
end
section
variable {P : Program} {ops : Array Oper} {rest : List Oper} {o : Oper} {a : Act} {Q : Exit → Act → World → Prop} {α : Type}
end
end Go.Proofs.YtligpleningglaaGreat.Keep
namespace Go.Proofs.YtligpleningglaaGreat.Keep
open Go Go.RowKit Go.Proofs.YtligpleningglaaGreatW.PrintWords
abbrev nilV : Value := .slice none 0 0
def at_ (vs : List Value) (j : Nat) : Value := vs.getD j nilV
def disj (v u : Value) : Prop := v.ownBlock = none ∨ v.ownBlock ≠ u.ownBlock
theorem disj_nil (u : Value) : disj nilV u := .inl rfl
theorem disj.symm {v u : Value} (h : disj v u) : disj u v := by
  rcases h with h | h
  · by_cases hu : u.ownBlock = none
    · exact .inl hu
    · exact .inr (by rw [h]; exact hu)
  · exact .inr h.symm
section
variable {w w1 : World} {base e sz n m : Nat} {v u g : Value} {xs ys : List Value}
theorem own_grown (h : w.ownsRow base e sz v n xs) (hg : w.grownBy w1 u.ownBlock) (hd : disj v u) : w1.ownsRow base e sz v n xs := h.kept hg (hd.imp id (fun h => h))
theorem own_below' (h : w.ownsRow base e sz v n xs) (hb : Below w.heap.size w w1) : w1.ownsRow base e sz v n xs := pw_own_below h hb
theorem disj_fresh (h : w.ownsRow base e sz v n xs) {b : Nat} (hb : g.ownBlock = some b) (hge : w.heap.size ≤ b) : disj v g := by
  cases hv : v.ownBlock with
  | none => exact .inl hv
  | some q => exact .inr (by rw [hv, hb]; intro e'; injection e' with e'; have := (h.lt q hv).2; omega)
theorem disj_step {r u' : Value} (h7 : u'.ownBlock = v.ownBlock ∨ ∃ b, u'.ownBlock = some b ∧ w.heap.size ≤ b) (hown : w.ownsRow base e sz r n xs) (hd : disj r v) : disj r u' := by
  rcases h7 with h | ⟨b, h, hge⟩
  · rcases hd with h1 | h1
    · exact .inl h1
    · exact .inr (by rw [h]; exact h1)
  · exact disj_fresh hown h hge
theorem own_under (hsz : 0 < sz) (hv : w.ownsRow base e sz v n xs) (hg : w.ownsRow base e sz g m ys) (hb : g.ownBlock = v.ownBlock) (hg1 : w1.ownsRow base e sz g m ys) (hnm : n ≤ m) (hpre : ys.take (n * sz) = xs) : w1.ownsRow base e sz v n xs := by
  rcases hv with ⟨hxl, ⟨rfl, rfl⟩ | ⟨b, cap, cur, rfl, hbb, hh, hnc, hcm, hcs, htake⟩⟩
  · exact ⟨hxl, .inl ⟨rfl, rfl⟩⟩
  · rcases hg with ⟨hyl, ⟨rfl, rfl⟩ | ⟨b', cap', cur', rfl, hbb', hh', hnc', hcm', hcs', htake'⟩⟩
    · simp [Value.ownBlock] at hb
    · have : b' = b := by simpa [Value.ownBlock] using hb
      subst this
      rw [hh] at hh'
      injection hh' with hh'
      injection hh' with hh'
      subst hh'
      have hcap : cap' = cap := Nat.eq_of_mul_eq_mul_right hsz (by rw [← hcs, ← hcs'])
      subst hcap
      rcases hg1 with ⟨_, ⟨h, _⟩ | ⟨b2, cap2, cur2, h2, hbb2, hh2, hnc2, hcm2, hcs2, htake2⟩⟩
      · cases h
      · injection h2 with h2 _ h2b
        injection h2 with h2
        injection h2 with h2
        subst h2 h2b
        refine ⟨hxl, .inr ⟨b', cap', cur2, rfl, hbb2, hh2, hnc, hcm, hcs2, ?_⟩⟩
        rw [← hpre, ← htake2, List.take_take, Nat.min_eq_left (Nat.mul_le_mul_right _ hnm)]
end
theorem row_cell {w : World} {base e G n c : Nat} {m : Nat} {gs : List Value} (h : w.ownsRow base e 1 (.slice (some ⟨G, 0, none⟩) n c) m gs) (k : Nat) (hk : k < gs.length) : ∃ z, w.cell? ⟨G, k, none⟩ = some z :=
  ⟨gs[k], by have := h.cells (g := G) rfl k gs[k] (qE hk); rwa [add_plain] at this⟩
theorem cells_lit1 (w : World) (v : Value) (e : TypeId) : ∀ (j : Nat) (u : Value), [v][j]? = some u → (w.alloc (Obj.cells #[v] e)).cell? ((⟨w.heap.size, 0, none⟩ : Addr).add j) = some u := by
  intro j u h
  cases j with
  | zero => simp at h; subst h; exact (World.ownsRow_lit (e := e) (base := 0) (size := 1) w #[v] 1 (Nat.zero_le _) (by simp [maxLen]) rfl).cells (g := w.heap.size) rfl 0 v rfl
  | succ j => simp at h
def RowsO (w : World) (base e sz : Nat) (vs : List Value) (ns : List Nat) (cs : Nat → List Value) : Prop := ∀ j, j < vs.length → w.ownsRow base e sz (at_ vs j) (ns.getD j 0) (cs j)
def Apart (vs gs : List Value) : Prop := ∀ i j, i ≠ j → disj (at_ vs i) (at_ gs j)
def upd1 (cs : Nat → List Value) (k : Nat) (c : List Value) : Nat → List Value := fun j => if j = k then c else cs j
theorem upd1_same (cs : Nat → List Value) (k : Nat) (c : List Value) : upd1 cs k c k = c := by simp [upd1]
theorem upd1_other {cs : Nat → List Value} {k j : Nat} {c : List Value} (h : j ≠ k) : upd1 cs k c j = cs j := by simp [upd1, h]
section
variable {w w1 : World} {base e sz : Nat} {vs : List Value} {ns : List Nat} {cs : Nat → List Value}
theorem RowsO.below (h : RowsO w base e sz vs ns cs) (hb : Below w.heap.size w w1) : RowsO w1 base e sz vs ns cs := fun j hj => own_below' (h j hj) hb
theorem RowsO.set (h : RowsO w base e sz vs ns cs) {k : Nat} {c : List Value} (ha : Apart vs vs) (hg : w.grownBy w1 (at_ vs k).ownBlock) (hk : w1.ownsRow base e sz (at_ vs k) (ns.getD k 0) c) : RowsO w1 base e sz vs ns (upd1 cs k c) := by
  intro j hj
  by_cases e' : j = k
  · subst e'; rw [upd1_same]; exact hk
  · rw [upd1_other e']; exact own_grown (h j hj) hg (ha j k e')
end
def KQ (w w' : World) (vs : List Value) : Prop := ∀ q, q < w.heap.size → (∀ j, (at_ vs j).ownBlock ≠ some q) → w'.heap[q]? = w.heap[q]?
theorem KQ.refl (w : World) (vs : List Value) : KQ w w vs := fun _ _ _ => rfl
theorem KQ.step {w w1 w2 : World} {vs : List Value} (h : KQ w w1 vs) (hs : w.heap.size ≤ w1.heap.size) {row : Option Nat} (hg : w1.grownBy w2 row) (hr : ∀ q, row = some q → w.heap.size ≤ q ∨ ∃ j, (at_ vs j).ownBlock = some q) : KQ w w2 vs := fun q hq hv => by
  rw [hg.block q cq2 (fun e => by
    rcases hr q e.symm with h1 | ⟨j, h1⟩
    · omega
    · exact hv j h1)]
  exact h q hq hv
theorem KQ.below {w w1 w2 : World} {vs : List Value} (h : KQ w w1 vs) (hs : w.heap.size ≤ w1.heap.size) (hb : Below w1.heap.size w1 w2) : KQ w w2 vs := fun q hq hv => by
  rw [hb.block q cq2]; exact h q hq hv
section
variable {P : Program} {ops : Array Oper} {rest : List Oper} {o : Oper} {a : Act} {Q : Exit → Act → World → Prop}
theorem O_append_keep {w0 W : World} (base : Nat) (hgd : o.guard = none) (s x : Operand) (t e : TypeId) (z : Value) (size bytes : Nat)
    (ho : o.op = .call { callee := .builtin .append, args := #[s, x], argTypes := #[t, t] })
    (ht : P.underlying t = some (.slice e)) (hinfo : (P.info? e).map (fun i => (i.zero, i.size, i.bytes)) = some (some z, size, bytes)) (hz : z.cells.size = size) (hs0 : 0 < size) (hb0 : 0 < bytes)
    (v : Value) (n : Nat) (xs : List Value) (m c : Nat) (news : List Value) (ad : Addr) (hs : a.eval s = v) (hx : a.eval x = .slice (some ad) m c)
    (hlen : news.length = m * size) (hcells : ∀ j u, news[j]? = some u → W.cell? (ad.add j) = some u) (hone : ∀ u ∈ news, u.oneCell' = true)
    (HO : W.ownsRow base e size v n xs) (HB : Below base w0 W) (hbase : base ≤ W.heap.size) (hl : (n + m) * bytes ≤ 140737488355328)
    (h : ∀ v1 w1, w1.ownsRow base e size v1 (n + m) (xs ++ news) → w1.ownsRow base e size v n xs → Below base w0 w1 → W.grownBy w1 v.ownBlock → (v1.ownBlock = v.ownBlock ∨ v1.ownBlock = some W.heap.size) → wpList P ops Q rest (a.put o.dst v1) w1) :
    wpList P ops Q (o :: rest) a W := by
  obtain ⟨i0, hi, hzz⟩ := Option.map_eq_some_iff.1 hinfo
  simp only [Prod.mk.injEq] at hzz
  obtain ⟨hz0, hz1, hz2⟩ := hzz
  have hle : n + m ≤ 140737488355328 := Nat.le_trans (Nat.le_mul_of_pos_right _ hb0) hl
  obtain ⟨v1, w1, hrun, h2, h3, h5, h6⟩ := run_append_keep (P := P) W base t o.type e i0 z size bytes ht hi hz0 hz1 hz2 hz hs0 v n xs HO ad m c news hlen hcells hone cq35 hl hbase
  refine wpList_plain hgd fun K hK => ?_
  unfold Oper.wp execOp
  simp only [ho, resolve, invoke, builtin, Sem.run_bind, Sem.run_pure, Result.andThen_ok, List.map_toArray, List.map_cons, List.map_nil, hs, hx, hrun]
  exact hK _ _ (h v1 w1 h2 h6 (HB.grown h3 hbase (own_base HO)) h3 h5)
end
end Go.Proofs.YtligpleningglaaGreat.Keep
namespace Go.Proofs.YtligpleningglaaGreat.Lk
open Go Go.RowKit Go.Proofs.YtligpleningglaaGreatW.PrintWords Go.Proofs.YtligpleningglaaGreatW.PrintLast Go.Proofs.YtligpleningglaaGreatW.PrintMore
section
variable {α β γ : Type}
def hid (e : Nat) (d : Kd β) (len : α → Nat) (full : α → List β) : Kd α where
  sz := 1
  E := e :: d.E
  K := fun w x cs => ∃ A c, cs = [.slice A (len x) c] ∧ len x ≤ (full x).length ∧ (full x).length ≤ c ∧ Kd.C d w A (full x).length (full x)
  M := fun w base ok x cs => ∃ A c, cs = [.slice A (len x) c] ∧ len x ≤ (full x).length ∧ Kd.S d e w base ok (.slice A (full x).length c) (full x)
  K_len := by
    rintro w x cs ⟨A, c, rfl, _⟩
    rfl
  K_one := by
    rintro w x cs ⟨A, c, rfl, _⟩ u hu
    rw [List.mem_singleton.1 hu]
    rfl
  K_below := by
    rintro w w1 x cs hb ⟨A, c, rfl, h1, h2, h3⟩
    exact ⟨A, c, rfl, h1, h2, Kd.C_below h3 hb⟩
  K_of_M := by
    rintro w base ok x cs ⟨A, c, rfl, h1, h2⟩
    obtain ⟨_, h4, h5⟩ := Kd.R_reads' (Kd.S_R h2)
    exact ⟨A, c, rfl, h1, h4, h5⟩
  M_mono := by
    rintro w base ok ok' x cs hok ⟨A, c, rfl, h1, h2⟩
    exact ⟨A, c, rfl, h1, Kd.S_mono h2 hok⟩
  M_bound := by
    rintro w base ok x cs ⟨A, c, rfl, h1, h2⟩
    exact ⟨A, c, rfl, h1, Kd.S_bound h2⟩
  M_move := by
    rintro w w1 base ok x cs hm ⟨A, c, rfl, h1, h2⟩
    exact ⟨A, c, rfl, h1, Kd.S_move h2 hm⟩
  M_lower := by
    rintro w base base' ok x cs hb ⟨A, c, rfl, h1, h2⟩
    exact ⟨A, c, rfl, h1, Kd.S_lower h2 hb⟩
def alt (a b : Kd α) (hs : b.sz = a.sz) : Kd (Bool × α) where
  sz := a.sz
  E := a.E ++ b.E
  K := fun w x cs => (x.1 = true ∧ a.K w x.2 cs) ∨ (x.1 = false ∧ b.K w x.2 cs)
  M := fun w base ok x cs => (x.1 = true ∧ a.M w base ok x.2 cs) ∨ (x.1 = false ∧ b.M w base ok x.2 cs)
  K_len := by
    rintro w x cs (⟨_, h⟩ | ⟨_, h⟩)
    · exact a.K_len h
    · rw [b.K_len h, hs]
  K_one := by
    rintro w x cs (⟨_, h⟩ | ⟨_, h⟩)
    · exact a.K_one h
    · exact b.K_one h
  K_below := by
    rintro w w1 x cs hb (⟨e, h⟩ | ⟨e, h⟩)
    · exact .inl ⟨e, a.K_below hb h⟩
    · exact .inr ⟨e, b.K_below hb h⟩
  K_of_M := by
    rintro w base ok x cs (⟨e, h⟩ | ⟨e, h⟩)
    · exact .inl ⟨e, a.K_of_M h⟩
    · exact .inr ⟨e, b.K_of_M h⟩
  M_mono := by
    rintro w base ok ok' x cs hok (⟨e, h⟩ | ⟨e, h⟩)
    · exact .inl ⟨e, a.M_mono hok h⟩
    · exact .inr ⟨e, b.M_mono hok h⟩
  M_bound := by
    rintro w base ok x cs (⟨e, h⟩ | ⟨e, h⟩)
    · refine .inl ⟨e, a.M_mono ?_ (a.M_bound h)⟩
      rintro k ⟨h2, h3, h4, q, hq, hc⟩
      exact ⟨h2, h3, h4, q, List.mem_append_left _ hq, hc⟩
    · refine .inr ⟨e, b.M_mono ?_ (b.M_bound h)⟩
      rintro k ⟨h2, h3, h4, q, hq, hc⟩
      exact ⟨h2, h3, h4, q, List.mem_append_right _ hq, hc⟩
  M_move := by
    rintro w w1 base ok x cs hm (⟨e, h⟩ | ⟨e, h⟩)
    · exact .inl ⟨e, a.M_move hm h⟩
    · exact .inr ⟨e, b.M_move hm h⟩
  M_lower := by
    rintro w base base' ok x cs hb (⟨e, h⟩ | ⟨e, h⟩)
    · exact .inl ⟨e, a.M_lower hb h⟩
    · exact .inr ⟨e, b.M_lower hb h⟩
def pairs {δ ε : Type} (a : Kd δ) (b : Kd ε) : Kd (δ × ε) where
  sz := a.sz + b.sz
  E := a.E ++ b.E
  K := fun w x cs => ∃ c0 c1, cs = c0 ++ c1 ∧ a.K w x.1 c0 ∧ b.K w x.2 c1
  M := fun w base ok x cs => ∃ (p : Nat → Prop) (c0 c1 : List Value), cs = c0 ++ c1 ∧ a.M w base (fun k => ok k ∧ p k) x.1 c0 ∧ b.M w base (fun k => ok k ∧ ¬ p k) x.2 c1
  K_len := by
    rintro w x cs ⟨c0, c1, rfl, h0, h1⟩
    rw [List.length_append, a.K_len h0, b.K_len h1]
  K_one := by
    rintro w x cs ⟨c0, c1, rfl, h0, h1⟩ u hu
    rcases List.mem_append.1 hu with hu | hu
    · exact a.K_one h0 u hu
    · exact b.K_one h1 u hu
  K_below := by
    rintro w w1 x cs hb ⟨c0, c1, rfl, h0, h1⟩
    exact ⟨c0, c1, rfl, a.K_below hb h0, b.K_below hb h1⟩
  K_of_M := by
    rintro w base ok x cs ⟨p, c0, c1, rfl, h0, h1⟩
    exact ⟨c0, c1, rfl, a.K_of_M h0, b.K_of_M h1⟩
  M_mono := by
    rintro w base ok ok' x cs hok ⟨p, c0, c1, rfl, h0, h1⟩
    exact ⟨p, c0, c1, rfl, a.M_mono (fun k hk => ⟨hok k hk.1, hk.2⟩) h0, b.M_mono (fun k hk => ⟨hok k hk.1, hk.2⟩) h1⟩
  M_bound := by
    rintro w base ok x cs ⟨p, c0, c1, rfl, h0, h1⟩
    refine ⟨p, c0, c1, rfl, a.M_mono ?_ (a.M_bound h0), b.M_mono ?_ (b.M_bound h1)⟩
    · rintro k ⟨h2, h3, h4, q, hq, hc⟩
      exact ⟨⟨h2.1, h3, h4, q, List.mem_append_left _ hq, hc⟩, h2.2⟩
    · rintro k ⟨h2, h3, h4, q, hq, hc⟩
      exact ⟨⟨h2.1, h3, h4, q, List.mem_append_right _ hq, hc⟩, h2.2⟩
  M_move := by
    rintro w w1 base ok x cs hm ⟨p, c0, c1, rfl, h0, h1⟩
    exact ⟨p, c0, c1, rfl, a.M_move (fun k hk => hm k hk.1) h0, b.M_move (fun k hk => hm k hk.1) h1⟩
  M_lower := by
    rintro w base base' ok x cs hb ⟨p, c0, c1, rfl, h0, h1⟩
    exact ⟨p, c0, c1, rfl, a.M_lower hb h0, b.M_lower hb h1⟩
def mks (g : Int → α) (m : Nat) : List α := (List.range m).map fun (i : Nat) => g (i : Int)
theorem mks_len (g : Int → α) (m : Nat) : (mks g m).length = m := by simp [mks]
theorem mks_succ (g : Int → α) (m : Nat) : mks g (m + 1) = mks g m ++ [g (m : Int)] := by unfold mks; rw [List.range_succ, List.map_append]; rfl
theorem mks_at (g : Int → α) {m j : Nat} (h : j < m) : (mks g m)[j]? = some (g (j : Int)) := by unfold mks; rw [List.getElem?_map, List.getElem?_range h]; rfl
theorem app_lo {l r : List α} {j : Nat} (h : j < l.length) : (l ++ r)[j]? = some l[j] := by rw [List.getElem?_append_left h, qE h]
theorem app_mks {l : List α} {g : Int → α} {m j : Nat} (h : l.length ≤ j) (h2 : j < l.length + m) : (l ++ mks g m)[j]? = some (g ((j : Int) - (l.length : Int))) := by
  rw [List.getElem?_append_right h, mks_at g cq2]
  congr 2; omega
theorem S_of_R {d : Kd α} {e base : Nat} {w : World} {ok : Nat → Prop} {v : Value} {xs : List α} (hE : d.E = []) (h : d.R e w base ok v xs) : Kd.S d e w base ok v xs := by
  obtain ⟨h0, inner, ho, hr⟩ := h
  refine ⟨fun _ => 0, h0, inner, by rw [List.length_zipIdx]; exact ho, by rw [List.length_zipIdx]; exact hr.1, fun j p hj => ?_⟩
  rw [List.getElem?_zipIdx, Nat.zero_add] at hj
  obtain ⟨x, hx, rfl⟩ := Option.map_eq_some_iff.1 hj
  exact d.M_mono (fun k hk => by obtain ⟨_, _, _, q, hq, _⟩ := hk; rw [hE] at hq; cases hq) (d.M_bound (hr.2 j x hx))
theorem M_of_below {d : Kd α} {base : Nat} {w w1 : World} {ok : Nat → Prop} {x : α} {cs : List Value} (h : d.M w base ok x cs) (hb : Below w.heap.size w w1) : d.M w1 base ok x cs := Kd.M_below h hb
def both (l m : List α) : List (Bool × α) := l.map (fun x => (true, x)) ++ m.map (fun x => (false, x))
theorem both_len (l m : List α) : (both l m).length = l.length + m.length := by simp [both]
theorem both_snoc_l (l : List α) (x : α) : both (l ++ [x]) [] = both l [] ++ [(true, x)] := by simp [both]
theorem both_snoc_r (l m : List α) (x : α) : both l (m ++ [x]) = both l m ++ [(false, x)] := by simp [both]
theorem both_lo {l m : List α} {j : Nat} (h : j < l.length) : (both l m)[j]? = some (true, l[j]) := by
  unfold both
  rw [List.getElem?_append_left (by simpa using h), List.getElem?_map, qE h]; rfl
theorem both_hi {l m : List α} {j : Nat} (h : l.length ≤ j) (h2 : j < l.length + m.length) : (both l m)[j]? = some (false, m[j - l.length]'cq2) := by
  unfold both
  rw [List.getElem?_append_right (by simpa using h), List.getElem?_map, List.length_map, qE cq2]; rfl
end
end Go.Proofs.YtligpleningglaaGreat.Lk
namespace Go.Proofs.YtligpleningglaaGreat.F
open Go.RowKit Go.Proofs.YtligpleningglaaGreatW.PrintWords Go.Proofs.YtligpleningglaaGreatW.PrintLast Go.Proofs.YtligpleningglaaGreatW.PrintMore
attribute [local go_sem] min2_int min_two
def smithykit_mark.f (a0 : Int) (a1 : Int) : Option (Int) := some (wrap64 ((wrap64 (1000003 * (wrap64 (a0 + 7)))) + a1))
theorem smithykit_mark.calls (a0 : Int) (a1 : Int) (r : Int) (w : World) (h : smithykit_mark.f a0 a1 = some r) :
    Calls Tryz.prog 24 #[.int .i64 a0, .int .i64 a1] w fun e w' => e = .returned (.int .i64 r) ∧ Drawn0 w w' := by
 have H : (some (wrap64 ((wrap64 (1000003 * (wrap64 (a0 + 7)))) + a1))) = some r := h
 clear h
 obtain rfl := Option.some.inj H
 go_enter Tryz.func24, Tryz.ntmps24
 go_wp2
 go_ret
 exact ⟨by first | rfl | (simp; done) | (simp [*]; done), by repeat (first | exact Drawn0.refl _ | apply Drawn0.step)⟩
end Go.Proofs.YtligpleningglaaGreat.F
