/- The document's Parts, told plainly: what is reached, the walk, the parts; fuel that is enough. -/
import Derived.Test.YtligpleningglaaRe
import Derived.Test.YtligpleningglaaFxf3
import Derived.Test.YtligpleningglaaOg
namespace Go.Proofs.Ytligpleningglaa.Cw
open Go Go.RowKit Go.Proofs.Ytligpleningglaa.Tarjan Go.Proofs.YtligpleningglaaW.PrintWords Go.Proofs.Ytligpleningglaa.F
set_option linter.unusedVariables false
set_option linter.unusedSectionVars false
set_option linter.unusedSimpArgs false
theorem wm_ {k : Nat} (h : k ≤ 17592186044416) : wrap64 (((k + 1 : Nat) : Int) - 1) = (k : Int) := w0_' h
where w0_' {k : Nat} (h : k ≤ 17592186044416) : wrap64 (((k + 1 : Nat) : Int) - 1) = (k : Int) := by unfold wrap64; omega
theorem has_ev (l : List Int) (x : Int) (hl : l.length ≤ 17592186044416) : Ev (fun k => smithyref19_has.f k l x) (l.contains x) := by
  have key : ∀ d j, j + d = l.length → Ev (fun k => smithyref19_has.l0 k l x (j : Int)) ((l.drop j).contains x) := by
    intro d
    induction d with
    | zero =>
      intro j hj
      rw [List.drop_of_length_le (by omega)]
      refine Ev.now (fun k => ?_)
      rw [smithyref19_has.l0, if_neg (by omega)]
      rfl
    | succ d ih =>
      intro j hj
      have hjl : j < l.length := by omega
      have hr : rd l (j : Int) = l[j] := by unfold rd; rw [Int.toNat_natCast, List.getD_eq_getElem?_getD, List.getElem?_eq_getElem hjl]; rfl
      rw [List.drop_eq_getElem_cons hjl, List.contains_cons]
      by_cases e : l[j] = x
      · have hb : (x == l[j]) = true := by simpa using e.symm
        rw [hb, Bool.true_or]
        refine Ev.now (fun k => ?_)
        rw [smithyref19_has.l0, if_pos (by omega), if_pos (by omega), hr, if_pos e]
      · have hb : (x == l[j]) = false := by simpa using fun h => e h.symm
        rw [hb, Bool.false_or]
        refine Ev.next (ih (j + 1) (by omega)) (fun k => ?_)
        rw [smithyref19_has.l0, if_pos (by omega), if_pos (by omega), hr, if_neg e, w1_ (by omega)]
  have := key l.length 0 (by omega)
  rw [List.drop_zero] at this
  exact this
theorem sameInts_ev (l : List Int) (hl : l.length ≤ 17592186044416) : Ev (fun k => smithykit_SameInts.f k l l) true := by
  have key : ∀ d j, j + d = l.length → Ev (fun k => smithykit_SameInts.l0 k l l (j : Int)) true := by
    intro d
    induction d with
    | zero =>
      intro j hj
      refine Ev.now (fun k => ?_)
      rw [smithykit_SameInts.l0, if_neg (by omega)]
    | succ d ih =>
      intro j hj
      refine Ev.next (ih (j + 1) (by omega)) (fun k => ?_)
      rw [smithykit_SameInts.l0, if_pos (by omega), if_pos (by omega), if_pos (by omega), if_pos rfl, w1_ (by omega)]
  exact Ev.same (key l.length 0 (by omega)) (fun k => by unfold smithykit_SameInts.f; rw [if_pos rfl]; rfl)
theorem sameRows_ev (l : List (List Int)) (hl : l.length ≤ 17592186044416) (hr : ∀ v : Nat, (rd_L1 l (v : Int)).length ≤ 17592186044416) : Ev (fun k => smithykit_SameRows.f k l l) true := by
  have key : ∀ d j, j + d = l.length → Ev (fun k => smithykit_SameRows.l0 k l l (j : Int)) true := by
    intro d
    induction d with
    | zero =>
      intro j hj
      refine Ev.now (fun k => ?_)
      rw [smithykit_SameRows.l0, if_neg (by omega)]
    | succ d ih =>
      intro j hj
      have G : Ev (fun k => (smithykit_SameInts.f k (rd_L1 l (j : Int)) (rd_L1 l (j : Int))).bind fun t243 => (if t243 = true then (smithykit_SameRows.l0 k l l ((j + 1 : Nat) : Int)) else (some false))) true :=
        Ev.bind (B := fun (t243 : Bool) k => if t243 = true then (smithykit_SameRows.l0 k l l ((j + 1 : Nat) : Int)) else (some false)) (sameInts_ev _ (hr j)) (Ev.same (ih (j + 1) (by omega)) (fun k => if_pos rfl))
      refine Ev.next G (fun k => ?_)
      rw [smithykit_SameRows.l0, if_pos (by omega), if_pos (by omega), if_pos (by omega), w1_ (by omega)]
  exact Ev.same (key l.length 0 (by omega)) (fun k => by unfold smithykit_SameRows.f; rw [if_pos rfl]; rfl)
/-- what a row of truths says. -/
def Rb (N : Nat) (m : Nat → Bool) (x : List Bool) : Prop := x.length = N ∧ ∀ v, v < N → rdOf false x (v : Int) = m v
theorem rdOf_set {x : List Bool} {k : Nat} {y : Bool} (hk : k < x.length) (v : Nat) : rdOf false (x.set ((k : Nat) : Int).toNat y) (v : Int) = if v = k then y else rdOf false x (v : Int) := by
  unfold rdOf
  rw [Int.toNat_natCast, Int.toNat_natCast, List.getD_eq_getElem?_getD, List.getD_eq_getElem?_getD]
  by_cases e : v = k
  · subst e; rw [if_pos rfl, List.getElem?_set_self hk]; rfl
  · rw [if_neg e, List.getElem?_set_ne (fun h => e h.symm)]
theorem Rb.put {N : Nat} {m : Nat → Bool} {x : List Bool} (h : Rb N m x) {k : Nat} (hk : k < N) : Rb N (upB m k) (x.set ((k : Nat) : Int).toNat true) :=
  ⟨by rw [List.length_set]; exact h.1, fun v hv => by
    rw [rdOf_set (by rw [h.1]; exact hk)]
    unfold upB
    by_cases e : v = k
    · rw [if_pos e, if_pos e]
    · rw [if_neg e, if_neg e]; exact h.2 v hv⟩
theorem Rb.zero (N : Nat) : Rb N (fun _ => false) (List.replicate N false) := ⟨List.length_replicate, fun v hv => by
  unfold rdOf
  rw [Int.toNat_natCast, List.getD_eq_getElem?_getD, List.getElem?_replicate, if_pos hv]; rfl⟩
def zs (l : List Nat) : List Int := l.map fun v : Nat => (v : Int)
theorem zs_len (l : List Nat) : (zs l).length = l.length := List.length_map ..
section
variable {l0 : List (List Int)} (hok : okB l0 = true) (hN : l0.length ≤ 5864062014805) (hrl : ∀ v, (es l0 v).length ≤ 17592186044416)
include hok hN hrl
theorem reached_l1 (g : (Nat → Bool) × List Nat → Nat → Bool) (i : Nat) (hi : i < l0.length) :
    ∀ d j, j + d = (es l0 i).length → ∀ (m : Nat → Bool) (w : List Nat) (x5 : List Bool), Rb l0.length m x5 → cnt l0.length m + w.length ≤ l0.length + 1 →
    (∀ x5', Rb l0.length (((es l0 i).drop j).foldl seeR (m, w)).1 x5' → ∃ x, Rb l0.length (g (((es l0 i).drop j).foldl seeR (m, w))) x ∧ Ev (fun k => smithyref19_reached.l0 k l0 x5' (zs (((es l0 i).drop j).foldl seeR (m, w)).2)) x) →
    ∃ x, Rb l0.length (g (((es l0 i).drop j).foldl seeR (m, w))) x ∧ Ev (fun k => smithyref19_reached.l1 k l0 x5 (zs w) (i : Int) (j : Int)) x := by
  intro d
  induction d with
  | zero =>
    intro j hj m w x5 hR hc hcont
    have hd : (es l0 i).drop j = [] := List.drop_of_length_le (by omega)
    rw [hd] at hcont ⊢
    obtain ⟨x, h1, h2⟩ := hcont x5 hR
    refine ⟨x, h1, Ev.next h2 (fun k => ?_)⟩
    rw [smithyref19_reached.l1, if_pos (by omega), if_pos (by omega), row_len, if_neg (by omega)]
    rfl
  | succ d ih =>
    intro j hj m w x5 hR hc hcont
    have hjl : j < (es l0 i).length := by omega
    have hjb : j ≤ 17592186044416 := by have := hrl i; omega
    obtain ⟨he, hen⟩ := edge_at hok hjl
    have hd : (es l0 i).drop j = (es l0 i)[j] :: (es l0 i).drop (j + 1) := List.drop_eq_getElem_cons hjl
    obtain ⟨n, en⟩ : ∃ n, n = (es l0 i)[j] := ⟨_, rfl⟩
    rw [← en] at he hen hd
    rw [hd] at hcont ⊢
    have hx5 := hR.2 n hen
    by_cases hm : m n = true
    · have hs : seeR (m, w) n = (m, w) := by unfold seeR; rw [if_pos hm]
      rw [List.foldl_cons, hs] at hcont ⊢
      obtain ⟨x, h1, h2⟩ := ih (j + 1) (by omega) m w x5 hR hc hcont
      refine ⟨x, h1, Ev.next h2 (fun k => ?_)⟩
      rw [hm] at hx5
      rw [smithyref19_reached.l1, if_pos (by omega), if_pos (by omega), row_len, if_pos (by omega), if_pos (by omega), he, if_pos (by omega), if_pos (by rw [hR.1]; omega), if_pos hx5, w1_ hjb]
    · have hm' : m n = false := by simpa using hm
      have hs : seeR (m, w) n = (upB m n, w ++ [n]) := by unfold seeR; rw [if_neg hm]
      have hc2 := see_cnt (m, w) n hen
      rw [hs] at hc2
      simp only [] at hc2
      rw [List.foldl_cons, hs] at hcont ⊢
      obtain ⟨x, h1, h2⟩ := ih (j + 1) (by omega) (upB m n) (w ++ [n]) _ (hR.put hen) (by omega) hcont
      refine ⟨x, h1, Ev.next h2 (fun k => ?_)⟩
      rw [hm'] at hx5
      rw [smithyref19_reached.l1, if_pos (by omega), if_pos (by omega), row_len, if_pos (by omega), if_pos (by omega), he, if_pos (by omega), if_pos (by rw [hR.1]; omega), if_neg (by rw [hx5]; decide), if_pos (by rw [zs_len]; omega), w1_ hjb]
      unfold zs
      rw [List.map_append]
      rfl
theorem reached_l0 : ∀ f (m : Nat → Bool) (w : List Nat) (x5 : List Bool), Rb l0.length m x5 → cnt l0.length m + w.length ≤ l0.length + 1 → cnt l0.length m + w.length ≤ f → (∀ v ∈ w, v < l0.length) →
    ∃ x, Rb l0.length (reachR (es l0) f (m, w)).1 x ∧ Ev (fun k => smithyref19_reached.l0 k l0 x5 (zs w)) x := by
  intro f
  induction f with
  | zero =>
    intro m w x5 hR hc hf hw
    obtain rfl : w = [] := List.eq_nil_of_length_eq_zero (by omega)
    refine ⟨x5, hR, Ev.now (fun k => ?_)⟩
    rw [smithyref19_reached.l0]
    rfl
  | succ f ih =>
    intro m w x5 hR hc hf hw
    cases hrv : w.reverse with
    | nil =>
      obtain rfl : w = [] := by simpa using hrv
      refine ⟨x5, hR, Ev.now (fun k => ?_)⟩
      rw [smithyref19_reached.l0]
      rfl
    | cons i u =>
      have ew : w = u.reverse ++ [i] := by
        have := congrArg List.reverse hrv
        simpa using this
      have hi : i < l0.length := hw i (by rw [ew]; simp)
      have hlen : w.length = u.reverse.length + 1 := by rw [ew]; simp
      have hq : reachR (es l0) (f + 1) (m, w) = reachR (es l0) f ((es l0 i).foldl seeR (m, u.reverse)) := by
        show (match w.reverse with | [] => (m, w) | i :: w => reachR (es l0) f ((es l0 i).foldl seeR (m, w.reverse))) = _
        rw [hrv]
      have hcn : cnt l0.length m + u.reverse.length ≤ l0.length + 1 := by omega
      have hl1 := reached_l1 hok hN hrl (fun s => (reachR (es l0) f s).1) i hi (es l0 i).length 0 (by omega) m u.reverse x5 hR hcn (fun x5' hR' => by
        rw [List.drop_zero] at hR' ⊢
        have hs := sees_cnt (es l0 i) (m, u.reverse) (es_lt hok i)
        simp only at hs
        exact ih _ _ x5' hR' (by omega) (by omega) (fun v hv => by
          rcases (sees_wait _ _ _).1 hv with h1 | ⟨h1, _⟩
          · exact hw v (by rw [ew]; exact List.mem_append_left _ h1)
          · exact es_lt hok i v h1))
      rw [List.drop_zero] at hl1
      obtain ⟨x, h1, h2⟩ := hl1
      rw [hq]
      refine ⟨x, h1, Ev.next h2 (fun k => ?_)⟩
      have hub : u.reverse.length ≤ 17592186044416 := by omega
      have hzl : (zs w).length = u.reverse.length + 1 := by rw [zs_len, hlen]
      have hzi : rd (zs w) (u.reverse.length : Int) = (i : Int) := by
        unfold rd zs
        rw [Int.toNat_natCast, List.getD_eq_getElem?_getD, List.getElem?_map, ew, List.getElem?_append_right (Nat.le_refl _)]
        simp
      have hzt : (zs w).take u.reverse.length = zs u.reverse := by
        unfold zs
        rw [← List.map_take, ew, List.take_left]
      rw [smithyref19_reached.l0, hzl, if_pos (by omega), wm_ hub, if_pos (by omega), if_pos (by omega), if_pos (by omega), Int.toNat_natCast, hzt, hzi]
      rfl
theorem reached_ev {a : Nat} (ha : a < l0.length) : ∃ x, (x.length = l0.length ∧ ∀ v, v < l0.length → (rdOf false x (v : Int) = true ↔ Re1 (es l0) a v)) ∧ Ev (fun k => smithyref19_reached.f k l0 (a : Int)) x := by
  have hc := cnt_le l0.length (fun _ => false)
  obtain ⟨x, h1, h2⟩ := reached_l0 hok hN hrl (l0.length + 1) (fun _ => false) [a] _ (Rb.zero _) (by simp; omega) (by simp; omega) (fun v hv => by rw [List.mem_singleton] at hv; rw [hv]; exact ha)
  refine ⟨x, ⟨h1.1, fun v hv => by rw [h1.2 v hv]; exact reachR_told (N := l0.length) (es_lt hok) a v⟩, Ev.same h2 (fun k => ?_)⟩
  unfold smithyref19_reached.f
  rw [if_pos (by omega), if_pos (by omega), Int.toNat_natCast]
  rfl
/-- the document's walk. -/
def stepD (nx : Nat → List Nat) (f : Nat) (s : (Nat → Bool) × List Nat) (k : Nat) : (Nat → Bool) × List Nat := if s.1 k then s else walkD nx f k s
theorem nxc_range (i : Nat) : nxc l0 i = (List.range l0.length).filter (fun k => (es l0 i).contains k) := by
  refine sorted_eq (cmpN_lt _) ((range_sorted _).filter _) (fun x => ?_)
  rw [List.mem_filter, List.mem_range]
  unfold nxc
  rw [cmpN_mem]
  constructor
  · intro h; exact ⟨es_lt hok i x h, List.contains_iff_mem.2 h⟩
  · intro h; exact List.contains_iff_mem.1 h.2
end
section
variable {l0 : List (List Int)} (hok : okB l0 = true) (hN : l0.length ≤ 5864062014805) (hrl : ∀ v, (es l0 v).length ≤ 17592186044416)
theorem zs_contains (l : List Nat) (x : Nat) : (zs l).contains (x : Int) = l.contains x := by
  rw [Bool.eq_iff_iff]
  unfold zs
  simp only [List.contains_iff_mem, List.mem_map]
  constructor
  · rintro ⟨y, hy, e⟩
    have : y = x := by omega
    rwa [this] at hy
  · intro h; exact ⟨x, h, rfl⟩
include hok in
theorem row_zs (v : Nat) : rd_L1 l0 (v : Int) = zs (es l0 v) := by
  rw [row_at]
  unfold zs es
  rw [List.map_map]
  have : ∀ x ∈ l0.getD v [], ((fun v : Nat => (v : Int)) ∘ Int.toNat) x = x := fun x hx => by
    have := (okB_at hok hx).1
    show ((x.toNat : Nat) : Int) = x
    omega
  rw [List.map_congr_left this, List.map_id']
theorem zs_snoc (l : List Nat) (x : Nat) : zs l ++ [(x : Int)] = zs (l ++ [x]) := by unfold zs; rw [List.map_append]; rfl
include hok hN hrl
theorem walk_loop (i : Nat) (hi : i < l0.length) (f B : Nat) (hB : B + 1 ≤ 5864062014805)
    (IH : ∀ i, i < l0.length → ∀ (s : (Nat → Bool) × List Nat) (x2 : List Bool) (B : Nat), s.1 i = false → cnt l0.length s.1 ≤ f → s.2.length + cnt l0.length s.1 ≤ B → B ≤ 5864062014805 → Rb l0.length s.1 x2 →
      (∃ x2', Rb l0.length (walkD (nxc l0) f i s).1 x2' ∧ Ev (fun k => smithyref19_walk.f k l0 (i : Int) x2 (zs s.2)) (zs (walkD (nxc l0) f i s).2, x2')) ∧ (walkD (nxc l0) f i s).2.length + cnt l0.length (walkD (nxc l0) f i s).1 ≤ B) :
    ∀ d j, j + d = l0.length → ∀ (s : (Nat → Bool) × List Nat) (x2 : List Bool), Rb l0.length s.1 x2 → cnt l0.length s.1 ≤ f → s.2.length + cnt l0.length s.1 ≤ B →
      (∃ x2', Rb l0.length (((List.range' j d).filter (fun k => (es l0 i).contains k)).foldl (stepD (nxc l0) f) s).1 x2' ∧ Ev (fun k => smithyref19_walk.l0 k l0 (i : Int) x2 (zs s.2) (j : Int)) (zs ((((List.range' j d).filter (fun k => (es l0 i).contains k)).foldl (stepD (nxc l0) f) s).2 ++ [i]), x2')) ∧
      (((List.range' j d).filter (fun k => (es l0 i).contains k)).foldl (stepD (nxc l0) f) s).2.length + cnt l0.length (((List.range' j d).filter (fun k => (es l0 i).contains k)).foldl (stepD (nxc l0) f) s).1 ≤ B := by
  intro d
  induction d with
  | zero =>
    intro j hj s x2 hR hc hb
    refine ⟨⟨x2, hR, Ev.now (fun k => ?_)⟩, hb⟩
    rw [smithyref19_walk.l0, if_neg (by omega), if_pos (by rw [zs_len]; omega), zs_snoc]
    rfl
  | succ d ih =>
    intro j hj s x2 hR hc hb
    have hjN : j < l0.length := by omega
    have hjb : j ≤ 17592186044416 := by omega
    have hhas := has_ev (rd_L1 l0 (i : Int)) (j : Int) (by rw [row_len]; exact hrl i)
    rw [row_zs hok, zs_contains] at hhas
    rw [List.range'_succ, List.filter_cons]
    by_cases he : (es l0 i).contains j = true
    · rw [if_pos he, List.foldl_cons]
      rw [he] at hhas
      have hx := hR.2 j hjN
      by_cases hm : s.1 j = true
      · have hs : stepD (nxc l0) f s j = s := by unfold stepD; rw [if_pos hm]
        rw [hs]
        obtain ⟨⟨x2', h1, h2⟩, h3⟩ := ih (j + 1) (by omega) s x2 hR hc hb
        refine ⟨⟨x2', h1, ?_⟩, h3⟩
        have G : Ev (fun k => (smithyref19_has.f k (zs (es l0 i)) (j : Int)).bind fun t285 => (if t285 = true then (smithyref19_walk.l0 k l0 (i : Int) x2 (zs s.2) ((j + 1 : Nat) : Int)) else (smithyref19_walk.l0 k l0 (i : Int) x2 (zs s.2) ((j + 1 : Nat) : Int)))) _ :=
          Ev.bind (B := fun (t285 : Bool) k => if t285 = true then (smithyref19_walk.l0 k l0 (i : Int) x2 (zs s.2) ((j + 1 : Nat) : Int)) else (smithyref19_walk.l0 k l0 (i : Int) x2 (zs s.2) ((j + 1 : Nat) : Int))) hhas (Ev.same h2 (fun k => if_pos rfl))
        refine Ev.next G (fun k => ?_)
        rw [hm] at hx
        rw [smithyref19_walk.l0, if_pos (by omega), if_pos (by omega), if_pos (by omega), row_zs hok, w1_ hjb, if_pos (show (0 : Int) ≤ (j : Int) by omega), if_pos (show (j : Int) < (x2.length : Int) by rw [hR.1]; omega), if_pos hx]
      · have hm' : s.1 j = false := by simpa using hm
        have hs : stepD (nxc l0) f s j = walkD (nxc l0) f j s := by unfold stepD; rw [if_neg hm]
        rw [hs]
        obtain ⟨⟨y2, g1, g2⟩, g3⟩ := IH j hjN s x2 B hm' hc hb (by omega) hR
        have hmono : cnt l0.length (walkD (nxc l0) f j s).1 ≤ cnt l0.length s.1 := cnt_mono (fun v hv => walkD_mono f j s v hv)
        obtain ⟨⟨x2', h1, h2⟩, h3⟩ := ih (j + 1) (by omega) (walkD (nxc l0) f j s) y2 g1 (by omega) g3
        refine ⟨⟨x2', h1, ?_⟩, h3⟩
        have G2 : Ev (fun k => (smithyref19_walk.f k l0 (j : Int) x2 (zs s.2)).bind fun bt287 => smithyref19_walk.l0 k l0 (i : Int) bt287.2 bt287.1 ((j + 1 : Nat) : Int)) _ :=
          Ev.bind (B := fun (bt287 : List Int × List Bool) k => smithyref19_walk.l0 k l0 (i : Int) bt287.2 bt287.1 ((j + 1 : Nat) : Int)) g2 h2
        have G : Ev (fun k => (smithyref19_has.f k (zs (es l0 i)) (j : Int)).bind fun t285 => (if t285 = true then ((smithyref19_walk.f k l0 (j : Int) x2 (zs s.2)).bind fun bt287 => smithyref19_walk.l0 k l0 (i : Int) bt287.2 bt287.1 ((j + 1 : Nat) : Int)) else (smithyref19_walk.l0 k l0 (i : Int) x2 (zs s.2) ((j + 1 : Nat) : Int)))) _ :=
          Ev.bind (B := fun (t285 : Bool) k => if t285 = true then ((smithyref19_walk.f k l0 (j : Int) x2 (zs s.2)).bind fun bt287 => smithyref19_walk.l0 k l0 (i : Int) bt287.2 bt287.1 ((j + 1 : Nat) : Int)) else (smithyref19_walk.l0 k l0 (i : Int) x2 (zs s.2) ((j + 1 : Nat) : Int))) hhas (Ev.same G2 (fun k => if_pos rfl))
        refine Ev.next G (fun k => ?_)
        rw [hm'] at hx
        rw [smithyref19_walk.l0, if_pos (by omega), if_pos (by omega), if_pos (by omega), row_zs hok, w1_ hjb, if_pos (show (0 : Int) ≤ (j : Int) by omega), if_pos (show (j : Int) < (x2.length : Int) by rw [hR.1]; omega), if_neg (show ¬ rdOf false x2 (j : Int) = true by rw [hx]; decide)]
    · have he' : (es l0 i).contains j = false := by simpa using he
      rw [if_neg he]
      rw [he'] at hhas
      obtain ⟨⟨x2', h1, h2⟩, h3⟩ := ih (j + 1) (by omega) s x2 hR hc hb
      refine ⟨⟨x2', h1, ?_⟩, h3⟩
      have G : Ev (fun k => (smithyref19_has.f k (zs (es l0 i)) (j : Int)).bind fun t285 => (if t285 = true then (if 0 ≤ (j : Int) then (if (j : Int) < (x2.length : Int) then (if rdOf false x2 (j : Int) = true then (smithyref19_walk.l0 k l0 (i : Int) x2 (zs s.2) ((j + 1 : Nat) : Int)) else ((smithyref19_walk.f k l0 (j : Int) x2 (zs s.2)).bind fun bt287 => smithyref19_walk.l0 k l0 (i : Int) bt287.2 bt287.1 ((j + 1 : Nat) : Int))) else (none)) else (none)) else (smithyref19_walk.l0 k l0 (i : Int) x2 (zs s.2) ((j + 1 : Nat) : Int)))) _ :=
        Ev.bind (B := fun (t285 : Bool) k => (if t285 = true then (if 0 ≤ (j : Int) then (if (j : Int) < (x2.length : Int) then (if rdOf false x2 (j : Int) = true then (smithyref19_walk.l0 k l0 (i : Int) x2 (zs s.2) ((j + 1 : Nat) : Int)) else ((smithyref19_walk.f k l0 (j : Int) x2 (zs s.2)).bind fun bt287 => smithyref19_walk.l0 k l0 (i : Int) bt287.2 bt287.1 ((j + 1 : Nat) : Int))) else (none)) else (none)) else (smithyref19_walk.l0 k l0 (i : Int) x2 (zs s.2) ((j + 1 : Nat) : Int)))) hhas (Ev.same h2 (fun k => if_neg (by decide)))
      refine Ev.next G (fun k => ?_)
      rw [smithyref19_walk.l0, if_pos (by omega), if_pos (by omega), if_pos (by omega), row_zs hok, w1_ hjb]
theorem walk_ev : ∀ f, ∀ i, i < l0.length → ∀ (s : (Nat → Bool) × List Nat) (x2 : List Bool) (B : Nat), s.1 i = false → cnt l0.length s.1 ≤ f → s.2.length + cnt l0.length s.1 ≤ B → B ≤ 5864062014805 → Rb l0.length s.1 x2 →
      (∃ x2', Rb l0.length (walkD (nxc l0) f i s).1 x2' ∧ Ev (fun k => smithyref19_walk.f k l0 (i : Int) x2 (zs s.2)) (zs (walkD (nxc l0) f i s).2, x2')) ∧ (walkD (nxc l0) f i s).2.length + cnt l0.length (walkD (nxc l0) f i s).1 ≤ B := by
  intro f
  induction f with
  | zero => intro i hi s x2 B hm hc; have := cnt_pos hi hm; omega
  | succ f ih =>
    intro i hi s x2 B hm hc hb hB hR
    have hu := cnt_up hi hm
    obtain ⟨B', eB⟩ : ∃ B', B = B' + 1 := ⟨B - 1, by omega⟩
    obtain ⟨⟨x2', h1, h2⟩, h3⟩ := walk_loop hok hN hrl i hi f B' (by omega) ih l0.length 0 (by omega) (upB s.1 i, s.2) _ (hR.put hi) (by show cnt l0.length (upB s.1 i) ≤ f; omega) (by show s.2.length + cnt l0.length (upB s.1 i) ≤ B'; omega)
    have hw : walkD (nxc l0) (f + 1) i s = ((((List.range' 0 l0.length).filter (fun k => (es l0 i).contains k)).foldl (stepD (nxc l0) f) (upB s.1 i, s.2)).1, (((List.range' 0 l0.length).filter (fun k => (es l0 i).contains k)).foldl (stepD (nxc l0) f) (upB s.1 i, s.2)).2 ++ [i]) := by
      have e := nxc_range hok hN hrl i
      rw [List.range_eq_range'] at e
      rw [← e]
      rfl
    rw [hw]
    refine ⟨⟨x2', h1, Ev.next h2 (fun k => ?_)⟩, by simp only [List.length_append, List.length_cons, List.length_nil]; omega⟩
    rw [smithyref19_walk.f, if_pos (by omega), if_pos (by rw [hR.1]; omega)]
    rfl
end
section
variable {l0 : List (List Int)} (hok : okB l0 = true) (hN : l0.length ≤ 5864062014805) (hrl : ∀ v, (es l0 v).length ≤ 17592186044416)
/-- who is reached, row by row. -/
def AL (l0 : List (List Int)) (al : Nat → Nat → Bool) (n : Nat) (x4 : List (List Bool)) : Prop := x4.length = n ∧ ∀ v, v < n → (rd_L18 x4 (v : Int)).length = l0.length ∧ ∀ u, u < l0.length → rdOf false (rd_L18 x4 (v : Int)) (u : Int) = al v u
def qP (al : Nat → Nat → Bool) (v k : Nat) : Bool := k == v || al k v && al v k
def lastP (r : List Nat) (l : List Nat) : Bool := l.all (fun k => !r.contains k)
theorem lastP_snoc (r l : List Nat) (k : Nat) : lastP r (l ++ [k]) = (lastP r l && !r.contains k) := by unfold lastP; rw [List.all_append]; simp
include hok hN hrl
theorem parts_l5 (al : Nat → Nat → Bool) (x4 : List (List Bool)) (hA : AL l0 al l0.length x4) (left : List Nat) (hll : left.length ≤ l0.length) (hlN : ∀ v ∈ left, v < l0.length) (x12 : List (List Int)) (n : Nat) (hn : n < left.length) (hx12 : x12.length ≤ n) (r : List (List Int) × Int)
    (hcont : ∀ x12', x12' = x12 ++ (if lastP (left.drop (n + 1)) ((List.range l0.length).filter (qP al left[n])) then [zs ((List.range l0.length).filter (qP al left[n]))] else []) → Ev (fun k => smithyref19_Parts.l4 k l0 x4 (zs left) x12' ((n + 1 : Nat) : Int)) r) :
    ∀ d j, j + d = l0.length → Ev (fun k => smithyref19_Parts.l5 k l0 x4 (zs left) x12 (n : Int) (zs ((List.range j).filter (qP al left[n]))) (lastP (left.drop (n + 1)) ((List.range j).filter (qP al left[n]))) (j : Int)) r := by
  have hnb : n ≤ 17592186044416 := by omega
  obtain ⟨v, ev⟩ : ∃ v, v = left[n] := ⟨_, rfl⟩
  have hvN : v < l0.length := hlN v (by rw [ev]; exact List.getElem_mem hn)
  have hrd : rd (zs left) (n : Int) = (v : Int) := by
    unfold rd zs
    rw [Int.toNat_natCast, List.getD_eq_getElem?_getD, List.getElem?_map, List.getElem?_eq_getElem hn, ev]; rfl
  rw [← ev] at hcont ⊢
  intro d
  induction d with
  | zero =>
    intro j hj
    obtain rfl : j = l0.length := by omega
    have hc := hcont _ rfl
    by_cases hl : lastP (left.drop (n + 1)) ((List.range l0.length).filter (qP al v)) = true
    · rw [if_pos hl] at hc
      refine Ev.next hc (fun k => ?_)
      rw [smithyref19_Parts.l5, if_neg (by omega), hl, if_pos rfl, if_pos (by omega), w1_ hnb]
    · have hl' : lastP (left.drop (n + 1)) ((List.range l0.length).filter (qP al v)) = false := by simpa using hl
      rw [if_neg hl, List.append_nil] at hc
      refine Ev.next hc (fun k => ?_)
      rw [smithyref19_Parts.l5, if_neg (by omega), hl', if_neg (by decide), w1_ hnb]
  | succ d ih =>
    intro j hj
    have hjN : j < l0.length := by omega
    have hjb : j ≤ 17592186044416 := by omega
    have hnx := ih (j + 1) (by omega)
    obtain ⟨P, eP⟩ : ∃ P, P = (List.range j).filter (qP al v) := ⟨_, rfl⟩
    have hPl : P.length ≤ j := by rw [eP]; exact Nat.le_trans (List.length_filter_le _ _) (by rw [List.length_range]; exact Nat.le_refl _)
    rw [List.range_succ, List.filter_append, ← eP] at hnx
    rw [← eP]
    have hzl : (zs left).drop (n + 1) = zs (left.drop (n + 1)) := by unfold zs; rw [List.map_drop]
    have hdl : (left.drop (n + 1)).length ≤ 17592186044416 := by rw [List.length_drop]; omega
    have hhas := has_ev (zs (left.drop (n + 1))) (j : Int) (by rw [zs_len]; exact hdl)
    rw [zs_contains] at hhas
    -- j stands in the part
    have add : qP al v j = true → Ev (fun k => (some (zs P ++ [(j : Int)] : List Int)).bind fun y => (if lastP (left.drop (n + 1)) P = true then (if 0 ≤ (wrap64 ((n : Int) + 1)) then (if (wrap64 ((n : Int) + 1)) ≤ ((zs left).length : Int) then ((smithyref19_has.f k ((zs left).drop ((wrap64 ((n : Int) + 1)) : Int).toNat) (j : Int)).bind fun t334 => (smithyref19_Parts.l5 k l0 x4 (zs left) x12 (n : Int) y (!t334) (wrap64 ((j : Int) + 1)))) else (none)) else (none)) else (smithyref19_Parts.l5 k l0 x4 (zs left) x12 (n : Int) y false (wrap64 ((j : Int) + 1))))) r := fun hq => by
      have e1 : [j].filter (qP al v) = [j] := by simp [hq]
      rw [e1] at hnx
      rw [← zs_snoc, lastP_snoc] at hnx
      by_cases hl : lastP (left.drop (n + 1)) P = true
      · rw [hl, Bool.true_and] at hnx
        have G : Ev (fun k => (smithyref19_has.f k (zs (left.drop (n + 1))) (j : Int)).bind fun t334 => (smithyref19_Parts.l5 k l0 x4 (zs left) x12 (n : Int) (zs P ++ [(j : Int)]) (!t334) ((j + 1 : Nat) : Int))) r :=
          Ev.bind (B := fun (t334 : Bool) k => smithyref19_Parts.l5 k l0 x4 (zs left) x12 (n : Int) (zs P ++ [(j : Int)]) (!t334) ((j + 1 : Nat) : Int)) hhas hnx
        refine Ev.same G (fun k => ?_)
        rw [Option.bind_some, if_pos hl, w1_ hnb, w1_ hjb, if_pos (by omega), if_pos (by rw [zs_len]; omega), Int.toNat_natCast, hzl]
      · have hl' : lastP (left.drop (n + 1)) P = false := by simpa using hl
        rw [hl', Bool.false_and] at hnx
        refine Ev.same hnx (fun k => ?_)
        rw [Option.bind_some, if_neg hl, w1_ hjb]
    have skip : qP al v j = false → Ev (fun k => smithyref19_Parts.l5 k l0 x4 (zs left) x12 (n : Int) (zs P) (lastP (left.drop (n + 1)) P) (wrap64 ((j : Int) + 1))) r := fun hq => by
      have e1 : [j].filter (qP al v) = [] := by simp [hq]
      rw [e1, List.append_nil] at hnx
      rw [w1_ hjb]
      exact hnx
    have hzP : (zs P).length < 17592186044416 := by rw [zs_len]; omega
    obtain ⟨hr1, hr2⟩ := hA.2 j hjN
    obtain ⟨hs1, hs2⟩ := hA.2 v hvN
    have hx1 := hr2 v hvN
    have hx2 := hs2 j hjN
    have hx4 := hA.1
    clear hnx hcont ih
    by_cases hjv : j = v
    · refine Ev.next (add (by unfold qP; simp [hjv])) (fun k => ?_)
      rw [smithyref19_Parts.l5, if_pos (by omega), if_pos (by omega), if_pos (by rw [zs_len]; omega), hrd, if_pos (show (j : Int) = (v : Int) by omega), if_pos hzP]
    · have hb : (j == v) = false := by simpa using hjv
      by_cases h1 : al j v = true
      · by_cases h2 : al v j = true
        · refine Ev.next (add (by unfold qP; rw [h1, h2, hb]; rfl)) (fun k => ?_)
          rw [smithyref19_Parts.l5, if_pos (by omega), if_pos (by omega), if_pos (by rw [zs_len]; omega), hrd, if_neg (show ¬ (j : Int) = (v : Int) by omega), if_pos (show (0 : Int) ≤ (j : Int) by omega), if_pos (show (j : Int) < (x4.length : Int) by omega), if_pos (show (0 : Int) ≤ (v : Int) by omega), if_pos (show (v : Int) < ((rd_L18 x4 (j : Int)).length : Int) by omega), hx1, if_pos h1, if_pos (show (v : Int) < (x4.length : Int) by omega), if_pos (show (j : Int) < ((rd_L18 x4 (v : Int)).length : Int) by omega), hx2, if_pos h2, if_pos hzP]
        · refine Ev.next (skip (by unfold qP; rw [h1, hb]; simpa using h2)) (fun k => ?_)
          rw [smithyref19_Parts.l5, if_pos (by omega), if_pos (by omega), if_pos (by rw [zs_len]; omega), hrd, if_neg (show ¬ (j : Int) = (v : Int) by omega), if_pos (show (0 : Int) ≤ (j : Int) by omega), if_pos (show (j : Int) < (x4.length : Int) by omega), if_pos (show (0 : Int) ≤ (v : Int) by omega), if_pos (show (v : Int) < ((rd_L18 x4 (j : Int)).length : Int) by omega), hx1, if_pos h1, if_pos (show (v : Int) < (x4.length : Int) by omega), if_pos (show (j : Int) < ((rd_L18 x4 (v : Int)).length : Int) by omega), hx2, if_neg h2]
      · refine Ev.next (skip (by unfold qP; rw [hb]; simp [h1])) (fun k => ?_)
        rw [smithyref19_Parts.l5, if_pos (by omega), if_pos (by omega), if_pos (by rw [zs_len]; omega), hrd, if_neg (show ¬ (j : Int) = (v : Int) by omega), if_pos (show (0 : Int) ≤ (j : Int) by omega), if_pos (show (j : Int) < (x4.length : Int) by omega), if_pos (show (0 : Int) ≤ (v : Int) by omega), if_pos (show (v : Int) < ((rd_L18 x4 (j : Int)).length : Int) by omega), hx1, if_neg h1]
theorem parts_l4 (al : Nat → Nat → Bool) (x4 : List (List Bool)) (hA : AL l0 al l0.length x4) (left : List Nat) (hll : left.length ≤ l0.length) (hlN : ∀ v ∈ left, v < l0.length) :
    ∀ d n, n + d = left.length → ∀ x12 : List (List Int), x12.length ≤ n → Ev (fun k => smithyref19_Parts.l4 k l0 x4 (zs left) x12 (n : Int)) (x12 ++ (refP al l0.length (left.drop n)).map zs, 0) := by
  intro d
  induction d with
  | zero =>
    intro n hn x12 hx
    rw [List.drop_of_length_le (by omega)]
    refine Ev.now (fun k => ?_)
    rw [smithyref19_Parts.l4, if_neg (by rw [zs_len]; omega)]
    simp [refP]
  | succ d ih =>
    intro n hn x12 hx
    have hnl : n < left.length := by omega
    have h5 := parts_l5 hok hN hrl al x4 hA left hll hlN x12 n hnl hx (x12 ++ (refP al l0.length (left.drop n)).map zs, 0) (fun x12' e => by
      have hr : refP al l0.length (left.drop n) = (if lastP (left.drop (n + 1)) ((List.range l0.length).filter (qP al left[n])) then [(List.range l0.length).filter (qP al left[n])] else []) ++ refP al l0.length (left.drop (n + 1)) := by
        rw [List.drop_eq_getElem_cons hnl]
        rfl
      have hlen : x12'.length ≤ n + 1 := by
        rw [e, List.length_append]
        split <;> simp <;> omega
      have := ih (n + 1) (by omega) x12' hlen
      rw [hr, List.map_append, ← List.append_assoc]
      have e2 : x12 ++ (if lastP (left.drop (n + 1)) ((List.range l0.length).filter (qP al left[n])) then [(List.range l0.length).filter (qP al left[n])] else []).map zs = x12' := by
        rw [e]
        split <;> rfl
      rw [e2]
      exact this) l0.length 0 (by omega)
    refine Ev.next h5 (fun k => ?_)
    rw [smithyref19_Parts.l4, if_pos (by rw [zs_len]; omega)]
    rfl
theorem parts_l3 (al : Nat → Nat → Bool) (x4 : List (List Bool)) (hA : AL l0 al l0.length x4) (r : List (List Int) × Int)
    (hcont : ∀ s : (Nat → Bool) × List Nat, s = uptoD (nxc l0) l0.length l0.length → s.2.length ≤ l0.length → Ev (fun k => smithyref19_Parts.l4 k l0 x4 (zs s.2) [] 0) r) :
    ∀ d j, j + d = l0.length → ∀ x9, Rb l0.length (uptoD (nxc l0) l0.length j).1 x9 → (uptoD (nxc l0) l0.length j).2.length + cnt l0.length (uptoD (nxc l0) l0.length j).1 ≤ l0.length →
      Ev (fun k => smithyref19_Parts.l3 k l0 x4 x9 (zs (uptoD (nxc l0) l0.length j).2) (j : Int)) r := by
  intro d
  induction d with
  | zero =>
    intro j hj x9 hR hb
    obtain rfl : j = l0.length := by omega
    refine Ev.next (hcont _ rfl (by omega)) (fun k => ?_)
    rw [smithyref19_Parts.l3, if_neg (by omega)]
  | succ d ih =>
    intro j hj x9 hR hb
    have hjN : j < l0.length := by omega
    have hjb : j ≤ 17592186044416 := by omega
    have hx := hR.2 j hjN
    by_cases hm : (uptoD (nxc l0) l0.length j).1 j = true
    · have hs : uptoD (nxc l0) l0.length (j + 1) = uptoD (nxc l0) l0.length j := by rw [uptoD_succ, if_pos hm]
      have h := ih (j + 1) (by omega) x9 (by rw [hs]; exact hR) (by rw [hs]; exact hb)
      rw [hs] at h
      refine Ev.next h (fun k => ?_)
      rw [smithyref19_Parts.l3, if_pos (by omega), if_pos (by omega), if_pos (by rw [hR.1]; omega), hx, if_pos hm, w1_ hjb]
    · have hm' : (uptoD (nxc l0) l0.length j).1 j = false := by simpa using hm
      have hs : uptoD (nxc l0) l0.length (j + 1) = walkD (nxc l0) l0.length j (uptoD (nxc l0) l0.length j) := by rw [uptoD_succ, if_neg hm]
      obtain ⟨⟨x2', h1, h2⟩, h3⟩ := walk_ev hok hN hrl l0.length j hjN _ x9 l0.length hm' (cnt_le _ _) hb hN hR
      rw [← hs] at h1 h2 h3
      have h := ih (j + 1) (by omega) x2' h1 h3
      have G : Ev (fun k => (smithyref19_walk.f k l0 (j : Int) x9 (zs (uptoD (nxc l0) l0.length j).2)).bind fun bt322 => (smithyref19_Parts.l3 k l0 x4 bt322.2 bt322.1 ((j + 1 : Nat) : Int))) r :=
        Ev.bind (B := fun (bt322 : List Int × List Bool) k => smithyref19_Parts.l3 k l0 x4 bt322.2 bt322.1 ((j + 1 : Nat) : Int)) h2 h
      refine Ev.next G (fun k => ?_)
      rw [smithyref19_Parts.l3, if_pos (by omega), if_pos (by omega), if_pos (by rw [hR.1]; omega), hx, if_neg hm, w1_ hjb]
theorem parts_l2 (r : List (List Int) × Int) (hcont : ∀ al x4, (∀ a b, a < l0.length → b < l0.length → (al a b = true ↔ Re1 (es l0) a b)) → AL l0 al l0.length x4 → Ev (fun k => smithyref19_Parts.l3 k l0 x4 (List.replicate l0.length false) ([] : List Int) 0) r) :
    ∀ d j, j + d = l0.length → ∀ (al : Nat → Nat → Bool) x4, (∀ a b, a < j → b < l0.length → (al a b = true ↔ Re1 (es l0) a b)) → AL l0 al j x4 → Ev (fun k => smithyref19_Parts.l2 k l0 x4 (j : Int)) r := by
  intro d
  induction d with
  | zero =>
    intro j hj al x4 hal hA
    obtain rfl : j = l0.length := by omega
    refine Ev.next (hcont al x4 hal hA) (fun k => ?_)
    rw [smithyref19_Parts.l2, if_neg (by omega), if_pos (by omega), if_pos (by omega), Int.toNat_natCast]
  | succ d ih =>
    intro j hj al x4 hal hA
    have hjN : j < l0.length := by omega
    have hjb : j ≤ 17592186044416 := by omega
    obtain ⟨x, ⟨hx1, hx2⟩, hx3⟩ := reached_ev hok hN hrl hjN
    have hrdo : ∀ a : Nat, a < j → rd_L18 (x4 ++ [x]) (a : Int) = rd_L18 x4 (a : Int) := fun a ha => by
      unfold rd_L18
      rw [Int.toNat_natCast, List.getD_eq_getElem?_getD, List.getD_eq_getElem?_getD, List.getElem?_append_left (by rw [hA.1]; exact ha)]
    have hrdn : rd_L18 (x4 ++ [x]) (j : Int) = x := by
      unfold rd_L18
      rw [Int.toNat_natCast, List.getD_eq_getElem?_getD, List.getElem?_append_right (by rw [hA.1]; exact Nat.le_refl _), hA.1, Nat.sub_self]; rfl
    have h := ih (j + 1) (by omega) (fun a b => if a = j then rdOf false x (b : Int) else al a b) (x4 ++ [x]) (fun a b ha hb => by
      by_cases e : a = j
      · rw [if_pos e, hx2 b hb, e]
      · rw [if_neg e]; exact hal a b (by omega) hb) ⟨by rw [List.length_append, hA.1]; rfl, fun v hv => by
      by_cases e : v = j
      · subst e
        rw [hrdn]
        exact ⟨hx1, fun u hu => by show rdOf false x (u : Int) = if v = v then rdOf false x (u : Int) else al v u; rw [if_pos rfl]⟩
      · rw [hrdo v (by omega)]
        obtain ⟨h1, h2⟩ := hA.2 v (by omega)
        exact ⟨h1, fun u hu => by show _ = if v = j then rdOf false x (u : Int) else al v u; rw [if_neg e]; exact h2 u hu⟩⟩
    have G : Ev (fun k => (smithyref19_reached.f k l0 (j : Int)).bind fun t312 => (if x4.length < 5864062014805 then (smithyref19_Parts.l2 k l0 (x4 ++ [t312]) ((j + 1 : Nat) : Int)) else (none))) r :=
      Ev.bind (B := fun (t312 : List Bool) k => if x4.length < 5864062014805 then (smithyref19_Parts.l2 k l0 (x4 ++ [t312]) ((j + 1 : Nat) : Int)) else (none)) hx3 (Ev.same h (fun k => if_pos (by rw [hA.1]; omega)))
    refine Ev.next G (fun k => ?_)
    rw [smithyref19_Parts.l2, if_pos (by omega), w1_ hjb]
end
theorem net_rows' {l0 : List (List Int)} (h : netOk l0 = true) : l0.length ≤ 5864062014805 ∧ ∀ v, (es l0 v).length ≤ 17592186044416 := by
  unfold netOk at h
  rw [Bool.and_eq_true, decide_eq_true_eq, List.all_eq_true] at h
  refine ⟨h.1, fun v => ?_⟩
  unfold es
  rw [List.length_map, List.getD_eq_getElem?_getD]
  cases hv : l0[v]? with
  | none => simp
  | some l => simpa using h.2 l (List.mem_of_getElem? hv)
theorem refParts_ok {l0 : List (List Int)} (hok : okB l0 = true) (hnet : netOk l0 = true) : Ev (fun k => smithyref19_Parts.f k l0) (partsZ l0, 0) := by
  obtain ⟨hN, hrl⟩ := net_rows' hnet
  have hz : (partsZ l0, (0 : Int)) = ([] ++ (partsP cmpN (nxc l0) l0.length).map zs, 0) := rfl
  have h2 : Ev (fun k => smithyref19_Parts.l2 k l0 ([] : List (List Bool)) 0) (partsZ l0, 0) := by
    refine parts_l2 hok hN hrl _ (fun al x4 hal hA => ?_) l0.length 0 (by omega) (fun _ _ => false) [] (fun a b ha => absurd ha (Nat.not_lt_zero a)) ⟨rfl, fun v hv => absurd hv (Nat.not_lt_zero v)⟩
    have hc := cnt_le l0.length (fun _ => false)
    refine parts_l3 hok hN hrl al x4 hA _ (fun s es_ hsl => ?_) l0.length 0 (by omega) _ (Rb.zero _) (by show 0 + cnt l0.length (fun _ => false) ≤ _; omega)
    have hleft := uptoD_left (nxc_lt hok) l0.length (Nat.le_refl _)
    rw [← es_] at hleft
    have h4 := parts_l4 hok hN hrl al x4 hA s.2 hsl hleft s.2.length 0 (by omega) [] (Nat.le_refl _)
    rw [List.drop_zero] at h4
    have hp := parts_ref (cmp := cmpN) cmpN_mem cmpN_lt (nxc_lt hok) (al := al) (fun a b ha hb => by
      rw [hal a b ha hb]
      exact ⟨fun h => h.same (fun v x hx => by unfold nxc; rw [cmpN_mem]; exact hx), fun h => h.same (fun v x hx => by unfold nxc at hx; rw [cmpN_mem] at hx; exact hx)⟩)
    have hld : leftD (nxc l0) l0.length = s.2 := by unfold leftD; rw [es_]
    rw [hld] at hp
    rw [hp, ← hz] at h4
    exact h4
  have hrowl : ∀ v : Nat, (rd_L1 l0 (v : Int)).length = (es l0 v).length := fun v => row_len
  have h0 : ∀ d j, j + d = l0.length → Ev (fun k => smithyref19_Parts.l0 k l0 (j : Int)) (partsZ l0, 0) := by
    intro d
    induction d with
    | zero =>
      intro j hj
      refine Ev.next h2 (fun k => ?_)
      rw [smithyref19_Parts.l0, if_neg (by omega)]
    | succ d ih =>
      intro j hj
      have hjN : j < l0.length := by omega
      have hjb : j ≤ 17592186044416 := by omega
      have h1 : ∀ e t, t + e = (es l0 j).length → Ev (fun k => smithyref19_Parts.l1 k l0 (j : Int) (t : Int)) (partsZ l0, 0) := by
        intro e
        induction e with
        | zero =>
          intro t ht
          refine Ev.next (ih (j + 1) (by omega)) (fun k => ?_)
          rw [smithyref19_Parts.l1, if_pos (by omega), if_pos (by omega), row_len, if_neg (by omega), w1_ hjb]
        | succ e ihe =>
          intro t ht
          have htl : t < (es l0 j).length := by omega
          have htb : t ≤ 17592186044416 := by have := hrl j; omega
          obtain ⟨he, hen⟩ := edge_at hok htl
          refine Ev.next (ihe (t + 1) (by omega)) (fun k => ?_)
          rw [smithyref19_Parts.l1, if_pos (by omega), if_pos (by omega), row_len, if_pos (by omega), if_pos (by omega), he, if_neg (by omega), if_neg (by omega), w1_ htb]
      refine Ev.next (h1 (es l0 j).length 0 (by omega)) (fun k => ?_)
      rw [smithyref19_Parts.l0, if_pos (by omega)]
      rfl
  exact Ev.same (h0 l0.length 0 (by omega)) (fun k => rfl)
theorem refParts_bad {l0 : List (List Int)} (hok : okB l0 = false) (hnet : netOk l0 = true) : Ev (fun k => smithyref19_Parts.f k l0) ([], 4) := by
  obtain ⟨hN, hrl⟩ := net_rows' hnet
  have hbad : ∃ l ∈ l0, ∃ x ∈ l, ¬ (0 ≤ x ∧ x < (l0.length : Int)) := by
    by_cases h : ∃ l ∈ l0, ∃ x ∈ l, ¬ (0 ≤ x ∧ x < (l0.length : Int))
    · exact h
    · exfalso
      have : okB l0 = true := List.all_eq_true.2 (fun l hl => List.all_eq_true.2 (fun x hx => by
        rw [Bool.and_eq_true, decide_eq_true_eq, decide_eq_true_eq]
        by_cases hx2 : 0 ≤ x ∧ x < (l0.length : Int)
        · exact hx2
        · exact absurd ⟨l, hl, x, hx, hx2⟩ h))
      rw [hok] at this
      cases this
  have key : ∀ d j, j + d = l0.length → (∃ l ∈ l0.drop j, ∃ x ∈ l, ¬ (0 ≤ x ∧ x < (l0.length : Int))) → Ev (fun k => smithyref19_Parts.l0 k l0 (j : Int)) ([], 4) := by
    intro d
    induction d with
    | zero =>
      intro j hj h
      rw [List.drop_of_length_le (by omega)] at h
      obtain ⟨l, hl, _⟩ := h
      cases hl
    | succ d ih =>
      intro j hj h
      have hjN : j < l0.length := by omega
      have hjb : j ≤ 17592186044416 := by omega
      obtain ⟨row, erow⟩ : ∃ row, row = l0.getD j [] := ⟨_, rfl⟩
      have hrd : rd_L1 l0 (j : Int) = row := by rw [row_at, erow]
      have hrow : l0[j] = row := by rw [erow, List.getD_eq_getElem?_getD, List.getElem?_eq_getElem hjN]; rfl
      have hrb : row.length ≤ 17592186044416 := by have := hrl j; unfold es at this; rw [List.length_map, ← erow] at this; exact this
      have h1 : ∀ e t, t + e = row.length → ((∃ x ∈ row.drop t, ¬ (0 ≤ x ∧ x < (l0.length : Int))) ∨ (∃ l ∈ l0.drop (j + 1), ∃ x ∈ l, ¬ (0 ≤ x ∧ x < (l0.length : Int)))) → Ev (fun k => smithyref19_Parts.l1 k l0 (j : Int) (t : Int)) ([], 4) := by
        intro e
        induction e with
        | zero =>
          intro t ht hh
          rw [List.drop_of_length_le (by omega)] at hh
          have h3 := hh.resolve_left (fun h => by obtain ⟨x, hx, _⟩ := h; cases hx)
          refine Ev.next (ih (j + 1) (by omega) h3) (fun k => ?_)
          rw [smithyref19_Parts.l1, if_pos (by omega), if_pos (by omega), hrd, if_neg (by omega), w1_ hjb]
        | succ e ihe =>
          intro t ht hh
          have htl : t < row.length := by omega
          have htb : t ≤ 17592186044416 := by omega
          have hx : rd row (t : Int) = row[t] := by unfold rd; rw [Int.toNat_natCast, List.getD_eq_getElem?_getD, List.getElem?_eq_getElem htl]; rfl
          by_cases h0 : row[t] < 0
          · refine Ev.now (fun k => ?_)
            rw [smithyref19_Parts.l1, if_pos (by omega), if_pos (by omega), hrd, if_pos (by omega), if_pos (by omega), hx, if_pos h0]
          · by_cases hN2 : row[t] ≥ (l0.length : Int)
            · refine Ev.now (fun k => ?_)
              rw [smithyref19_Parts.l1, if_pos (by omega), if_pos (by omega), hrd, if_pos (by omega), if_pos (by omega), hx, if_neg h0, if_pos hN2]
            · have h4 : (∃ x ∈ row.drop (t + 1), ¬ (0 ≤ x ∧ x < (l0.length : Int))) ∨ (∃ l ∈ l0.drop (j + 1), ∃ x ∈ l, ¬ (0 ≤ x ∧ x < (l0.length : Int))) := by
                rcases hh with ⟨x, hx2, hx3⟩ | h5
                · rw [List.drop_eq_getElem_cons htl, List.mem_cons] at hx2
                  rcases hx2 with h6 | h6
                  · rw [h6] at hx3; exact absurd ⟨by omega, by omega⟩ hx3
                  · exact .inl ⟨x, h6, hx3⟩
                · exact .inr h5
              refine Ev.next (ihe (t + 1) (by omega) h4) (fun k => ?_)
              rw [smithyref19_Parts.l1, if_pos (by omega), if_pos (by omega), hrd, if_pos (by omega), if_pos (by omega), hx, if_neg h0, if_neg hN2, w1_ htb]
      refine Ev.next (h1 row.length 0 (by omega) ?_) (fun k => ?_)
      · rw [List.drop_zero]
        obtain ⟨l, hl, h7⟩ := h
        rw [List.drop_eq_getElem_cons hjN, List.mem_cons] at hl
        rcases hl with h8 | h8
        · rw [h8, hrow] at h7; exact .inl h7
        · exact .inr ⟨l, h8, h7⟩
      · rw [smithyref19_Parts.l0, if_pos (by omega)]
        rfl
  exact Ev.same (key l0.length 0 (by omega) (by rw [List.drop_zero]; exact hbad)) (fun k => rfl)
theorem refParts_ev {l0 : List (List Int)} (hnet : netOk l0 = true) : Ev (fun k => smithyref19_Parts.f k l0) (resP l0) := by
  cases hok : okB l0 with
  | true =>
    have e : resP l0 = (partsZ l0, 0) := by unfold resP; rw [hok]; rfl
    rw [e]; exact refParts_ok hok hnet
  | false =>
    have e : resP l0 = ([], 4) := by unfold resP; rw [hok]; rfl
    rw [e]; exact refParts_bad hok hnet
/-- the parts are no more, and no longer, than the nodes. -/
theorem resP_small {l0 : List (List Int)} (hnet : netOk l0 = true) : (resP l0).1.length ≤ 17592186044416 ∧ ∀ v : Nat, (rd_L1 (resP l0).1 (v : Int)).length ≤ 17592186044416 := by
  obtain ⟨hN, hrl⟩ := net_rows' hnet
  cases hok : okB l0 with
  | false =>
    have e : resP l0 = ([], 4) := by unfold resP; rw [hok]; rfl
    rw [e]
    refine ⟨by simp, fun v => ?_⟩
    rw [row_at]; simp
  | true =>
    have e : resP l0 = (partsZ l0, 0) := by unfold resP; rw [hok]; rfl
    rw [e]
    have K := parts_ok cmpN_mem (nxc_lt hok)
    have hf := K.flat_len (parts_sorted cmpN_lt)
    have h5 : ∀ Q : List (List Nat), (∀ m ∈ Q, m ≠ []) → Q.length ≤ Q.flatten.length := by
      intro Q
      induction Q with
      | nil => intro _; simp
      | cons m Q ihQ =>
        intro hQ
        have h6 := ihQ (fun x hx => hQ x (List.mem_cons_of_mem _ hx))
        have h7 : 0 < m.length := List.length_pos_iff.2 (hQ m List.mem_cons_self)
        rw [List.flatten_cons, List.length_append, List.length_cons]; omega
    have h6 := h5 _ (fun m hm => (K.sc m hm).1)
    refine ⟨by show (partsZ l0).length ≤ _; unfold partsZ; rw [List.length_map]; omega, fun v => ?_⟩
    show (rd_L1 (partsZ l0) (v : Int)).length ≤ _
    rw [row_at, List.getD_eq_getElem?_getD]
    cases hv : (partsZ l0)[v]? with
    | none => simp
    | some l =>
      have := parts_small hok (List.mem_of_getElem? hv)
      show l.length ≤ _
      omega
theorem callsParts_plain {l0 : List (List Int)} (hnet : netOk l0 = true) : ∃ k, smithylaw19_CallsParts.f k l0 = some true := by
  obtain ⟨hN, hrl⟩ := net_rows' hnet
  have hp : calls_Parts.f l0 = some (resP l0) := by unfold calls_Parts.f; rw [if_pos hnet]
  obtain ⟨K1, h1⟩ := refParts_ev hnet
  obtain ⟨b, K2, h2⟩ := great_ev hN
  obtain ⟨hs1, hs2⟩ := resP_small hnet
  obtain ⟨K3, h3⟩ := sameRows_ev _ hs1 hs2
  refine ⟨max K1 (max K2 K3), ?_⟩
  have h1' := h1 (max K1 (max K2 K3)) (by omega)
  have h2' := h2 (max K1 (max K2 K3)) (by omega)
  have h3' := h3 (max K1 (max K2 K3)) (by omega)
  simp only at h1' h2' h3'
  unfold smithylaw19_CallsParts.f smithylaw19_awake.f
  rw [h2', Option.bind_some]
  cases b with
  | true => rfl
  | false => rw [if_neg (by decide), hp, Option.bind_some, h1', Option.bind_some, h3', Option.bind_some, if_pos rfl, if_pos rfl]; rfl
theorem callsParts_walk (A : Option Addr) (len cap : Nat) (l : List (List Int)) (W : World) (hl : l.length = len) (hlc : len ≤ cap) (hC : Kd.C (Kd.slice 3 (Kd.int .i64)) W A len l) (hnet : netOk l = true) :
    Calls Try.prog 3 #[.slice A len cap] W fun e W' => e = .returned (.bool true) ∧ Below W.heap.size W W' := by
  subst hl
  obtain ⟨k, hk⟩ := callsParts_plain hnet
  exact smithylaw19_CallsParts.calls k A cap l true W hC hlc hk
end Go.Proofs.Ytligpleningglaa.Cw
