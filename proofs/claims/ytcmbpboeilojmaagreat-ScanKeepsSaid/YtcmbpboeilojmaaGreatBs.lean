/- slices.BinarySearchFunc, laid here; enter's closure. -/
import Derived.Test.YtcmbpboeilojmaaGreatOr
import Derived.Test.YtcmbpboeilojmaaGreatSl
import Derived.Shelf.SlCmpFuncs.BinarySearchFunc
import Derived.Ground.SlsgProg
namespace Go.Proofs
open Go.Shelf
def Tryz.laysSearch_ren : Go.Shelf.Ren := ⟨fun | 14 => 26 | n => n, fun | 22 => 22 | 24 => 3 | 29 => 3 | 32 => 26 | 3 => 3 | 4 => 4 | 35 => 120 | 0 => 0 | n => n, fun | n => n⟩
theorem Tryz.laysSearch : Go.Proofs.SlLaysG2.n14 Tryz.prog Tryz.laysSearch_ren := {
  mixed := by kernel_rfl
  f14 := ⟨Tryz.f26.name, by decide, Tryz.func26.trans (congrArg some (by kernel_rfl))⟩
  t0 := Tryz.underlying0
  a0 := Tryz.isAgg0
  z0 := Tryz.sizeOf0
  v0 := Tryz.zeroValue0
  t3 := Tryz.underlying3
  a3 := Tryz.isAgg3
  z3 := Tryz.sizeOf3
  v3 := Tryz.zeroValue3
  t4 := Tryz.underlying4
  a4 := Tryz.isAgg4
  z4 := Tryz.sizeOf4
  v4 := Tryz.zeroValue4
  t22 := Tryz.underlying22
  a22 := Tryz.isAgg22
  z22 := Tryz.sizeOf22
  v22 := Tryz.zeroValue22
  a24 := Tryz.isAgg3
  z24 := Tryz.sizeOf3
  a29 := Tryz.isAgg3
  z29 := Tryz.sizeOf3
  t32 := Tryz.underlying26
  a32 := Tryz.isAgg26
  z32 := Tryz.sizeOf26
  v32 := Tryz.zeroValue26
  t35 := Tryz.underlying120
  a35 := Tryz.isAgg120
  z35 := Tryz.sizeOf120
  v35 := Tryz.zeroValue120 }
end Go.Proofs
namespace Go.Proofs.YtcmbpboeilojmaaGreat.Sw
open Go Go.RowKit Go.Shelf Go.Proofs.YtcmbpboeilojmaaGreatW.PrintWords Go.Proofs.YtcmbpboeilojmaaGreatW.PrintLast Go.Proofs.YtcmbpboeilojmaaGreatW.PrintMore Go.Proofs.YtcmbpboeilojmaaGreat.F Go.Proofs.YtcmbpboeilojmaaGreat.Scan
set_option linter.unusedVariables false
set_option linter.unusedSimpArgs false
set_option maxHeartbeats 1000000 in
set_option maxRecDepth 100000 in
/-- the closure: the end of span k against a place. -/
theorem clo_calls (w : World) (g bx k n c0 : Nat) (v tv : Int) (ad : Addr) (hk : k < n) (hb : w.cell? ⟨bx, 0, none⟩ = some (.pointer (some ⟨g, 0, none⟩))) (hL : w.cell? ⟨g, 0, none⟩ = some (.slice (some ad) n c0))
    (hx : w.cell? ⟨(ad.add (k * 3)).block, (ad.add (k * 3)).off + 2, none⟩ = some (.int .i64 v)) :
    Calls Tryz.prog 27 #[.int .i64 k, .int .i64 tv, .pointer (some ⟨bx, 0, none⟩)] w fun e w' => e = .returned (.int .i64 (cmpI v tv)) ∧ Drawn0 w w' := by
  have hk1 : (k : Int) < n := by omega
  have hk0 : (0 : Int) ≤ (k : Int) := by omega
  have hc : ∀ W : World, Calls Tryz.prog 25 #[.int .i64 v, .int .i64 tv] W fun e w' => e = .returned (.int .i64 (cmpI v tv)) ∧ Drawn0 W w' := fun W => cmp_Compare_int.calls v tv _ W (cmp_f v tv)
  go_enter Tryz.func27, Tryz.ntmps27
  go_wp2_with (go_at_call 25; refine (hc _).mono ?_; rintro e w3 ⟨rfl, ⟨nd, rfl⟩⟩)
  go_ret
  exact ⟨rfl, nd, rfl⟩
theorem sw_below {α : Type} [Inhabited α] {enc : α → Value} {w w' : World} {blk off : Nat} {d : Array α} (hH : Go.Sort.Holds enc w blk off d) (h : SW enc w blk off d w') : Below w.heap.size w w' := by
  obtain ⟨n, os, rfl⟩ := h
  unfold sortWorld
  rw [Go.Sort.putRow_self enc (Go.Sort.ahead w n) blk off d hH]
  refine ⟨rfl, rfl, rfl, by rw [Go.Sort.size_grow]; exact Nat.le_add_right _ _, fun i hi => ?_⟩
  unfold Go.Sort.grow Go.Sort.ahead
  simp [Array.getElem?_append, hi]
theorem sw_cell {α : Type} [Inhabited α] (enc : α → Value) (w : World) (blk off n : Nat) (dk : Array α) (os : Array Obj) (a : Addr) (h1 : a.block ≠ blk) (h2 : a.block < w.heap.size) : (sortWorld enc w blk off n dk os).cell? a = w.cell? a := by
  unfold sortWorld
  rw [Go.Sort.cell?_grow _ _ _ (by rw [Go.Sort.size_putRow]; exact h2), Go.Sort.cell?_putRow_other enc _ blk off dk a (Or.inl h1)]
  rfl
theorem cmpI_neg (a b : Int) : cmpI a b < 0 ↔ a < b := by
  unfold cmpI
  split
  · omega
  · split <;> omega
theorem countP_sorted {l : List S36} {c : Int} : ∀ {a : List Nat}, a.Pairwise (fun j k => (sp l j).f2 ≤ (sp l k).f2) → a.countP (Scan.early l c) = (a.takeWhile (Scan.early l c)).length := by
  intro a
  induction a with
  | nil => intro _; rfl
  | cons x r ih =>
    intro h
    rw [List.pairwise_cons] at h
    by_cases e : Scan.early l c x = true
    · rw [List.countP_cons_of_pos e, List.takeWhile_cons, if_pos e, List.length_cons, ih h.2]
    · rw [List.countP_cons_of_neg e, List.takeWhile_cons, if_neg e, List.length_nil, List.countP_eq_zero]
      intro y hy
      have h1 := h.1 y hy
      unfold Scan.early at e ⊢
      simp only [decide_eq_true_eq] at e ⊢
      omega
def subs (l : List S36) (a : List Nat) (ha : ∀ x ∈ a, x < l.length) : Array {x : Nat // x < l.length} := (a.attach.map (fun x => ⟨x.1, ha x.1 x.2⟩)).toArray
theorem subs_size (l : List S36) (a : List Nat) (ha : ∀ x ∈ a, x < l.length) : (subs l a ha).size = a.length := by simp [subs]
theorem subs_val (l : List S36) (a : List Nat) (ha : ∀ x ∈ a, x < l.length) : (subs l a ha).toList.map (fun x => x.1) = a := by simp [subs]
theorem subs_at (l : List S36) (a : List Nat) (ha : ∀ x ∈ a, x < l.length) [Inhabited {x : Nat // x < l.length}] (j : Nat) (hj : j < a.length) : ((subs l a ha)[j]!).1 = a.getD j 0 := by
  rw [getElem!_pos (subs l a ha) j (by rw [subs_size]; exact hj)]
  simp [subs, hj]
set_option maxHeartbeats 1000000 in
theorem search_calls (w : World) (g bx c0 cap : Nat) (l : List S36) (ad : Addr) (b off N : Nat) (f : Nat → Value) (a : List Nat) (tv : Int) (hr : Kd.C k36 w (some ad) l.length l) (hl0 : 0 < l.length) (hrow : w.rowIs b 3 N f) (hoc : off + cap ≤ N) (hac : a.length ≤ cap) (hal : a.length ≤ 1000000)
    (hf : ∀ j, j < a.length → f (off + j) = .int .i64 (a.getD j 0 : Nat)) (ha : ∀ x ∈ a, x < l.length) (hs : a.Pairwise (fun j k => (sp l j).f2 ≤ (sp l k).f2))
    (hb : w.cell? ⟨bx, 0, none⟩ = some (.pointer (some ⟨g, 0, none⟩))) (hL : w.cell? ⟨g, 0, none⟩ = some (.slice (some ad) l.length c0)) (n1 : bx ≠ b) (n2 : g ≠ b) (n3 : ad.block ≠ b) :
    Calls Tryz.prog 26 #[.slice (some ⟨b, off, none⟩) a.length cap, .int .i64 tv, .func (.func 27) #[] #[.pointer (some ⟨bx, 0, none⟩)]] w fun e w' => (∃ q, e = .returned (.tuple #[.int .i64 ((a.takeWhile (Scan.early l tv)).length : Nat), .bool q])) ∧ Below w.heap.size w w' := by
  haveI : Inhabited {x : Nat // x < l.length} := ⟨⟨0, hl0⟩⟩
  have hH : Go.Sort.Holds (fun x : {x : Nat // x < l.length} => Value.int .i64 (x.1 : Nat)) w b off (subs l a ha) := fun j hj => by
    rw [subs_size] at hj
    exact ⟨by show _ = some (Value.int .i64 (((subs l a ha)[j]!).1 : Nat)); rw [hrow.cell (by omega), hf j hj, subs_at l a ha j hj], hrow.frozen _⟩
  have hneg : ∀ x : {x : Nat // x < l.length}, (cmpI (sp l x.1).f2 tv < 0) ↔ (sp l x.1).f2 < tv := fun x => cmpI_neg _ _
  have hsz := subs_size l a ha
  have key := Any.slices_BinarySearchFunc (P := Tryz.prog) (ρ := Tryz.laysSearch_ren) Tryz.laysSearch (fun x : {x : Nat // x < l.length} => Value.int .i64 (x.1 : Nat)) (fun _ => rfl) (.int .i64 tv) (fun x => cmpI (sp l x.1).f2 tv) 27 #[.pointer (some ⟨bx, 0, none⟩)] b off cap (subs l a ha) w
    ?_ ?_ hH hrow.lt (by rw [hsz]; omega) ?_
  · rw [hsz] at key
    refine key.mono ?_
    rintro e w' ⟨rfl, hw⟩
    have e1 : (subs l a ha).toList.countP (fun x => decide (cmpI (sp l x.1).f2 tv < 0)) = (a.takeWhile (Scan.early l tv)).length := by
      rw [← countP_sorted hs]
      conv => rhs; rw [← subs_val l a ha, List.countP_map]
      refine List.countP_congr fun x _ => ?_
      simp only [Function.comp, Scan.early, decide_eq_true_eq]
      exact hneg x
    exact ⟨⟨_, by rw [e1]⟩, sw_below hH hw⟩
  · intro args w'
    exact enters_ Tryz.func27 (by kernel_rfl) rfl args w'
  · intro m os dk hdk x
    have h1 : ∀ q : Addr, q.block ≠ b → ∀ v, w.cell? q = some v → (sortWorld (fun x : {x : Nat // x < l.length} => Value.int .i64 (x.1 : Nat)) w b off m dk os).cell? q = some v := fun q hq v hv => by
      rw [sw_cell _ _ _ _ _ _ _ _ hq (World.block_lt_of_cell? w q hv)]; exact hv
    obtain ⟨ad2, e2, _, _, h2⟩ := at_T36 hr ((x.1 : Nat) : Int) (by omega) (by have := x.2; omega)
    cases e2
    simp only [Int.toNat_natCast] at h2
    refine (clo_calls _ g bx x.1 l.length c0 _ tv ad x.2 (h1 _ n1 _ hb) (h1 _ n2 _ hL) (h1 _ (by unfold Addr.add; dsimp only; split <;> exact n3) _ h2)).mono ?_
    rintro e w' ⟨rfl, nd, rfl⟩
    refine ⟨?_, nd, #[], ?_⟩
    · unfold rd_T36 sp; rw [Int.toNat_natCast]; rfl
    · rw [Go.Sort.grow_empty]
  · intro x y hxy hy h1
    rw [hsz] at hy
    rw [hneg, subs_at l a ha _ (by omega)] at h1 ⊢
    rcases Nat.lt_or_ge x y with h | h
    · have := List.pairwise_iff_getElem.1 hs x y (by omega) hy h
      rw [List.getD_eq_getElem?_getD, List.getElem?_eq_getElem hy] at h1
      rw [List.getD_eq_getElem?_getD, List.getElem?_eq_getElem (by omega : x < a.length)]
      exact Int.lt_of_le_of_lt this h1
    · obtain rfl : x = y := by omega
      exact h1
end Go.Proofs.YtcmbpboeilojmaaGreat.Sw
