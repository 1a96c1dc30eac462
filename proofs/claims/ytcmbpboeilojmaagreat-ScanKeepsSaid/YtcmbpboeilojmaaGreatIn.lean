/- slices.Insert at []int, laid here and told over a row of the call's own. -/
import Derived.Test.YtcmbpboeilojmaaGreatSl
import Derived.Shelf.Spec.SlicesInsert
import Derived.Shelf.Spec.SlicesInsertGrow
namespace Go.Proofs
open Go.Shelf
def Tryz.laysInsert_ren : Go.Shelf.Ren := ⟨fun | 21 => 28 | 27 => 61 | 28 => 62 | 35 => 105 | 39 => 124 | n => n, fun | 22 => 22 | 3 => 3 | 4 => 4 | 0 => 0 | n => n, fun | n => n⟩
theorem Tryz.laysInsert : Go.Proofs.Lays2.n21 Tryz.prog Tryz.laysInsert_ren := {
  mixed := by kernel_rfl
  f21 := Tryz.func28.trans (congrArg some (by kernel_rfl))
  f27 := Tryz.func61.trans (congrArg some (by kernel_rfl))
  f28 := Tryz.func62.trans (congrArg some (by kernel_rfl))
  f35 := Tryz.func105.trans (congrArg some (by kernel_rfl))
  f39 := Tryz.func124.trans (congrArg some (by kernel_rfl))
  t0 := Tryz.underlying0
  a0 := Tryz.isAgg0
  z0 := Tryz.sizeOf0
  v0 := Tryz.zeroValue0
  t3 := Tryz.underlying3
  a3 := Tryz.isAgg3
  z3 := Tryz.sizeOf3
  v3 := Tryz.zeroValue3
  t4 := Tryz.underlying4
  a4 := Tryz.isAgg4
  z4 := Tryz.sizeOf4
  v4 := Tryz.zeroValue4
  t22 := Tryz.underlying22
  a22 := Tryz.isAgg22
  z22 := Tryz.sizeOf22
  v22 := Tryz.zeroValue22
  i3 := by kernel_rfl }
end Go.Proofs
namespace Go.Proofs.YtcmbpboeilojmaaGreat.Sw
open Go Go.RowKit Go.Shelf Go.Proofs.YtcmbpboeilojmaaGreatW.PrintWords Go.Proofs.YtcmbpboeilojmaaGreatW.PrintLast Go.Proofs.YtcmbpboeilojmaaGreatW.PrintMore Go.Proofs.YtcmbpboeilojmaaGreat.F Go.Proofs.YtcmbpboeilojmaaGreat.Scan
set_option linter.unusedVariables false
set_option linter.unusedSimpArgs false

theorem rowIs_setCells {b t n : Nat} : ∀ (vs : List Value) (o : Nat) {w : World} {f : Nat → Value}, w.rowIs b t n f → (w.setCells b o vs).rowIs b t n (fun j => if o ≤ j ∧ j < o + vs.length then vs.getD (j - o) undef else f j) := by
  intro vs
  induction vs with
  | nil => intro o w f h; exact h.congr fun i _ => by rw [if_neg (by simp only [List.length_nil]; omega)]
  | cons v r ih =>
    intro o w f h
    rw [World.setCells]
    refine (ih (o + 1) (h.set o v)).congr fun i _ => ?_
    rw [List.length_cons]
    by_cases e : i = o
    · subst e
      rw [if_neg (by omega), if_pos rfl, if_pos (by omega), Nat.sub_self]; rfl
    · by_cases e2 : o + 1 ≤ i ∧ i < o + 1 + r.length
      · rw [if_pos e2, if_pos (by omega), show i - o = (i - (o + 1)) + 1 by omega]; rfl
      · rw [if_neg e2, if_neg e, if_neg (by omega)]
theorem rowIs_setCells_far {b t n c : Nat} {f : Nat → Value} {w : World} (h : w.rowIs c t n f) (hne : c ≠ b) (vs : List Value) (o : Nat) : (w.setCells b o vs).rowIs c t n f := h.of_block (setCells_far vs o c hne)
theorem below_setCells {B b : Nat} {w0 w : World} (h : Below B w0 w) (hb : B ≤ b) : ∀ (vs : List Value) (o : Nat), Below B w0 (w.setCells b o vs) := by
  intro vs
  induction vs generalizing w with
  | nil => intro o; exact h
  | cons v r ih => intro o; rw [World.setCells]; exact ih (h.setCell hb v) (o + 1)
def encN (a : List Nat) : List Value := a.map (fun x => .int .i64 (x : Nat))
theorem encN_at (a : List Nat) (j : Nat) (v : Value) (h : (encN a)[j]? = some v) : j < a.length ∧ v = .int .i64 (a.getD j 0 : Nat) := by
  unfold encN at h
  rw [List.getElem?_map] at h
  cases hj : a[j]? with
  | none => rw [hj] at h; cases h
  | some x =>
    rw [hj] at h
    cases h
    refine ⟨(List.getElem?_eq_some_iff.1 hj).1, ?_⟩
    rw [List.getD_eq_getElem?_getD, hj]; rfl
theorem encN_one (a : List Nat) : ∀ v ∈ encN a, v.oneCell' = true := by
  intro v hv
  unfold encN at hv
  obtain ⟨x, _, rfl⟩ := List.mem_map.1 hv
  rfl
theorem ins_getD (a : List Nat) (i x j : Nat) (hi : i ≤ a.length) : (a.take i ++ x :: a.drop i).getD j 0 = if j < i then a.getD j 0 else if j = i then x else a.getD (j - 1) 0 := by
  rw [List.getD_eq_getElem?_getD, List.getElem?_append, List.length_take, Nat.min_eq_left hi]
  by_cases h1 : j < i
  · rw [if_pos h1, if_pos h1, List.getElem?_take, if_pos h1, List.getD_eq_getElem?_getD]
  · rw [if_neg h1, if_neg h1]
    by_cases h2 : j = i
    · rw [if_pos h2, h2, Nat.sub_self]; rfl
    · rw [if_neg h2, show j - i = (j - (i + 1)) + 1 by omega, List.getElem?_cons_succ, List.getElem?_drop, show i + (j - (i + 1)) = j - 1 by omega, List.getD_eq_getElem?_getD]
theorem encN_getD (b : List Nat) (zs : List Value) (j : Nat) (hj : j < b.length) : (encN b ++ zs).getD j undef = .int .i64 (b.getD j 0 : Nat) := by
  rw [List.getD_eq_getElem?_getD, List.getElem?_append_left (by simpa [encN] using hj), List.getD_eq_getElem?_getD]
  unfold encN
  rw [List.getElem?_map, List.getElem?_eq_getElem hj]
  rfl
/-- what a call that writes the row alone leaves. -/
def Frame (B : Nat) (w w' : World) : Prop := (∀ w0, Below B w0 w → Below B w0 w') ∧ ∀ c t n f, t ≠ 3 → w.rowIs c t n f → w'.rowIs c t n f
theorem Frame.of_below {B : Nat} {w w' : World} (hB : B ≤ w.heap.size) (h : Below w.heap.size w w') : Frame B w w' := ⟨fun w0 h0 => below_then h0 hB h, fun c t n f _ hr => rowIs_below hr h⟩

set_option maxHeartbeats 1000000 in
theorem insert_room (w : World) (B b off cap N : Nat) (f : Nat → Value) (a : List Nat) (i x vb : Nat) (hr : w.rowIs b 3 N f) (hB : B ≤ b) (hoc : off + cap ≤ N) (hN : N ≤ 9223372036854775807) (hf : ∀ j, j < a.length → f (off + j) = .int .i64 (a.getD j 0 : Nat))
    (hi : i ≤ a.length) (hroom : a.length + 1 ≤ cap) (hvb : w.heap[vb]? = some (.cells #[.int .i64 x] 3 (0, 0))) (hne : vb ≠ b) :
    Calls Tryz.prog 28 #[.slice (some ⟨b, off, none⟩) a.length cap, .int .i64 i, .slice (some ⟨vb, 0, none⟩) 1 1] w fun e w' => ∃ av', e = .returned av' ∧ ActIs w' B av' (a.take i ++ x :: a.drop i) ∧ Frame B w w' := by
  have hvs : ∀ j v, [Value.int .i64 x][j]? = some v → w.cell? ⟨vb, 0 + j, none⟩ = some v := by
    intro j v hj
    match j, hj with
    | 0, hj => cases hj; exact (blk_cell hvb 0).trans rfl
    | j + 1, hj => simp at hj
  have h1v : ∀ v ∈ [Value.int .i64 x], v.oneCell' = true := by intro v hv; rw [List.mem_singleton] at hv; subst hv; rfl
  have hlen : (a.take i ++ x :: a.drop i).length = a.length + 1 := by rw [List.length_append, List.length_cons, List.length_take, List.length_drop]; omega
  by_cases hlt : i < a.length
  · have hcell : ∀ j, j < a.length + 1 → ∃ v, w.cell? ⟨b, off + j, none⟩ = some v := fun j hj => ⟨_, hr.cell (by omega)⟩
    refine (Any2.slices_Insert_int_shift (P := Tryz.prog) (ρ := Tryz.laysInsert_ren) Tryz.laysInsert b off a.length cap i vb 0 1 1 (encN a) [.int .i64 x] w hlt (by omega) hroom (by omega) hne (by simp [encN]) rfl
      (fun j v hj => by obtain ⟨h1, h2⟩ := encN_at a j v hj; rw [hr.cell (by omega), hf j h1, h2]) (fun j hj => by obtain ⟨v, hv⟩ := hcell j hj; rw [hv]; rfl) (fun j _ => hr.frozen _) hvs (encN_one a) h1v
      3 3 1 N ?_ ?_ (by omega) ?_ ?_).mono ?_
    · simp [World.shape?, hvb]
    · obtain ⟨cs, h1, h2, _⟩ := hr
      simp [World.shape?, h1, h2]
    · simp [World.frozen?, hvb]
    · simp [World.frozen?, hvb]
    rintro e w' ⟨rfl, rfl⟩
    have r1 := rowIs_setCells (encN a |>.drop i) (off + (i + 1)) hr.drew
    have r2 := rowIs_setCells [.int .i64 x] (off + i) r1
    refine ⟨_, rfl, .inr ⟨b, off, cap, N, _, by rw [hlen], r2, hB, hoc, by rw [hlen]; exact hroom, hN, fun j hj => ?_⟩, fun w0 h0 => below_setCells (below_setCells (below_drew h0) hB _ _) hB _ _, fun c t n f ht hc => rowIs_setCells_far (rowIs_setCells_far hc.drew (rowIs_ne hc hr ht) _ _) (rowIs_ne hc hr ht) _ _⟩
    rw [hlen] at hj
    have hel : ((encN a).drop i).length = a.length - i := by simp [encN]
    simp only [List.length_singleton, hel]
    rcases Nat.lt_trichotomy j i with h1 | h1 | h1
    · rw [if_neg (by omega), if_neg (by omega), hf j (by omega), ins_getD _ _ _ _ hi, if_pos h1]
    · subst h1
      rw [if_pos (by omega), Nat.sub_self, ins_getD _ _ _ _ hi, if_neg (Nat.lt_irrefl _), if_pos rfl]
      rfl
    · rw [if_neg (by omega), if_pos (by omega), ins_getD _ _ _ _ hi, if_neg (by omega), if_neg (by omega), show off + j - (off + (i + 1)) = j - (i + 1) by omega]
      rw [List.getD_eq_getElem?_getD, List.getElem?_drop, show i + (j - (i + 1)) = j - 1 by omega]
      unfold encN
      rw [List.getElem?_map, List.getElem?_eq_getElem (by omega : j - 1 < a.length), List.getD_eq_getElem?_getD, List.getElem?_eq_getElem (by omega : j - 1 < a.length)]
      rfl
  · obtain rfl : i = a.length := by omega
    refine (Any2.slices_Insert_int_end_room (P := Tryz.prog) (ρ := Tryz.laysInsert_ren) Tryz.laysInsert b off a.length cap vb 0 1 1 [.int .i64 x] w (by omega) hroom (by omega) rfl
      (fun j hj => by rw [hr.cell (by omega)]; rfl) (fun j _ => hr.frozen _) hvs h1v).mono ?_
    rintro e w' ⟨rfl, rfl⟩
    refine ⟨_, rfl, .inr ⟨b, off, cap, N, _, by rw [hlen], rowIs_setCells _ _ hr, hB, hoc, by rw [hlen]; exact hroom, hN, fun j hj => ?_⟩, fun w0 h0 => below_setCells h0 hB _ _, fun c t n f ht hc => rowIs_setCells_far hc (rowIs_ne hc hr ht) _ _⟩
    rw [hlen] at hj
    simp only [List.length_singleton]
    by_cases hj2 : j < a.length
    · rw [if_neg (by omega), hf j hj2]
      simp [List.getElem?_append, hj2]
    · obtain rfl : j = a.length := by omega
      rw [if_pos (by omega), Nat.sub_self]
      simp

theorem rowIs_alloc_list (w : World) (c : Array Value) : (w.alloc (.cells c 3)).rowIs w.heap.size 3 c.size (fun j => c.toList.getD j undef) := World.rowIs_alloc w c 3 _ fun i hi => by
  rw [List.getD_eq_getElem?_getD, Array.getElem?_toList, Array.getElem?_eq_getElem hi]; rfl
set_option maxHeartbeats 1000000 in
theorem insert_grow (w : World) (B : Nat) (av : Value) (a : List Nat) (i x vb : Nat) (h : ActIs w B av a) (hBw : B ≤ w.heap.size) (hi : i ≤ a.length) (hal : a.length ≤ 1000000) (A : Option Addr) (cap : Nat) (hav : av = .slice A a.length cap) (hno : ¬ (a.length + 1 ≤ cap)) (hvb : w.heap[vb]? = some (.cells #[.int .i64 x] 3 (0, 0))) :
    Calls Tryz.prog 28 #[av, .int .i64 i, .slice (some ⟨vb, 0, none⟩) 1 1] w fun e w' => ∃ av', e = .returned av' ∧ ActIs w' B av' (a.take i ++ x :: a.drop i) ∧ Frame B w w' := by
  have hvs : ∀ j v, [Value.int .i64 x][j]? = some v → w.cell? ⟨vb, 0 + j, none⟩ = some v := by
    intro j v hj
    match j, hj with
    | 0, hj => cases hj; exact (blk_cell hvb 0).trans rfl
    | j + 1, hj => simp at hj
  have h1v : ∀ v ∈ [Value.int .i64 x], v.oneCell' = true := by intro v hv; rw [List.mem_singleton] at hv; subst hv; rfl
  have hlen : (a.take i ++ x :: a.drop i).length = a.length + 1 := by rw [List.length_append, List.length_cons, List.length_take, List.length_drop]; omega
  have hnc : a.length ≤ cap := by
    obtain ⟨A', c', h1, h2, _⟩ : ∃ A' c', av = .slice A' a.length c' ∧ a.length ≤ c' ∧ True := by
      rcases h with ⟨rfl, rfl⟩ | ⟨b, off, cap, N, f, h1, h2, h3, h4, h5, h6, h7⟩
      · exact ⟨none, 0, rfl, Nat.le_refl _, trivial⟩
      · exact ⟨_, cap, h1, h5, trivial⟩
    rw [hav] at h1
    injection h1 with _ _ h1
    omega
  have hcs : ∀ ad, A = some ad → ∀ j v, (encN a)[j]? = some v → w.cell? (ad.add j) = some v := by
    intro ad hA j v hj
    obtain ⟨h1, h2⟩ := encN_at a j v hj
    rcases h with ⟨rfl, rfl⟩ | ⟨b, off, cap', N, f, h3, h4, h5, h6, h7, h8, h9⟩
    · exact absurd h1 (Nat.not_lt_zero _)
    · rw [hav, hA] at h3
      injection h3 with h3 _ _
      injection h3 with h3
      rw [h3, Addr.add_lit, h4.cell (by omega), h9 j h1, h2]
  have hz : ∀ need, need ≤ 1000001 → need ≤ grownCap w need cap 3 ∧ grownCap w need cap 3 ≤ 9223372036854775807 := fun need hn => ⟨grownCap_ge _ _ _ _, grownCap_le_maxLen _ _ _ _ (by simp only [maxLen]; omega)⟩
  obtain ⟨g1, g2⟩ := hz (a.length + 1) (by omega)
  subst hav
  by_cases hlt : i < a.length
  · obtain ⟨ad, rfl⟩ : ∃ ad, A = some ad := by
      rcases h with ⟨h1, rfl⟩ | ⟨b, off, cap', N, f, h3, _⟩
      · exact absurd hlt (Nat.not_lt_zero _)
      · injection h3 with h3; exact ⟨_, h3⟩
    rcases h with ⟨h1, rfl⟩ | ⟨b, off, cap', N, f, h3, h4, h5, h6, h7, h8, h9⟩
    · exact absurd hlt (Nat.not_lt_zero _)
    injection h3 with h3 _ e3
    injection h3 with h3
    subst h3 e3
    refine (Any2.slices_Insert_int_grow (P := Tryz.prog) (ρ := Tryz.laysInsert_ren) Tryz.laysInsert b off a.length cap i vb 0 1 1 (encN a) [.int .i64 x] w hlt (by omega) hnc (by omega) (by omega) (by simp [encN]) rfl
      (fun j v hj => by have := hcs _ rfl j v hj; rwa [Addr.add_lit] at this) hvs (encN_one a) h1v).mono ?_
    rintro e w' ⟨rfl, rfl⟩
    have r0 := rowIs_alloc_list w (((encN a).take i).toArray ++ Builtin.zeroCells (Value.int .i64 0).cells (a.length + 1 - i) ++ Builtin.zeroCells (Value.int .i64 0).cells (grownCap w (a.length + 1) cap 3 - (a.length + 1)))
    have hsz : (((encN a).take i).toArray ++ Builtin.zeroCells (Value.int .i64 0).cells (a.length + 1 - i) ++ Builtin.zeroCells (Value.int .i64 0).cells (grownCap w (a.length + 1) cap 3 - (a.length + 1))).size = grownCap w (a.length + 1) cap 3 := by
      simp only [Array.size_append, size_zeroCells, List.size_toArray, Value.cells, List.length_take]
      simp only [encN, List.length_map]
      show min i a.length + (a.length + 1 - i) * 1 + (grownCap w (a.length + 1) cap 3 - (a.length + 1)) * 1 = _
      omega
    have r1 := rowIs_setCells [.int .i64 x] i r0.drew
    have r2 := rowIs_setCells (encN a |>.drop i) (i + 1) r1.drew
    rw [hsz] at r2
    have hb1 : Below w.heap.size w (w.alloc (.cells (((encN a).take i).toArray ++ Builtin.zeroCells (Value.int .i64 0).cells (a.length + 1 - i) ++ Builtin.zeroCells (Value.int .i64 0).cells (grownCap w (a.length + 1) cap 3 - (a.length + 1))) 3)) := below_alloc (Below.refl _ _) _
    refine ⟨_, rfl, .inr ⟨w.heap.size, 0, grownCap w (a.length + 1) cap 3, _, _, by rw [hlen]; rfl, r2, hBw, by omega, by rw [hlen]; exact g1, g2, fun j hj => ?_⟩, .of_below hBw (below_setCells (below_drew (below_setCells (below_drew hb1) (Nat.le_refl _) _ _)) (Nat.le_refl _) _ _)⟩
    rw [hlen] at hj
    have hel : ((encN a).drop i).length = a.length - i := by simp [encN]
    simp only [List.length_singleton, hel, Nat.zero_add]
    rcases Nat.lt_trichotomy j i with h1 | h1 | h1
    · rw [if_neg (by omega), if_neg (by omega), ins_getD _ _ _ _ hi, if_pos h1, Array.toList_append, Array.toList_append, List.append_assoc]
      rw [show (encN a).take i = encN (a.take i) by simp [encN], encN_getD _ _ _ (by rw [List.length_take]; omega)]
      rw [List.getD_eq_getElem?_getD, List.getElem?_take, if_pos h1, List.getD_eq_getElem?_getD]
    · subst h1
      rw [if_neg (by omega), if_pos (by omega), Nat.sub_self, ins_getD _ _ _ _ hi, if_neg (Nat.lt_irrefl _), if_pos rfl]
      rfl
    · rw [if_pos (by omega), ins_getD _ _ _ _ hi, if_neg (by omega), if_neg (by omega)]
      rw [List.getD_eq_getElem?_getD, List.getElem?_drop, show i + (j - (i + 1)) = j - 1 by omega]
      unfold encN
      rw [List.getElem?_map, List.getElem?_eq_getElem (by omega : j - 1 < a.length), List.getD_eq_getElem?_getD, List.getElem?_eq_getElem (by omega : j - 1 < a.length)]
      rfl
  · obtain rfl : i = a.length := by omega
    refine (Any2.slices_Insert_int_end_grow (P := Tryz.prog) (ρ := Tryz.laysInsert_ren) Tryz.laysInsert A a.length cap vb 0 1 1 (encN a) [.int .i64 x] w (by omega) hnc (by omega) (by omega) (by simp [encN]) rfl ?_ hcs hvs h1v).mono ?_
    · intro hA
      rcases h with ⟨h1, rfl⟩ | ⟨b, off, cap', N, f, h3, _⟩
      · rfl
      · rw [hA] at h3; injection h3 with h3; cases h3
    rintro e w' ⟨rfl, rfl⟩
    refine ⟨_, rfl, .inr ⟨w.heap.size, 0, grownCap w (a.length + 1) cap 3, _, _, by rw [hlen]; rfl, rowIs_alloc_list w.drew _, hBw, ?_, by rw [hlen]; exact g1, ?_, fun j hj => ?_⟩, .of_below hBw (below_alloc (below_drew (Below.refl _ _)) _)⟩
    · simp only [Array.size_append, size_zeroCells, List.size_toArray, List.length_append, List.length_singleton, Value.cells]
      simp only [encN, List.length_map]
      show 0 + grownCap w (a.length + 1) cap 3 ≤ a.length + 1 + (grownCap w (a.length + 1) cap 3 - (a.length + 1)) * 1
      omega
    · simp only [Array.size_append, size_zeroCells, List.size_toArray, List.length_append, List.length_singleton, Value.cells]
      simp only [encN, List.length_map]
      show a.length + 1 + (grownCap w (a.length + 1) cap 3 - (a.length + 1)) * 1 ≤ _
      omega
    · rw [hlen] at hj
      simp only [Nat.zero_add, List.take_length, List.drop_length]
      rw [show encN a ++ [Value.int .i64 x] = encN (a ++ [x]) by simp [encN]]
      rw [Array.toList_append]
      exact encN_getD _ _ _ (by simpa using hj)
/-- slices.Insert of one number, whatever room there is. -/
theorem insert_calls (w : World) (B : Nat) (av : Value) (a : List Nat) (i x vb : Nat) (h : ActIs w B av a) (hBw : B ≤ w.heap.size) (hi : i ≤ a.length) (hal : a.length ≤ 1000000) (hvb : w.heap[vb]? = some (.cells #[.int .i64 x] 3 (0, 0))) (hne : ∀ b off n c, av = .slice (some ⟨b, off, none⟩) n c → vb ≠ b) :
    Calls Tryz.prog 28 #[av, .int .i64 i, .slice (some ⟨vb, 0, none⟩) 1 1] w fun e w' => ∃ av', e = .returned av' ∧ ActIs w' B av' (a.take i ++ x :: a.drop i) ∧ Frame B w w' := by
  have h' := h
  rcases h with ⟨rfl, rfl⟩ | ⟨b, off, cap, N, f, rfl, h4, h5, h6, h7, h8, h9⟩
  · exact insert_grow w B _ [] i x vb h' hBw hi hal none 0 rfl (by simp) hvb
  · by_cases hroom : a.length + 1 ≤ cap
    · exact insert_room w B b off cap N f a i x vb h4 h5 h6 h8 h9 hi hroom hvb (hne _ _ _ _ rfl)
    · exact insert_grow w B _ a i x vb h' hBw hi hal _ cap rfl hroom hvb
end Go.Proofs.YtcmbpboeilojmaaGreat.Sw
