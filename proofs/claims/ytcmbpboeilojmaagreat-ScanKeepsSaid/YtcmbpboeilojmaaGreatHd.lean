/- What scan.Holds answers, told plainly, and its memory. -/
import Derived.Test.YtcmbpboeilojmaaGreatOn
import Derived.Test.YtcmbpboeilojmaaGreatSl
namespace Go.Proofs.YtcmbpboeilojmaaGreat.Sw
open Go Go.RowKit Go.Proofs.YtcmbpboeilojmaaGreatW.PrintWords Go.Proofs.YtcmbpboeilojmaaGreatW.PrintLast Go.Proofs.YtcmbpboeilojmaaGreatW.PrintMore Go.Proofs.YtcmbpboeilojmaaGreat.Mi Go.Proofs.YtcmbpboeilojmaaGreat.F Go.Proofs.YtcmbpboeilojmaaGreat.Scan
set_option linter.unusedVariables false
set_option linter.unusedSimpArgs false
def pairB (l : List S36) (h : List S48) (i : Nat) : Bool :=
  if 0 ≤ (ho h i).f0 then (match lastOf h (ho h i).f0 i with | some j => decide ((ho h j).f2 ≤ (sp l i).f1) | none => true) else true
def atB (l : List S36) (h : List S48) (regs : Int) (i : Nat) : Bool := oneB (sp l i) (ho h i) regs && pairB l h i
def onceB (s : List Int) : Bool := decide s.Nodup && s.all (fun x => decide (0 ≤ x) && decide (x < (s.length : Int)))
def mayB (l : List S36) (regs : Int) : Bool := decide (0 ≤ regs) && decide (regs ≤ 64) && ordB l
def holdsB (l : List S36) (h : List S48) (regs : Int) : Bool := mayB l regs && decide (h.length = l.length) && (List.range l.length).all (atB l h regs) && onceB (slotsOf h)
theorem pairB_iff (l : List S36) (h : List S48) (i : Nat) : pairB l h i = true ↔ PairsS l h i := by
  unfold pairB PairsS
  by_cases c : 0 ≤ (ho h i).f0
  · rw [if_pos c]
    cases hl : lastOf h (ho h i).f0 i with
    | none => exact ⟨fun _ _ j hj => (by cases hj), fun _ => rfl⟩
    | some j =>
      show decide _ = true ↔ _
      rw [decide_eq_true_eq]
      exact ⟨fun h1 _ q hq => (by cases hq; exact h1), fun h1 => h1 c j rfl⟩
  · rw [if_neg c]
    exact ⟨fun _ hc => absurd hc c, fun _ => rfl⟩
theorem onceB_iff (s : List Int) : onceB s = true ↔ (s.Nodup ∧ ∀ x ∈ s, 0 ≤ x ∧ x < (s.length : Int)) := by
  unfold onceB
  rw [Bool.and_eq_true, decide_eq_true_eq, List.all_eq_true]
  simp
/-- what Holds says, as a proposition. -/
theorem holdsB_iff {l : List S36} {h : List S48} {regs : Int} (hw : ∀ x ∈ h, wf x.f2) : holdsB l h regs = true ↔ (0 ≤ regs ∧ regs ≤ 64 ∧ ordB l = true) ∧ HoldsP l h regs := by
  unfold holdsB mayB
  simp only [Bool.and_eq_true, decide_eq_true_eq]
  have hh : ∀ i, wf (ho h i).f2 := fun i => by
    by_cases e : i < h.length
    · rw [ho_lt e]; exact hw _ (List.getElem_mem e)
    · unfold ho
      rw [List.getD_eq_getElem?_getD, List.getElem?_eq_none (by omega)]
      exact wf_zero
  constructor
  · rintro ⟨⟨⟨⟨⟨h1, h2⟩, h3⟩, h4⟩, h5⟩, h6⟩
    have hO := ordB_ord h3
    rw [List.all_eq_true] at h5
    have ha : ∀ i, i < l.length → oneB (sp l i) (ho h i) regs = true ∧ pairB l h i = true := fun i hi => by
      have := h5 i (List.mem_range.2 hi)
      unfold atB at this
      rwa [Bool.and_eq_true] at this
    exact ⟨⟨h1, h2, h3⟩, h4, fun i hi => (oneB_iff (hO.low i hi).1 (hO.low i hi).2.1 (hh i)).1 (ha i hi).1, fun i hi => (pairB_iff _ _ _).1 (ha i hi).2, (onceB_iff _).1 h6⟩
  · rintro ⟨⟨h1, h2, h3⟩, H⟩
    have hO := ordB_ord h3
    refine ⟨⟨⟨⟨⟨h1, h2⟩, h3⟩, H.hl⟩, ?_⟩, (onceB_iff _).2 H.sl⟩
    rw [List.all_eq_true]
    intro i hi
    have hi := List.mem_range.1 hi
    unfold atB
    rw [Bool.and_eq_true]
    exact ⟨(oneB_iff (hO.low i hi).1 (hO.low i hi).2.1 (hh i)).2 (H.ok i hi), (pairB_iff _ _ _).2 (H.pr i hi)⟩
theorem holdsB_bad {l : List S36} {h : List S48} {regs : Int} {i : Nat} (hi : i < l.length) (hb : oneB (sp l i) (ho h i) regs = false ∨ pairB l h i = false) : holdsB l h regs = false := by
  unfold holdsB
  have : (List.range l.length).all (atB l h regs) = false := by
    rw [List.all_eq_false]
    refine ⟨i, List.mem_range.2 hi, ?_⟩
    unfold atB
    rcases hb with hb | hb <;> simp [hb]
  rw [this, Bool.and_false, Bool.false_and]
theorem holdsB_end {l : List S36} {h : List S48} {regs : Int} (hm : mayB l regs = true) (hl : h.length = l.length) (ha : ∀ i, i < l.length → atB l h regs i = true) : holdsB l h regs = onceB (slotsOf h) := by
  unfold holdsB
  have : (List.range l.length).all (atB l h regs) = true := by
    rw [List.all_eq_true]
    exact fun i hi => ha i (List.mem_range.1 hi)
  rw [this, hm, decide_eq_true hl]
  simp

/-! ### memory -/
def endV (h : List S48) (r : Int) (k : Nat) : Int := match lastOf h r k with | some j => (ho h j).f2 | none => 0
def endF (h : List S48) (k : Nat) : Nat → Value := fun r => .int .i64 (endV h (r : Int) k)
def wasF (h : List S48) (k : Nat) : Nat → Value := fun r => .bool (lastOf h (r : Int) k).isSome
theorem rowIs_grown {w w1 : World} {b t n : Nat} {f : Nat → Value} (h : w.rowIs b t n f) {row : Option Nat} (hg : w.grownBy w1 row) (hne : some b ≠ row) : w1.rowIs b t n f := h.of_block (hg.block b h.lt hne)
structure Hd (w0 w : World) (e8 e9 : Nat) (h : List S48) (k : Nat) : Prop where
  E : w.rowIs e8 84 64 (endF h k)
  W : w.rowIs e9 40 64 (wasF h k)
  a8 : w0.heap.size ≤ e8
  a9 : w0.heap.size ≤ e9
  B : Below w0.heap.size w0 w
abbrev RI (w0 w : World) (v : Value) (xs : List Int) : Prop := Kd.R (Kd.int .i64) 3 w w0.heap.size (fun _ => True) v xs
section
variable {w0 w : World} {e8 e9 : Nat} {h : List S48} {k : Nat}
theorem Hd.below {w' : World} (H : Hd w0 w e8 e9 h k) (hb : Below w.heap.size w w') : Hd w0 w' e8 e9 h k :=
  ⟨rowIs_below H.E hb, rowIs_below H.W hb, H.a8, H.a9, below_then H.B H.B.size hb⟩
theorem Hd.drew (H : Hd w0 w e8 e9 h k) : Hd w0 w.drew e8 e9 h k := H.below (below_drew (Below.refl _ _))
theorem R_ne {v : Value} {xs : List Int} (h : RI w0 w v xs) {b t n : Nat} {f : Nat → Value} (hr : w.rowIs b t n f) (ht : t ≠ 3) : some b ≠ v.ownBlock := by
  intro e
  obtain ⟨inner, ho⟩ := Kd.R_own h
  obtain ⟨cells, hc⟩ := own_typed ho b e.symm
  obtain ⟨c, hc2, _⟩ := hr
  rw [hc2] at hc
  injection hc with hc
  injection hc with _ hc
  exact ht hc
theorem Hd.grown {w1 : World} {v : Value} {xs : List Int} (H : Hd w0 w e8 e9 h k) (hR : RI w0 w v xs) (hg : w.grownBy w1 v.ownBlock) (hB : Below w0.heap.size w0 w1) : Hd w0 w1 e8 e9 h k :=
  ⟨rowIs_grown H.E hg (R_ne hR H.E (by decide)), rowIs_grown H.W hg (R_ne hR H.W (by decide)), H.a8, H.a9, hB⟩
theorem lastOf_succ (h : List S48) (r : Int) (k : Nat) : lastOf h r (k + 1) = if (ho h k).f0 = r then some k else lastOf h r k := rfl
theorem endF_off (hn : (ho h k).f0 < 0) : endF h (k + 1) = endF h k ∧ wasF h (k + 1) = wasF h k := by
  constructor <;> funext r
  · unfold endF endV; rw [lastOf_succ, if_neg (by omega)]
  · unfold wasF; rw [lastOf_succ, if_neg (by omega)]
theorem endF_on {r : Nat} (hn : (ho h k).f0 = (r : Int)) (j : Nat) : endF h (k + 1) j = (if j = r then .int .i64 (ho h k).f2 else endF h k j) ∧ wasF h (k + 1) j = (if j = r then .bool true else wasF h k j) := by
  constructor
  · unfold endF endV; rw [lastOf_succ, hn]
    by_cases e : j = r
    · rw [if_pos (by omega), if_pos e]
    · rw [if_neg (by omega), if_neg e]
  · unfold wasF; rw [lastOf_succ, hn]
    by_cases e : j = r
    · rw [if_pos (by omega), if_pos e]; rfl
    · rw [if_neg (by omega), if_neg e]
/-- a home without a register. -/
theorem Hd.next (H : Hd w0 w e8 e9 h k) (hn : (ho h k).f0 < 0) : Hd w0 w e8 e9 h (k + 1) :=
  ⟨by rw [(endF_off hn).1]; exact H.E, by rw [(endF_off hn).2]; exact H.W, H.a8, H.a9, H.B⟩
theorem R_setRow {v : Value} {xs : List Int} (hR : RI w0 w v xs) {b t n : Nat} {f : Nat → Value} (hr : w.rowIs b t n f) (ht : t ≠ 3) (j : Nat) (u : Value) : RI w0 (w.setCell ⟨b, j, none⟩ u) v xs := by
  obtain ⟨c, hc, _⟩ := hr
  exact Kd.R_set hR hc (fun q hq => by
    have : q = 3 := by simpa [Kd.E, Kd.int, Kd.scalar] using hq
    omega) j u
/-- a home with one: the two stores. -/
theorem Hd.put (H : Hd w0 w e8 e9 h k) {r : Nat} (hr : r < 64) (hn : (ho h k).f0 = (r : Int)) {v : Value} {xs : List Int} (hR : RI w0 w v xs) {x : Int} (hx : x = (ho h k).f2) :
    Hd w0 ((w.setCell ⟨e9, r, none⟩ (.bool true)).setCell ⟨e8, r, none⟩ (.int .i64 x)) e8 e9 h (k + 1) ∧ RI w0 ((w.setCell ⟨e9, r, none⟩ (.bool true)).setCell ⟨e8, r, none⟩ (.int .i64 x)) v xs := by
  subst hx
  have n1 : e8 ≠ e9 := rowIs_ne H.E H.W (by decide)
  have hE2 := H.E.setOther (a := ⟨e9, r, none⟩) n1 (.bool true)
  refine ⟨⟨(hE2.set r _).congr fun j hj => ?_, ((H.W.set r (.bool true)).setOther (a := ⟨e8, r, none⟩) (fun e => n1 e.symm) _).congr fun j hj => ?_, H.a8, H.a9, (H.B.setCell H.a9 _).setCell H.a8 _⟩, R_setRow (R_setRow hR H.W (by decide) r (.bool true)) hE2 (by decide) r _⟩
  · rw [(endF_on hn j).1]
  · rw [(endF_on hn j).2]
theorem Hd.start (w0 w1 w2 : World) (h : List S48) (hb : Below w0.heap.size w0 w1) (he : w2 = (w1.alloc (.cells (List.replicate 64 (Value.int .i64 0)).toArray 84)).alloc (.cells (List.replicate 64 (Value.bool false)).toArray 40)) :
    Hd w0 w2 w1.heap.size (w1.heap.size + 1) h 0 := by
  subst he
  have hs := hb.size
  have h1 := World.rowIs_alloc w1 (List.replicate 64 (Value.int .i64 0)).toArray 84 (endF h 0) (fun i hi => by
    have hi' : i < 64 := by rw [List.size_toArray, List.length_replicate] at hi; exact hi
    rw [List.getElem?_toArray, List.getElem?_replicate, if_pos hi']
    rfl)
  have h2 := World.rowIs_alloc (w1.alloc (.cells (List.replicate 64 (Value.int .i64 0)).toArray 84)) (List.replicate 64 (Value.bool false)).toArray 40 (wasF h 0) (fun i hi => by
    have hi' : i < 64 := by rw [List.size_toArray, List.length_replicate] at hi; exact hi
    rw [List.getElem?_toArray, List.getElem?_replicate, if_pos hi']
    rfl)
  have e1 : (List.replicate 64 (Value.int .i64 0)).toArray.size = 64 := by rw [List.size_toArray, List.length_replicate]
  have e2 : (List.replicate 64 (Value.bool false)).toArray.size = 64 := by rw [List.size_toArray, List.length_replicate]
  rw [e1] at h1
  rw [e2, World.size_alloc] at h2
  exact ⟨h1.alloc _, h2, hs, by omega, below_alloc (below_alloc hb _) _⟩
theorem slots_len (h : List S48) (k : Nat) : (slotsOf (h.take k)).length ≤ k := by
  rw [slotsOf_len]
  have := List.countP_le_length (p := fun j => decide (0 ≤ (ho (h.take k) j).f1)) (l := List.range (h.take k).length)
  rw [List.length_range, List.length_take] at this
  rw [List.length_take]
  omega
end
end Go.Proofs.YtcmbpboeilojmaaGreat.Sw
