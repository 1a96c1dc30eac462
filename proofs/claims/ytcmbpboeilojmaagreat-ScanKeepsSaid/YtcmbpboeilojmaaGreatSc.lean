/- Linear scan, told plainly: what Assign makes of spans in order, and Holds told twice. No program in sight (the pure part; wip/pure). -/
import Derived.Test.YtcmbpboeilojmaaGreatFx0
open Go.Proofs.YtcmbpboeilojmaaGreat.F
namespace Go.Proofs.YtcmbpboeilojmaaGreat
set_option linter.unusedVariables false
set_option linter.unusedSimpArgs false
abbrev SP := S36
abbrev HO := S48
namespace Scan
def sp (l : List SP) (i : Nat) : SP := l.getD i ⟨0, 0, 0⟩
def ho (h : List HO) (i : Nat) : HO := h.getD i ⟨0, 0, 0⟩
theorem ho_set {h : List HO} {i : Nat} (hi : i < h.length) (x : HO) (j : Nat) : ho (h.set i x) j = if j = i then x else ho h j := by
  unfold ho
  rw [List.getD_eq_getElem?_getD, List.getD_eq_getElem?_getD, List.getElem?_set]
  by_cases e : i = j
  · subst e; simp [hi]
  · rw [if_neg e, if_neg (fun h => e h.symm)]
structure Sc where
  h : List HO
  tk : List Bool
  act : List Nat
  n : Nat

def early (l : List SP) (c : Int) (a : Nat) : Bool := decide ((sp l a).f2 < c)
def leaveP (l : List SP) (c : Int) (s : Sc) : Sc :=
  { s with tk := (s.act.takeWhile (early l c)).foldl (fun tk a => tk.set (ho s.h a).f0.toNat false) s.tk, act := s.act.dropWhile (early l c) }
def insP (l : List SP) (i : Nat) (act : List Nat) : List Nat := act.takeWhile (early l (sp l i).f2) ++ i :: act.dropWhile (early l (sp l i).f2)
def enterP (l : List SP) (i reg : Nat) (s : Sc) : Sc :=
  { s with h := s.h.set i ⟨(reg : Int), -1, (sp l i).f2 + 1⟩, tk := s.tk.set reg true, act := insP l i s.act }
def slotP (l : List SP) (i : Nat) (s : Sc) : Sc := { s with h := s.h.set i ⟨-1, (s.n : Int), (sp l i).f1⟩, n := s.n + 1 }
def giveP (l : List SP) (i last : Nat) (s : Sc) : Sc :=
  { s with h := s.h.set last ⟨(ho s.h last).f0, (s.n : Int), (sp l i).f1⟩, n := s.n + 1, act := s.act.dropLast }
def stepP (l : List SP) (regs : Int) (s0 : Sc) (i : Nat) : Sc :=
  let s := leaveP l (sp l i).f1 s0
  if (s.act.length : Int) < regs then enterP l i (s.tk.idxOf false) s
  else match s.act.getLast? with
    | some last => if (sp l i).f2 < (sp l last).f2 ∧ (sp l last).f1 < (sp l i).f1 then enterP l i (ho s.h last).f0.toNat (giveP l i last s) else slotP l i s
    | none => slotP l i s
def startP (l : List SP) : Sc := ⟨List.replicate l.length ⟨0, 0, 0⟩, List.replicate 64 false, [], 0⟩
def assignP (l : List SP) (regs : Int) : Sc := (List.range l.length).foldl (stepP l regs) (startP l)

/-- spans in order (but for their names). -/
structure Ord (l : List SP) : Prop where
  low : ∀ i, i < l.length → -1 ≤ (sp l i).f1 ∧ (sp l i).f1 ≤ (sp l i).f2 ∧ (sp l i).f2 ≤ 1099511627776
  rise : ∀ i j, i ≤ j → j < l.length → (sp l i).f1 ≤ (sp l j).f1

/-- a home of one of the three sorts. -/
def Home (s : SP) (h : HO) (regs : Int) : Prop :=
  -1 ≤ h.f0 ∧ h.f0 < regs ∧ -1 ≤ h.f1 ∧ (h.f1 = -1 → 0 ≤ h.f0 ∧ h.f2 = s.f2 + 1) ∧ (h.f1 ≠ -1 → (h.f0 = -1 → h.f2 = s.f1) ∧ (h.f0 ≠ -1 → s.f1 < h.f2 ∧ h.f2 ≤ s.f2))
def live (l : List SP) (c : Int) : Nat := l.countP (fun s => decide (s.f1 ≤ c ∧ c ≤ s.f2))

structure Inv (l : List SP) (regs : Int) (i : Nat) (c : Int) (s : Sc) : Prop where
  hl : s.h.length = l.length
  tl : s.tk.length = 64
  lt : ∀ j ∈ s.act, j < i
  nod : s.act.Nodup
  ah : ∀ j ∈ s.act, 0 ≤ (ho s.h j).f0 ∧ (ho s.h j).f0 < regs ∧ (ho s.h j).f1 = -1 ∧ (ho s.h j).f2 = (sp l j).f2 + 1
  inj : ∀ j ∈ s.act, ∀ k ∈ s.act, (ho s.h j).f0 = (ho s.h k).f0 → j = k
  tk : ∀ r, r < 64 → (s.tk.getD r false = true ↔ ∃ j ∈ s.act, (ho s.h j).f0 = (r : Int))
  srt : s.act.Pairwise (fun j k => (sp l j).f2 ≤ (sp l k).f2)
  cut : ∀ j, j < i → 0 ≤ (ho s.h j).f0 → j ∉ s.act → (ho s.h j).f2 ≤ c
  ok : ∀ j, j < i → Home (sp l j) (ho s.h j) regs
  apart : ∀ j k, j < k → k < i → 0 ≤ (ho s.h j).f0 → (ho s.h j).f0 = (ho s.h k).f0 → (ho s.h j).f2 ≤ (sp l k).f1
  sl : ∀ j, j < i → 0 ≤ (ho s.h j).f1 → (ho s.h j).f1 < (s.n : Int)
  sd : ∀ j k, j < k → k < i → 0 ≤ (ho s.h j).f1 → (ho s.h j).f1 ≠ (ho s.h k).f1
  sn : (List.range i).countP (fun j => decide (0 ≤ (ho s.h j).f1)) = s.n
  room : 0 < s.n → ∃ k, k < l.length ∧ regs < (live l (sp l k).f1 : Int)

theorem dropWhile_late {l : List SP} {c : Int} : ∀ {a : List Nat}, a.Pairwise (fun j k => (sp l j).f2 ≤ (sp l k).f2) → ∀ j ∈ a.dropWhile (early l c), c ≤ (sp l j).f2 := by
  intro a
  induction a with
  | nil => intro _ j hj; cases hj
  | cons x r ih =>
    intro h j hj
    rw [List.pairwise_cons] at h
    rw [List.dropWhile_cons] at hj
    by_cases e : early l c x = true
    · rw [if_pos e] at hj; exact ih h.2 j hj
    · rw [if_neg e] at hj
      have hx : c ≤ (sp l x).f2 := by unfold early at e; simpa using e
      rcases List.mem_cons.1 hj with rfl | hj
      · exact hx
      · exact Int.le_trans hx (h.1 j hj)
theorem takeWhile_early {l : List SP} {c : Int} : ∀ {a : List Nat}, ∀ j ∈ a.takeWhile (early l c), (sp l j).f2 < c := by
  intro a
  induction a with
  | nil => intro j hj; cases hj
  | cons x r ih =>
    intro j hj
    rw [List.takeWhile_cons] at hj
    by_cases e : early l c x = true
    · rw [if_pos e] at hj
      rcases List.mem_cons.1 hj with rfl | hj
      · unfold early at e; simpa using e
      · exact ih j hj
    · rw [if_neg e] at hj; cases hj
theorem fold_set (f : Nat → Nat) : ∀ (a : List Nat) (tk : List Bool), (a.foldl (fun tk j => tk.set (f j) false) tk).length = tk.length ∧
    ∀ r, r < tk.length → ((a.foldl (fun tk j => tk.set (f j) false) tk).getD r false = true ↔ tk.getD r false = true ∧ ∀ j ∈ a, f j ≠ r) := by
  intro a
  induction a with
  | nil => intro tk; exact ⟨rfl, fun r _ => by simp⟩
  | cons x a ih =>
    intro tk
    obtain ⟨h1, h2⟩ := ih (tk.set (f x) false)
    rw [List.length_set] at h1 h2
    refine ⟨h1, fun r hr => ?_⟩
    rw [List.foldl_cons, h2 r hr]
    have hg : (tk.set (f x) false).getD r false = if f x = r then false else tk.getD r false := by
      rw [List.getD_eq_getElem?_getD, List.getElem?_set, List.getD_eq_getElem?_getD]
      by_cases e : f x = r
      · rw [if_pos e, if_pos e, if_pos (by omega)]; rfl
      · rw [if_neg e, if_neg e]
    rw [hg]
    by_cases e : f x = r
    · rw [if_pos e]
      constructor
      · rintro ⟨h, _⟩; cases h
      · rintro ⟨_, h⟩; exact absurd e (h x List.mem_cons_self)
    · rw [if_neg e]
      constructor
      · rintro ⟨h, h'⟩
        refine ⟨h, fun j hj => ?_⟩
        rcases List.mem_cons.1 hj with rfl | hj
        · exact e
        · exact h' j hj
      · rintro ⟨h, h'⟩; exact ⟨h, fun j hj => h' j (List.mem_cons_of_mem _ hj)⟩

theorem take_drop {l : List SP} {c : Int} {a : List Nat} (j : Nat) : j ∈ a ↔ j ∈ a.takeWhile (early l c) ∨ j ∈ a.dropWhile (early l c) := by
  conv => lhs; rw [← List.takeWhile_append_dropWhile (p := early l c) (l := a)]
  exact List.mem_append

theorem leave_inv {l : List SP} {regs : Int} {i : Nat} {c c' : Int} {s : Sc} (hI : Inv l regs i c s) (hc : c ≤ c') :
    Inv l regs i c' (leaveP l c' s) ∧ ∀ j ∈ (leaveP l c' s).act, c' ≤ (sp l j).f2 := by
  have hsub : ∀ j ∈ s.act.dropWhile (early l c'), j ∈ s.act := fun j hj => (take_drop (c := c') (l := l) j).2 (.inr hj)
  have hlate : ∀ j ∈ s.act.dropWhile (early l c'), c' ≤ (sp l j).f2 := dropWhile_late hI.srt
  have hnd : (s.act.takeWhile (early l c') ++ s.act.dropWhile (early l c')).Nodup := by rw [List.takeWhile_append_dropWhile]; exact hI.nod
  obtain ⟨h1, h2⟩ := fold_set (fun a => (ho s.h a).f0.toNat) (s.act.takeWhile (early l c')) s.tk
  refine ⟨⟨hI.hl, h1.trans hI.tl, fun j hj => hI.lt j (hsub j hj), (List.nodup_append.1 hnd).2.1, fun j hj => hI.ah j (hsub j hj), fun j hj k hk => hI.inj j (hsub j hj) k (hsub k hk), ?_, ?_, ?_, hI.ok, hI.apart, hI.sl, hI.sd, hI.sn, hI.room⟩, hlate⟩
  · intro r hr
    have h3 := h2 r (by rw [hI.tl]; exact hr)
    refine h3.trans ?_
    rw [hI.tk r hr]
    constructor
    · rintro ⟨⟨j, hj, e⟩, h4⟩
      refine ⟨j, ?_, e⟩
      rcases (take_drop (c := c') (l := l) j).1 hj with h | h
      · exact absurd (by rw [e]; simp) (h4 j h)
      · exact h
    · rintro ⟨j, hj, e0⟩
      have e : (ho s.h j).f0 = (r : Int) := e0
      refine ⟨⟨j, hsub j hj, e⟩, fun k hk e' => ?_⟩
      have hk' := (take_drop (c := c') (l := l) k).2 (.inl hk)
      have hp := (hI.ah k hk').1
      have : k = j := hI.inj k hk' j (hsub j hj) (by rw [e]; omega)
      subst this
      have := takeWhile_early k hk
      have := hlate k hj
      omega
  · exact List.Pairwise.sublist (List.dropWhile_sublist _) hI.srt
  · intro j hj hp hno
    by_cases ha : j ∈ s.act
    · rcases (take_drop (c := c') (l := l) j).1 ha with h | h
      · have := takeWhile_early j h
        rw [show (ho (leaveP l c' s).h j).f2 = (sp l j).f2 + 1 from (hI.ah j ha).2.2.2]
        omega
      · exact absurd h hno
    · exact Int.le_trans (hI.cut j hj hp ha) hc

theorem ins_mem {l : List SP} {i : Nat} {a : List Nat} (j : Nat) : j ∈ insP l i a ↔ j = i ∨ j ∈ a := by
  unfold insP
  rw [List.mem_append, List.mem_cons, take_drop (l := l) (c := (sp l i).f2) (a := a) j]
  constructor
  · rintro (h | h | h)
    · exact .inr (.inl h)
    · exact .inl h
    · exact .inr (.inr h)
  · rintro (h | h | h)
    · exact .inr (.inl h)
    · exact .inl h
    · exact .inr (.inr h)
theorem ins_nodup {l : List SP} {i : Nat} {a : List Nat} (h : a.Nodup) (hi : i ∉ a) : (insP l i a).Nodup := by
  have h' : (a.takeWhile (early l (sp l i).f2) ++ a.dropWhile (early l (sp l i).f2)).Nodup := by rw [List.takeWhile_append_dropWhile]; exact h
  rw [List.nodup_append] at h'
  unfold insP
  rw [List.nodup_append]
  refine ⟨h'.1, ?_, ?_⟩
  · rw [List.nodup_cons]
    exact ⟨fun hm => hi ((take_drop (l := l) (c := (sp l i).f2) i).2 (.inr hm)), h'.2.1⟩
  · intro x hx y hy
    rcases List.mem_cons.1 hy with rfl | hy
    · rintro rfl; exact hi ((take_drop (l := l) (c := (sp l x).f2) x).2 (.inl hx))
    · exact h'.2.2 x hx y hy
theorem ins_sorted {l : List SP} {i : Nat} {a : List Nat} (h : a.Pairwise (fun j k => (sp l j).f2 ≤ (sp l k).f2)) : (insP l i a).Pairwise (fun j k => (sp l j).f2 ≤ (sp l k).f2) := by
  unfold insP
  rw [List.pairwise_append]
  refine ⟨List.Pairwise.sublist (List.takeWhile_sublist _) h, ?_, ?_⟩
  · rw [List.pairwise_cons]
    exact ⟨fun k hk => dropWhile_late h k hk, List.Pairwise.sublist (List.dropWhile_sublist _) h⟩
  · intro j hj k hk
    have h1 := takeWhile_early j hj
    rcases List.mem_cons.1 hk with rfl | hk
    · omega
    · have := dropWhile_late h k hk; omega
theorem count_set_new {h : List HO} {i : Nat} (hi : i < h.length) (x : HO) : (List.range (i + 1)).countP (fun j => decide (0 ≤ (ho (h.set i x) j).f1)) = (List.range i).countP (fun j => decide (0 ≤ (ho h j).f1)) + if 0 ≤ x.f1 then 1 else 0 := by
  rw [List.range_succ, List.countP_append, List.countP_singleton]
  congr 1
  · refine List.countP_congr fun j hj => ?_
    rw [List.mem_range] at hj
    rw [ho_set hi, if_neg (by omega)]
  · rw [ho_set hi, if_pos rfl]
    by_cases e : 0 ≤ x.f1
    · rw [if_pos e, if_pos (by simpa using e)]
    · rw [if_neg e, if_neg (by simpa using e)]
theorem tk_set {tk : List Bool} {r : Nat} (b : Bool) (hr : r < tk.length) (q : Nat) : (tk.set r b).getD q false = if q = r then b else tk.getD q false := by
  rw [List.getD_eq_getElem?_getD, List.getElem?_set, List.getD_eq_getElem?_getD]
  by_cases e : r = q
  · subst e; rw [if_pos rfl, if_pos rfl, if_pos hr]; rfl
  · rw [if_neg e, if_neg (fun h => e h.symm)]

/-- a span goes into a register that nobody has. -/
theorem enter_inv {l : List SP} {regs : Int} {i reg : Nat} {s : Sc} (hO : Ord l) (hi : i < l.length) (hregs : regs ≤ 64) (hI : Inv l regs i (sp l i).f1 s) (hr : (reg : Int) < regs) (hfree : ∀ j ∈ s.act, (ho s.h j).f0 ≠ (reg : Int)) :
    Inv l regs (i + 1) (sp l i).f1 (enterP l i reg s) := by
  have hih : i < s.h.length := by rw [hI.hl]; exact hi
  have hlow := hO.low i hi
  have hat : ∀ j, ho (enterP l i reg s).h j = if j = i then ⟨(reg : Int), -1, (sp l i).f2 + 1⟩ else ho s.h j := ho_set hih _
  have hno : i ∉ s.act := fun h => by have := hI.lt i h; omega
  have hne : ∀ j ∈ s.act, j ≠ i := fun j hj e => hno (e ▸ hj)
  have hm : ∀ j, j ∈ (enterP l i reg s).act ↔ j = i ∨ j ∈ s.act := ins_mem
  refine ⟨by simp [enterP, hI.hl], by simp [enterP, hI.tl], ?_, ins_nodup hI.nod hno, ?_, ?_, ?_, ins_sorted hI.srt, ?_, ?_, ?_, ?_, ?_, ?_, ?_⟩
  · intro j hj
    rcases (hm j).1 hj with rfl | h
    · omega
    · have := hI.lt j h; omega
  · intro j hj
    rcases (hm j).1 hj with rfl | h
    · rw [hat, if_pos rfl]; exact ⟨by show (0 : Int) ≤ (reg : Int); omega, hr, rfl, rfl⟩
    · rw [hat, if_neg (hne j h)]; exact hI.ah j h
  · intro j hj k hk e
    rcases (hm j).1 hj with rfl | h <;> rcases (hm k).1 hk with rfl | h'
    · rfl
    · rw [hat, hat, if_pos rfl, if_neg (hne k h')] at e
      exact absurd e.symm (hfree k h')
    · rw [hat, hat, if_pos rfl, if_neg (hne j h)] at e
      exact absurd e (hfree j h)
    · rw [hat, hat, if_neg (hne j h), if_neg (hne k h')] at e
      exact hI.inj j h k h' e
  · intro r hr64
    show ((s.tk.set reg true).getD r false = true ↔ _)
    rw [tk_set true (by rw [hI.tl]; omega)]
    by_cases e : r = reg
    · subst e
      rw [if_pos rfl]
      exact ⟨fun _ => ⟨i, (hm i).2 (.inl rfl), by rw [hat, if_pos rfl]⟩, fun _ => rfl⟩
    · rw [if_neg e, hI.tk r hr64]
      constructor
      · rintro ⟨j, hj, e'⟩; exact ⟨j, (hm j).2 (.inr hj), by rw [hat, if_neg (hne j hj)]; exact e'⟩
      · rintro ⟨j, hj, e'⟩
        rcases (hm j).1 hj with rfl | h
        · rw [hat, if_pos rfl] at e'
          have : (reg : Int) = (r : Int) := e'
          omega
        · rw [hat, if_neg (hne j h)] at e'; exact ⟨j, h, e'⟩
  · intro j hj hp ha
    have hji : j ≠ i := fun e => ha ((hm j).2 (.inl e))
    rw [hat, if_neg hji] at hp ⊢
    exact hI.cut j (by omega) hp (fun h => ha ((hm j).2 (.inr h)))
  · intro j hj
    rw [hat]
    by_cases e : j = i
    · subst e
      rw [if_pos rfl]
      exact ⟨by show (-1 : Int) ≤ (reg : Int); omega, hr, by show (-1 : Int) ≤ -1; omega, fun _ => ⟨by show (0 : Int) ≤ (reg : Int); omega, rfl⟩, fun h => absurd rfl h⟩
    · rw [if_neg e]; exact hI.ok j (by omega)
  · intro j k hjk hk hp e
    have hji : j ≠ i := by omega
    rw [hat, if_neg hji] at hp e ⊢
    by_cases ek : k = i
    · subst ek
      rw [hat, if_pos rfl] at e
      exact hI.cut j (by omega) hp (fun h => hfree j h e)
    · rw [hat, if_neg ek] at e
      exact hI.apart j k hjk (by omega) hp e
  · intro j hj hp
    rw [hat] at hp ⊢
    by_cases e : j = i
    · rw [if_pos e] at hp
      have : (0 : Int) ≤ -1 := hp
      omega
    · rw [if_neg e] at hp ⊢; exact hI.sl j (by omega) hp
  · intro j k hjk hk hp
    have hji : j ≠ i := by omega
    rw [hat, if_neg hji] at hp ⊢
    rw [hat]
    by_cases ek : k = i
    · rw [if_pos ek]
      show (ho s.h j).f1 ≠ -1
      omega
    · rw [if_neg ek]; exact hI.sd j k hjk (by omega) hp
  · show (List.range (i + 1)).countP (fun j => decide (0 ≤ (ho (s.h.set i _) j).f1)) = s.n
    rw [count_set_new hih, hI.sn, if_neg (by show ¬ (0 : Int) ≤ -1; omega)]
    rfl
  · intro h
    exact hI.room h

/-- a span goes into a slot of its own. -/
theorem slot_inv {l : List SP} {regs : Int} {i : Nat} {s : Sc} (hi : i < l.length) (h0 : 0 ≤ regs) (hI : Inv l regs i (sp l i).f1 s) (hcrowd : regs < (live l (sp l i).f1 : Int)) :
    Inv l regs (i + 1) (sp l i).f1 (slotP l i s) := by
  have hih : i < s.h.length := by rw [hI.hl]; exact hi
  have hat : ∀ j, ho (slotP l i s).h j = if j = i then ⟨-1, (s.n : Int), (sp l i).f1⟩ else ho s.h j := ho_set hih _
  have hno : i ∉ s.act := fun h => by have := hI.lt i h; omega
  have hne : ∀ j ∈ s.act, j ≠ i := fun j hj e => hno (e ▸ hj)
  have hn : (slotP l i s).n = s.n + 1 := rfl
  refine ⟨by simp [slotP, hI.hl], hI.tl, fun j hj => by have := hI.lt j hj; omega, hI.nod, ?_, ?_, ?_, hI.srt, ?_, ?_, ?_, ?_, ?_, ?_, ?_⟩
  · intro j hj; rw [hat, if_neg (hne j hj)]; exact hI.ah j hj
  · intro j hj k hk e
    rw [hat, hat, if_neg (hne j hj), if_neg (hne k hk)] at e
    exact hI.inj j hj k hk e
  · intro r hr
    refine (hI.tk r hr).trans ⟨?_, ?_⟩
    · rintro ⟨j, hj, e⟩; exact ⟨j, hj, by rw [hat, if_neg (hne j hj)]; exact e⟩
    · rintro ⟨j, hj, e⟩; rw [hat, if_neg (hne j hj)] at e; exact ⟨j, hj, e⟩
  · intro j hj hp ha
    rw [hat] at hp ⊢
    by_cases e : j = i
    · rw [if_pos e] at hp
      have : (0 : Int) ≤ -1 := hp
      omega
    · rw [if_neg e] at hp ⊢; exact hI.cut j (by omega) hp ha
  · intro j hj
    rw [hat]
    by_cases e : j = i
    · subst e
      rw [if_pos rfl]
      refine ⟨by show (-1 : Int) ≤ -1; omega, by show (-1 : Int) < regs; omega, by show (-1 : Int) ≤ (s.n : Int); omega, fun h => ?_, fun _ => ⟨fun _ => rfl, fun h => absurd rfl h⟩⟩
      have : (s.n : Int) = -1 := h
      omega
    · rw [if_neg e]; exact hI.ok j (by omega)
  · intro j k hjk hk hp e
    have hji : j ≠ i := by omega
    rw [hat, if_neg hji] at hp e ⊢
    rw [hat] at e
    by_cases ek : k = i
    · rw [if_pos ek] at e
      have : (ho s.h j).f0 = -1 := e
      omega
    · rw [if_neg ek] at e; exact hI.apart j k hjk (by omega) hp e
  · intro j hj hp
    rw [hn]
    rw [hat] at hp ⊢
    by_cases e : j = i
    · rw [if_pos e]; show (s.n : Int) < ((s.n + 1 : Nat) : Int); omega
    · rw [if_neg e] at hp ⊢
      have := hI.sl j (by omega) hp
      omega
  · intro j k hjk hk hp
    have hji : j ≠ i := by omega
    rw [hat, if_neg hji] at hp ⊢
    rw [hat]
    by_cases ek : k = i
    · rw [if_pos ek]
      have := hI.sl j (by omega) hp
      show (ho s.h j).f1 ≠ (s.n : Int)
      omega
    · rw [if_neg ek]; exact hI.sd j k hjk (by omega) hp
  · show (List.range (i + 1)).countP (fun j => decide (0 ≤ (ho (s.h.set i _) j).f1)) = s.n + 1
    rw [count_set_new hih, hI.sn, if_pos (by show (0 : Int) ≤ (s.n : Int); omega)]
  · intro _; exact ⟨i, hi, hcrowd⟩

theorem last_of {a : List Nat} {x : Nat} (h : a.getLast? = some x) : a = a.dropLast ++ [x] := by
  cases a with
  | nil => cases h
  | cons y r =>
    rw [List.getLast?_eq_some_getLast (by simp)] at h
    injection h with h
    rw [← h, List.dropLast_concat_getLast]
theorem count_set_old {h : List HO} {j i : Nat} (hj : j < i) (hi : i ≤ h.length) (x : HO) (hb : ¬ 0 ≤ (ho h j).f1) (ha : 0 ≤ x.f1) :
    (List.range i).countP (fun k => decide (0 ≤ (ho (h.set j x) k).f1)) = (List.range i).countP (fun k => decide (0 ≤ (ho h k).f1)) + 1 := by
  induction i with
  | zero => omega
  | succ i ih =>
    rw [List.range_succ, List.countP_append, List.countP_append, List.countP_singleton, List.countP_singleton]
    by_cases e : j = i
    · subst e
      have h1 : (List.range j).countP (fun k => decide (0 ≤ (ho (h.set j x) k).f1)) = (List.range j).countP (fun k => decide (0 ≤ (ho h k).f1)) := by
        refine List.countP_congr fun k hk => ?_
        rw [List.mem_range] at hk
        rw [ho_set (by omega), if_neg (by omega)]
      rw [h1, ho_set (by omega), if_pos rfl, if_pos (by simpa using ha), if_neg (by simpa using hb)]
    · rw [ih (by omega) (by omega), show ho (h.set j x) i = ho h i by rw [ho_set (by omega), if_neg (fun e' => e e'.symm)]]
      omega
/-- the last one of those that live gives way. -/
theorem give_inv {l : List SP} {regs : Int} {i last : Nat} {s : Sc} (hi : i < l.length) (hI : Inv l regs i (sp l i).f1 s) (hlast : s.act.getLast? = some last) (hf : (sp l last).f1 < (sp l i).f1) (ht : (sp l i).f1 ≤ (sp l last).f2)
    (hcrowd : regs < (live l (sp l i).f1 : Int)) :
    (∀ k ∈ (giveP l i last s).act, (ho (giveP l i last s).h k).f0 ≠ (ho s.h last).f0) ∧ 0 ≤ (ho s.h last).f0 ∧ (ho s.h last).f0 < regs ∧
      (giveP l i last s).h.length = l.length ∧ (giveP l i last s).tk.length = 64 ∧ last < i ∧ Inv l regs i (sp l i).f1 { giveP l i last s with tk := s.tk.set (ho s.h last).f0.toNat false } := by
  have hsp := last_of hlast
  have hm : last ∈ s.act := by rw [hsp]; simp
  have hli := hI.lt last hm
  obtain ⟨a1, a2, a3, a4⟩ := hI.ah last hm
  have hlh : last < s.h.length := by rw [hI.hl]; omega
  have hat : ∀ j, ho (giveP l i last s).h j = if j = last then ⟨(ho s.h last).f0, (s.n : Int), (sp l i).f1⟩ else ho s.h j := ho_set hlh _
  have hsub : ∀ j ∈ s.act.dropLast, j ∈ s.act := fun j hj => by rw [hsp]; exact List.mem_append_left _ hj
  have hnd := hI.nod
  rw [hsp, List.nodup_append] at hnd
  have hne : ∀ j ∈ s.act.dropLast, j ≠ last := fun j hj => hnd.2.2 j hj last (by simp)
  have hor : ∀ j, j ∈ s.act → j ≠ last → j ∈ s.act.dropLast := fun j hj e => by
    rw [hsp] at hj
    rcases List.mem_append.1 hj with h | h
    · exact h
    · rw [List.mem_singleton] at h; exact absurd h e
  refine ⟨?_, a1, a2, by simp [giveP, hI.hl], hI.tl, hli, ?_⟩
  · intro k hk e
    rw [hat, if_neg (hne k hk)] at e
    exact hne k hk (hI.inj k (hsub k hk) last hm e)
  · refine ⟨by simp [giveP, hI.hl], by simp [hI.tl], fun j hj => hI.lt j (hsub j hj), hnd.1, ?_, ?_, ?_, ?_, ?_, ?_, ?_, ?_, ?_, ?_, ?_⟩
    · intro j hj
      have : ho (giveP l i last s).h j = ho s.h j := by rw [hat, if_neg (hne j hj)]
      show 0 ≤ (ho (giveP l i last s).h j).f0 ∧ (ho (giveP l i last s).h j).f0 < regs ∧ (ho (giveP l i last s).h j).f1 = -1 ∧ (ho (giveP l i last s).h j).f2 = (sp l j).f2 + 1
      rw [this]; exact hI.ah j (hsub j hj)
    · intro j hj k hk e
      have e' : (ho (giveP l i last s).h j).f0 = (ho (giveP l i last s).h k).f0 := e
      rw [hat, hat, if_neg (hne j hj), if_neg (hne k hk)] at e'
      exact hI.inj j (hsub j hj) k (hsub k hk) e'
    · intro r hr
      show ((s.tk.set (ho s.h last).f0.toNat false).getD r false = true ↔ ∃ j ∈ s.act.dropLast, (ho (giveP l i last s).h j).f0 = (r : Int))
      by_cases hq : (ho s.h last).f0.toNat < s.tk.length
      · rw [tk_set false hq]
        by_cases e : r = (ho s.h last).f0.toNat
        · rw [if_pos e]
          constructor
          · intro h; cases h
          · rintro ⟨j, hj, e'⟩
            rw [hat, if_neg (hne j hj)] at e'
            exact absurd (hI.inj j (hsub j hj) last hm (by omega)) (hne j hj)
        · rw [if_neg e, hI.tk r hr]
          constructor
          · rintro ⟨j, hj, e'⟩
            have : j ≠ last := fun e2 => by subst e2; omega
            exact ⟨j, hor j hj this, by rw [hat, if_neg this]; exact e'⟩
          · rintro ⟨j, hj, e'⟩
            rw [hat, if_neg (hne j hj)] at e'
            exact ⟨j, hsub j hj, e'⟩
      · rw [List.set_eq_of_length_le (by omega), hI.tk r hr]
        have hlen := hI.tl
        constructor
        · rintro ⟨j, hj, e'⟩
          have : j ≠ last := fun e2 => by subst e2; omega
          exact ⟨j, hor j hj this, by rw [hat, if_neg this]; exact e'⟩
        · rintro ⟨j, hj, e'⟩
          rw [hat, if_neg (hne j hj)] at e'
          exact ⟨j, hsub j hj, e'⟩
    · exact List.Pairwise.sublist (List.dropLast_sublist _) hI.srt
    · intro j hj hp ha
      have hp' : 0 ≤ (ho (giveP l i last s).h j).f0 := hp
      show (ho (giveP l i last s).h j).f2 ≤ (sp l i).f1
      rw [hat] at hp' ⊢
      by_cases e : j = last
      · rw [if_pos e]; exact Int.le_refl _
      · rw [if_neg e] at hp' ⊢
        exact hI.cut j hj hp' (fun h => ha (hor j h e))
    · intro j hj
      show Home (sp l j) (ho (giveP l i last s).h j) regs
      rw [hat]
      by_cases e : j = last
      · subst e
        rw [if_pos rfl]
        refine ⟨by show (-1 : Int) ≤ (ho s.h j).f0; omega, a2, by show (-1 : Int) ≤ (s.n : Int); omega, fun h => ?_, fun _ => ⟨fun h => ?_, fun _ => ⟨hf, ht⟩⟩⟩
        · have : (s.n : Int) = -1 := h
          omega
        · have : (ho s.h j).f0 = -1 := h
          omega
      · rw [if_neg e]; exact hI.ok j hj
    · intro j k hjk hk hp e
      have hp' : 0 ≤ (ho (giveP l i last s).h j).f0 := hp
      have e' : (ho (giveP l i last s).h j).f0 = (ho (giveP l i last s).h k).f0 := e
      show (ho (giveP l i last s).h j).f2 ≤ (sp l k).f1
      have hf0 : ∀ q, (ho (giveP l i last s).h q).f0 = (ho s.h q).f0 := fun q => by
        rw [hat]; by_cases e : q = last
        · subst e; rw [if_pos rfl]
        · rw [if_neg e]
      rw [hf0] at hp'
      rw [hf0, hf0] at e'
      have h1 := hI.apart j k hjk hk hp' e'
      rw [hat]
      by_cases ej : j = last
      · subst ej
        rw [if_pos rfl]
        rw [a4] at h1
        show (sp l i).f1 ≤ (sp l k).f1
        omega
      · rw [if_neg ej]; exact h1
    · intro j hj hp
      have hp' : 0 ≤ (ho (giveP l i last s).h j).f1 := hp
      show (ho (giveP l i last s).h j).f1 < ((s.n + 1 : Nat) : Int)
      rw [hat] at hp' ⊢
      by_cases e : j = last
      · rw [if_pos e]; show (s.n : Int) < ((s.n + 1 : Nat) : Int); omega
      · rw [if_neg e] at hp' ⊢
        have := hI.sl j hj hp'
        omega
    · intro j k hjk hk hp
      have hp' : 0 ≤ (ho (giveP l i last s).h j).f1 := hp
      show (ho (giveP l i last s).h j).f1 ≠ (ho (giveP l i last s).h k).f1
      rw [hat] at hp' ⊢
      rw [hat]
      by_cases ej : j = last
      · rw [if_pos ej, if_neg (by omega)]
        show (s.n : Int) ≠ (ho s.h k).f1
        intro e2
        have := hI.sl k hk (by omega)
        omega
      · rw [if_neg ej] at hp' ⊢
        by_cases ek : k = last
        · rw [if_pos ek]
          have := hI.sl j (by omega) hp'
          show (ho s.h j).f1 ≠ (s.n : Int)
          omega
        · rw [if_neg ek]; exact hI.sd j k hjk hk hp'
    · show (List.range i).countP (fun j => decide (0 ≤ (ho (s.h.set last _) j).f1)) = s.n + 1
      rw [count_set_old hli (by rw [hI.hl]; omega) _ (by rw [a3]; omega) (by show (0 : Int) ≤ (s.n : Int); omega), hI.sn]
    · intro _; exact ⟨i, hi, hcrowd⟩

theorem sub_len {α : Type} [DecidableEq α] {P : List α} : ∀ {Q : List α}, P.Nodup → (∀ x ∈ P, x ∈ Q) → P.length ≤ Q.length := by
  induction P with
  | nil => intro Q _ _; simp
  | cons x r ih =>
    intro Q hn hs
    rw [List.nodup_cons] at hn
    have hx := hs x List.mem_cons_self
    have h2 := ih (Q := Q.erase x) hn.2 (fun y hy => (List.mem_erase_of_ne (fun (e : y = x) => hn.1 (e ▸ hy))).2 (hs y (List.mem_cons_of_mem _ hy)))
    rw [List.length_erase_of_mem hx] at h2
    have := List.length_pos_of_mem hx
    rw [List.length_cons]; omega
theorem idx_le {b : Bool} : ∀ {tk : List Bool} {r : Nat}, tk[r]? = some b → tk.idxOf b ≤ r := by
  intro tk
  induction tk with
  | nil => intro r h; cases h
  | cons x t ih =>
    intro r h
    rw [List.idxOf_cons]
    cases r with
    | zero =>
      simp at h
      subst h; simp
    | succ r =>
      have := ih (r := r) (by simpa using h)
      cases hb : (x == b) with
      | true => simp
      | false => simp; omega
theorem live_ge {l : List SP} {c : Int} : ∀ {a : List Nat}, a.Nodup → (∀ j ∈ a, j < l.length ∧ (sp l j).f1 ≤ c ∧ c ≤ (sp l j).f2) → a.length ≤ live l c := by
  intro a hn ha
  have h1 : live l c = (List.range l.length).countP (fun j => decide ((sp l j).f1 ≤ c ∧ c ≤ (sp l j).f2)) := by
    unfold live
    have : l = (List.range l.length).map (sp l) := by
      apply List.ext_getElem
      · simp
      · intro i h1 h2
        rw [List.getElem_map, List.getElem_range]
        unfold sp
        rw [List.getD_eq_getElem?_getD, List.getElem?_eq_getElem h1]; rfl
    conv => lhs; rw [this]
    rw [List.countP_map]; rfl
  rw [h1, List.countP_eq_length_filter]
  refine sub_len hn fun x hx => ?_
  obtain ⟨h2, h3, h4⟩ := ha x hx
  exact List.mem_filter.2 ⟨List.mem_range.2 h2, by simpa using ⟨h3, h4⟩⟩

/-- all registers but one are had: there is a free one. -/
theorem free_reg {l : List SP} {regs : Int} {i : Nat} {c : Int} {s : Sc} (hI : Inv l regs i c s) (h64 : regs ≤ 64) (hlt : (s.act.length : Int) < regs) :
    s.tk.idxOf false < 64 ∧ ((s.tk.idxOf false : Nat) : Int) < regs ∧ ∀ j ∈ s.act, (ho s.h j).f0 ≠ ((s.tk.idxOf false : Nat) : Int) := by
  have hex : ∃ r : Nat, (r : Int) < regs ∧ s.tk.getD r false = false := by
    apply Classical.byContradiction
    intro hno
    have hall : ∀ r : Nat, (r : Int) < regs → ∃ j ∈ s.act, (ho s.h j).f0 = (r : Int) := fun r hr => by
      refine (hI.tk r (by omega)).1 ?_
      cases h : s.tk.getD r false with
      | true => rfl
      | false => exact absurd ⟨r, hr, h⟩ hno
    have hnd : ((List.range regs.toNat).map (fun r : Nat => (r : Int))).Nodup := by
      unfold List.Nodup
      rw [List.pairwise_iff_getElem]
      intro a b ha hb hab
      rw [List.getElem_map, List.getElem_map, List.getElem_range, List.getElem_range]
      omega
    have := sub_len hnd (Q := s.act.map (fun j => (ho s.h j).f0)) (fun x hx => by
      obtain ⟨r, hr, rfl⟩ := List.mem_map.1 hx
      rw [List.mem_range] at hr
      obtain ⟨j, hj, e⟩ := hall r (by omega)
      exact List.mem_map.2 ⟨j, hj, e⟩)
    rw [List.length_map, List.length_map, List.length_range] at this
    omega
  obtain ⟨r, hr, hr2⟩ := hex
  have hlen := hI.tl
  have hmem : false ∈ s.tk := by
    rw [List.getD_eq_getElem?_getD, List.getElem?_eq_getElem (by omega)] at hr2
    have h2 : s.tk[r]'(by omega) = false := hr2
    rw [← h2]; exact List.getElem_mem _
  have hix := List.idxOf_lt_length_of_mem hmem
  have hle : s.tk.idxOf false ≤ r := idx_le (by
    rw [List.getD_eq_getElem?_getD, List.getElem?_eq_getElem (by omega)] at hr2
    rw [List.getElem?_eq_getElem (by omega)]
    exact congrArg some hr2)
  have hval : s.tk.getD (s.tk.idxOf false) false = false := by
    rw [List.getD_eq_getElem?_getD, List.getElem?_eq_getElem hix]
    show s.tk[s.tk.idxOf false] = false
    exact List.getElem_idxOf hix
  refine ⟨by omega, by omega, fun j hj e => ?_⟩
  have := (hI.tk (s.tk.idxOf false) (by omega)).2 ⟨j, hj, e⟩
  rw [hval] at this; cases this

theorem enter_tk {l : List SP} {i reg : Nat} {s : Sc} : enterP l i reg s = enterP l i reg { s with tk := s.tk.set reg false } := by
  unfold enterP; simp

theorem step_inv {l : List SP} {regs : Int} {i : Nat} {c : Int} {s : Sc} (hO : Ord l) (hi : i < l.length) (h0 : 0 ≤ regs) (h64 : regs ≤ 64) (hc : c ≤ (sp l i).f1) (hI : Inv l regs i c s) : Inv l regs (i + 1) (sp l i).f1 (stepP l regs s i) := by
  obtain ⟨hL, hlate⟩ := leave_inv hI hc
  have hlow := hO.low i hi
  unfold stepP
  show Inv l regs (i + 1) (sp l i).f1 (if ((leaveP l (sp l i).f1 s).act.length : Int) < regs then _ else _)
  generalize leaveP l (sp l i).f1 s = s1 at hL hlate
  by_cases hlt : (s1.act.length : Int) < regs
  · rw [if_pos hlt]
    obtain ⟨h1, h2, h3⟩ := free_reg hL h64 hlt
    exact enter_inv hO hi h64 hL h2 h3
  · rw [if_neg hlt]
    have hcrowd : regs < (live l (sp l i).f1 : Int) := by
      have := live_ge (l := l) (c := (sp l i).f1) (a := i :: s1.act) (by
        rw [List.nodup_cons]
        exact ⟨fun h => by have := hL.lt i h; omega, hL.nod⟩) (fun j hj => by
        rcases List.mem_cons.1 hj with rfl | hj
        · exact ⟨hi, Int.le_refl _, hlow.2.1⟩
        · have h1 := hL.lt j hj
          exact ⟨by omega, hO.rise j i (by omega) hi, hlate j hj⟩)
      rw [List.length_cons] at this
      omega
    cases hg : s1.act.getLast? with
    | none => exact slot_inv hi h0 hL hcrowd
    | some last =>
      show Inv l regs (i + 1) (sp l i).f1 (if (sp l i).f2 < (sp l last).f2 ∧ (sp l last).f1 < (sp l i).f1 then _ else _)
      by_cases hcc : (sp l i).f2 < (sp l last).f2 ∧ (sp l last).f1 < (sp l i).f1
      · rw [if_pos hcc]
        obtain ⟨g1, g2, g3, g4, g5, g6, g7⟩ := give_inv hi hL hg hcc.2 (by omega) hcrowd
        rw [enter_tk]
        refine enter_inv hO hi h64 g7 (by omega) (fun j hj e => g1 j hj ?_)
        have e' : (ho (giveP l i last s1).h j).f0 = ((ho s1.h last).f0.toNat : Int) := e
        rw [e']; omega
      · rw [if_neg hcc]; exact slot_inv hi h0 hL hcrowd

theorem start_inv (l : List SP) (regs : Int) : Inv l regs 0 (-1) (startP l) := by
  refine ⟨by simp [startP], by simp [startP], fun j hj => (by cases hj), by simp [startP], fun j hj => (by cases hj), fun j hj => (by cases hj), fun r hr => ?_, by simp [startP], fun j hj => absurd hj (by omega), fun j hj => absurd hj (by omega), fun j k h1 h2 => absurd h2 (by omega), fun j hj => absurd hj (by omega), fun j k h1 h2 => absurd h2 (by omega), rfl, fun h => absurd h (Nat.lt_irrefl _)⟩
  constructor
  · intro h
    have : (List.replicate 64 false).getD r false = true := h
    rw [List.getD_eq_getElem?_getD, List.getElem?_replicate, if_pos hr] at this
    cases this
  · rintro ⟨j, hj, _⟩; cases hj

def upto (l : List SP) (regs : Int) (i : Nat) : Sc := (List.range i).foldl (stepP l regs) (startP l)
theorem upto_succ (l : List SP) (regs : Int) (i : Nat) : upto l regs (i + 1) = stepP l regs (upto l regs i) i := by unfold upto; rw [List.range_succ, List.foldl_append]; rfl
theorem upto_inv {l : List SP} {regs : Int} (hO : Ord l) (h0 : 0 ≤ regs) (h64 : regs ≤ 64) : ∀ i, i ≤ l.length → ∃ c, (∀ j, i ≤ j → j < l.length → c ≤ (sp l j).f1) ∧ Inv l regs i c (upto l regs i) := by
  intro i
  induction i with
  | zero => intro _; exact ⟨-1, fun j _ hj => (hO.low j hj).1, start_inv l regs⟩
  | succ i ih =>
    intro hi
    obtain ⟨c, hc, hI⟩ := ih (by omega)
    rw [upto_succ]
    exact ⟨(sp l i).f1, fun j h1 h2 => hO.rise i j (by omega) h2, step_inv hO (by omega) h0 h64 (hc i (Nat.le_refl _) (by omega)) hI⟩
theorem assign_inv {l : List SP} {regs : Int} (hO : Ord l) (h0 : 0 ≤ regs) (h64 : regs ≤ 64) : ∃ c, Inv l regs l.length c (assignP l regs) := by
  obtain ⟨c, _, hI⟩ := upto_inv hO h0 h64 l.length (Nat.le_refl _)
  exact ⟨c, hI⟩

/-! ### what the laws ask -/
structure Facts (l : List SP) (regs : Int) (h : List HO) (n : Nat) : Prop where
  hl : h.length = l.length
  ok : ∀ j, j < l.length → Home (sp l j) (ho h j) regs
  apart : ∀ j k, j < k → k < l.length → 0 ≤ (ho h j).f0 → (ho h j).f0 = (ho h k).f0 → (ho h j).f2 ≤ (sp l k).f1
  sl : ∀ j, j < l.length → 0 ≤ (ho h j).f1 → (ho h j).f1 < (n : Int)
  sd : ∀ j k, j < k → k < l.length → 0 ≤ (ho h j).f1 → (ho h j).f1 ≠ (ho h k).f1
  sn : (List.range l.length).countP (fun j => decide (0 ≤ (ho h j).f1)) = n
  room : 0 < n → ∃ k, k < l.length ∧ regs < (live l (sp l k).f1 : Int)
theorem assign_facts {l : List SP} {regs : Int} (hO : Ord l) (h0 : 0 ≤ regs) (h64 : regs ≤ 64) : Facts l regs (assignP l regs).h (assignP l regs).n := by
  obtain ⟨c, hI⟩ := assign_inv hO h0 h64
  exact ⟨hI.hl, hI.ok, hI.apart, hI.sl, hI.sd, hI.sn, hI.room⟩
theorem Facts.n_le {l : List SP} {regs : Int} {h : List HO} {n : Nat} (F : Facts l regs h n) : n ≤ l.length := by
  rw [← F.sn]
  have := List.countP_le_length (p := fun j => decide (0 ≤ (ho h j).f1)) (l := List.range l.length)
  rwa [List.length_range] at this
/-- where a home keeps its variable. -/
def keptP (x : HO) (at_ : Int) : Int := if 0 ≤ x.f0 ∧ at_ < x.f2 then 2 * x.f0 else 2 * x.f1 + 1
theorem kept_slot {s : SP} {x : HO} {regs k : Int} (hh : Home s x regs) (hk : k ≤ s.f2) (hn : ¬ (0 ≤ x.f0 ∧ k < x.f2)) : 0 ≤ x.f1 := by
  obtain ⟨h1, h2, h3, h4, h5⟩ := hh
  by_cases e : x.f1 = -1
  · obtain ⟨h6, h7⟩ := h4 e
    exact absurd ⟨h6, by omega⟩ hn
  · omega
theorem kept_ne_lt {l : List SP} {regs : Int} {h : List HO} {n : Nat} (F : Facts l regs h n) {i j : Nat} (hij : j < i) (hi : i < l.length) {k : Int} (h1 : (sp l i).f1 ≤ k) (h2 : k ≤ (sp l i).f2) (h3 : (sp l j).f1 ≤ k) (h4 : k ≤ (sp l j).f2) :
    keptP (ho h i) k ≠ keptP (ho h j) k := by
  have oi := F.ok i hi
  have oj := F.ok j (by omega)
  unfold keptP
  by_cases ci : 0 ≤ (ho h i).f0 ∧ k < (ho h i).f2
  · rw [if_pos ci]
    by_cases cj : 0 ≤ (ho h j).f0 ∧ k < (ho h j).f2
    · rw [if_pos cj]
      intro e
      have := F.apart j i hij hi cj.1 (by omega)
      omega
    · rw [if_neg cj]; omega
  · rw [if_neg ci]
    have s1 := kept_slot oi h2 ci
    by_cases cj : 0 ≤ (ho h j).f0 ∧ k < (ho h j).f2
    · rw [if_pos cj]; omega
    · rw [if_neg cj]
      have s2 := kept_slot oj h4 cj
      have := F.sd j i hij hi s2
      omega
theorem kept_ne {l : List SP} {regs : Int} {h : List HO} {n : Nat} (F : Facts l regs h n) {i j : Nat} (hij : j ≠ i) (hi : i < l.length) (hj : j < l.length) {k : Int} (h1 : (sp l i).f1 ≤ k) (h2 : k ≤ (sp l i).f2) (h3 : (sp l j).f1 ≤ k) (h4 : k ≤ (sp l j).f2) :
    keptP (ho h i) k ≠ keptP (ho h j) k := by
  rcases Nat.lt_trichotomy j i with h5 | h5 | h5
  · exact kept_ne_lt F h5 hi h1 h2 h3 h4
  · exact absurd h5 hij
  · exact (kept_ne_lt F h5 hj h3 h4 h1 h2).symm

/-! ### names play no part -/
def Same (l m : List SP) : Prop := l.length = m.length ∧ ∀ i, (sp l i).f1 = (sp m i).f1 ∧ (sp l i).f2 = (sp m i).f2
theorem Same.early {l m : List SP} (h : Same l m) (c : Int) : Scan.early l c = Scan.early m c := by
  funext a; unfold Scan.early; rw [(h.2 a).2]
theorem Same.step {l m : List SP} (h : Same l m) (regs : Int) (s : Sc) (i : Nat) : stepP l regs s i = stepP m regs s i := by
  have e1 : ∀ c s, leaveP l c s = leaveP m c s := fun c s => by unfold leaveP; rw [h.early]
  have e2 : ∀ i a, insP l i a = insP m i a := fun i a => by unfold insP; rw [(h.2 i).2, h.early]
  have e3 : ∀ i r s, enterP l i r s = enterP m i r s := fun i r s => by unfold enterP; rw [(h.2 i).2, e2]
  have e4 : ∀ i s, slotP l i s = slotP m i s := fun i s => by unfold slotP; rw [(h.2 i).1]
  have e5 : ∀ i a s, giveP l i a s = giveP m i a s := fun i a s => by unfold giveP; rw [(h.2 i).1]
  unfold stepP
  rw [e1, (h.2 i).1]
  simp only [e3, e4, e5, (h.2 i).1, (h.2 i).2, (h.2 _).1, (h.2 _).2]
theorem Same.assign {l m : List SP} (h : Same l m) (regs : Int) : assignP l regs = assignP m regs := by
  unfold assignP startP
  rw [h.1]
  congr 1
  funext s i
  exact h.step regs s i
theorem Home.more {s : SP} {x : HO} {r r' : Int} (h : Home s x r) (hr : r ≤ r') : Home s x r' := by
  obtain ⟨h1, h2, h3⟩ := h
  exact ⟨h1, by omega, h3⟩
theorem Home.same {s t : SP} {x : HO} {r : Int} (h : Home s x r) (h1 : s.f1 = t.f1) (h2 : s.f2 = t.f2) : Home t x r := by
  unfold Home at h ⊢; rw [← h1, ← h2]; exact h
/-- with no registers each has a slot. -/
theorem none_facts {l : List SP} {h : List HO} {n : Nat} (F : Facts l 0 h n) : n = l.length ∧ ∀ i, i < l.length → (ho h i).f0 = -1 ∧ (ho h i).f2 = (sp l i).f1 := by
  have key : ∀ i, i < l.length → (ho h i).f0 = -1 ∧ 0 ≤ (ho h i).f1 ∧ (ho h i).f2 = (sp l i).f1 := by
    intro i hi
    obtain ⟨h1, h2, h3, h4, h5⟩ := F.ok i hi
    have e : (ho h i).f0 = -1 := by omega
    have e1 : (ho h i).f1 ≠ -1 := fun e1 => by have := (h4 e1).1; omega
    exact ⟨e, by omega, (h5 e1).1 e⟩
  refine ⟨?_, fun i hi => ⟨(key i hi).1, (key i hi).2.2⟩⟩
  rw [← F.sn]
  have : (List.range l.length).countP (fun j => decide (0 ≤ (ho h j).f1)) = (List.range l.length).length := by
    rw [List.countP_eq_length]
    intro j hj
    rw [List.mem_range] at hj
    simpa using (key j hj).2.1
  rw [this, List.length_range]
end Scan

/-! ### Holds, told twice -/
namespace Scan
/-- the document's pairs. -/
def PairsR (l : List SP) (h : List HO) (i : Nat) : Prop := ∀ j, j < i → 0 ≤ (ho h i).f0 → (ho h j).f0 = (ho h i).f0 → (ho h j).f2 ≤ (sp l i).f1 ∨ (ho h i).f2 ≤ (sp l j).f1
/-- the last one ahead that has the same register. -/
def lastOf (h : List HO) (r : Int) : Nat → Option Nat
  | 0 => none
  | i + 1 => if (ho h i).f0 = r then some i else lastOf h r i
def PairsS (l : List SP) (h : List HO) (i : Nat) : Prop := 0 ≤ (ho h i).f0 → ∀ j, lastOf h (ho h i).f0 i = some j → (ho h j).f2 ≤ (sp l i).f1
theorem lastOf_some {h : List HO} {r : Int} : ∀ {i j : Nat}, lastOf h r i = some j → j < i ∧ (ho h j).f0 = r ∧ ∀ k, j < k → k < i → (ho h k).f0 ≠ r := by
  intro i
  induction i with
  | zero => intro j h; cases h
  | succ i ih =>
    intro j hj
    unfold lastOf at hj
    by_cases e : (ho h i).f0 = r
    · rw [if_pos e] at hj
      cases hj
      exact ⟨Nat.lt_succ_self _, e, fun k h1 h2 => by omega⟩
    · rw [if_neg e] at hj
      obtain ⟨h1, h2, h3⟩ := ih hj
      refine ⟨by omega, h2, fun k h4 h5 => ?_⟩
      by_cases ek : k = i
      · subst ek; exact e
      · exact h3 k h4 (by omega)
theorem lastOf_none {h : List HO} {r : Int} : ∀ {i : Nat}, lastOf h r i = none → ∀ k, k < i → (ho h k).f0 ≠ r := by
  intro i
  induction i with
  | zero => intro _ k hk; omega
  | succ i ih =>
    intro hj k hk
    unfold lastOf at hj
    by_cases e : (ho h i).f0 = r
    · rw [if_pos e] at hj; cases hj
    · rw [if_neg e] at hj
      by_cases ek : k = i
      · subst ek; exact e
      · exact ih hj k (by omega)
theorem home_cut {s : SP} {x : HO} {regs : Int} (hs : s.f1 ≤ s.f2) (hh : Home s x regs) (hr : 0 ≤ x.f0) : s.f1 < x.f2 := by
  obtain ⟨h1, h2, h3, h4, h5⟩ := hh
  by_cases e : x.f1 = -1
  · have := (h4 e).2; omega
  · exact ((h5 e).2 (by omega)).1
theorem pairs_iff {l : List SP} {h : List HO} {regs : Int} (hO : Ord l) (hh : ∀ i, i < l.length → Home (sp l i) (ho h i) regs) :
    (∀ i, i < l.length → PairsS l h i) ↔ (∀ i, i < l.length → PairsR l h i) := by
  constructor
  · intro hs
    have key : ∀ i, i < l.length → ∀ j, j < i → 0 ≤ (ho h i).f0 → (ho h j).f0 = (ho h i).f0 → (ho h j).f2 ≤ (sp l i).f1 := by
      intro i
      induction i using Nat.strongRecOn with
      | _ i ih =>
        intro hi j hj hp e
        cases hL : lastOf h (ho h i).f0 i with
        | none => exact absurd e (lastOf_none hL j hj)
        | some k =>
          obtain ⟨k1, k2, k3⟩ := lastOf_some hL
          have hk := hs i hi hp k hL
          by_cases ejk : j = k
          · subst ejk; exact hk
          · have hjk : j < k := by
              rcases Nat.lt_or_ge j k with h | h
              · exact h
              · exact absurd e (k3 j (by omega) hj)
            have h1 := ih k k1 (by omega) j hjk (by rw [k2]; exact hp) (by rw [k2]; exact e)
            have h2 := home_cut (hO.low k (by omega)).2.1 (hh k (by omega)) (by rw [k2]; exact hp)
            omega
    exact fun i hi j hj hp e => .inl (key i hi j hj hp e)
  · intro hr i hi hp j hL
    obtain ⟨h1, h2, _⟩ := lastOf_some hL
    rcases hr i hi j h1 hp h2 with h | h
    · exact h
    · have h3 := home_cut (hO.low i hi).2.1 (hh i hi) hp
      have := hO.rise j i (by omega) hi
      omega

/-! ### numbers 0, 1, 2 .. each once -/
theorem sub_perm {α : Type} [DecidableEq α] : ∀ {P Q : List α}, P.Nodup → (∀ x ∈ P, x ∈ Q) → Q.length ≤ P.length → P.Perm Q := by
  intro P
  induction P with
  | nil => intro Q _ _ h; have : Q = [] := List.length_eq_zero_iff.1 (by simpa using h); subst this; exact .refl _
  | cons x r ih =>
    intro Q hn hs hl
    rw [List.nodup_cons] at hn
    have hx := hs x List.mem_cons_self
    have h2 := ih (Q := Q.erase x) hn.2 (fun y hy => (List.mem_erase_of_ne (fun (e : y = x) => hn.1 (e ▸ hy))).2 (hs y (List.mem_cons_of_mem _ hy))) (by
      rw [List.length_erase_of_mem hx]; rw [List.length_cons] at hl; omega)
    exact (List.Perm.cons x h2).trans (List.perm_cons_erase hx).symm
def rangeI (n : Nat) : List Int := (List.range n).map (fun i : Nat => (i : Int))
theorem rangeI_nodup (n : Nat) : (rangeI n).Nodup := by
  unfold rangeI List.Nodup
  rw [List.pairwise_iff_getElem]
  intro a b ha hb hab
  rw [List.getElem_map, List.getElem_map, List.getElem_range, List.getElem_range]
  omega
theorem rangeI_mem {n : Nat} {x : Int} : x ∈ rangeI n ↔ 0 ≤ x ∧ x < n := by
  unfold rangeI
  rw [List.mem_map]
  constructor
  · rintro ⟨i, hi, rfl⟩
    rw [List.mem_range] at hi
    omega
  · rintro ⟨h1, h2⟩
    exact ⟨x.toNat, List.mem_range.2 (by omega), by omega⟩
theorem rangeI_len (n : Nat) : (rangeI n).length = n := by simp [rangeI]
theorem rangeI_get {n i : Nat} (h : i < n) : (rangeI n)[i]? = some (i : Int) := by simp [rangeI, h]
/-- what rises and is a rearrangement of the row of numbers is that row. -/
theorem sorted_once {s q : List Int} (hq : q.Perm s) (hsort : q.Pairwise (· ≤ ·)) :
    (∀ i, i < q.length → q.getD i 0 = (i : Int)) ↔ (s.Nodup ∧ ∀ x ∈ s, 0 ≤ x ∧ x < (s.length : Int)) := by
  have hlen := hq.length_eq
  constructor
  · intro h
    have e : q = rangeI s.length := by
      apply List.ext_getElem
      · rw [rangeI_len, hlen]
      · intro i h1 h2
        have := h i h1
        rw [List.getD_eq_getElem?_getD, List.getElem?_eq_getElem h1] at this
        have h3 : q[i] = (i : Int) := this
        have h4 := rangeI_get (n := s.length) (i := i) (by omega)
        rw [List.getElem?_eq_getElem h2] at h4
        rw [h3]; exact (Option.some.inj h4).symm
    refine ⟨hq.nodup_iff.1 (e ▸ rangeI_nodup _), fun x hx => rangeI_mem.1 ?_⟩
    rw [← e]; exact hq.mem_iff.2 hx
  · rintro ⟨hn, hb⟩ i hi
    have hp : q.Perm (rangeI s.length) := hq.trans (sub_perm hn (fun x hx => rangeI_mem.2 (hb x hx)) (by rw [rangeI_len]; omega))
    have hs2 : (rangeI s.length).Pairwise (· ≤ ·) := by
      unfold rangeI
      rw [List.pairwise_iff_getElem]
      intro a b ha hb hab
      rw [List.getElem_map, List.getElem_map, List.getElem_range, List.getElem_range]
      omega
    have e : q = rangeI s.length := List.Perm.eq_of_pairwise (fun a b _ _ h1 h2 => Int.le_antisymm h1 h2) hsort hs2 hp
    rw [e, List.getD_eq_getElem?_getD, rangeI_get (by omega)]; rfl
end Scan

end Go.Proofs.YtcmbpboeilojmaaGreat
