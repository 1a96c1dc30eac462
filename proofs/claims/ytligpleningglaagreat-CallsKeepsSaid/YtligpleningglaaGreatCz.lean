/- Closers that stand often in this proof, each told once: the one argument is found by its tactic. -/
import Derived.Below
import Derived.Deep.Draws
import Derived.Deep.AppendLies
import Derived.Maps.AppendAt
import Derived.OwnWalk
import Derived.Laws.BytesArg
import Derived.Laws.MakeOwn
import Derived.Laws.OwnMore
import Derived.Deep.OwnRows
import Derived.Tactics
import Derived.Lib.ConvBytes
import Derived.Laws.Slices
import Derived.WalkKit
import Derived.KernelRfl
import Derived.RowKit3
import Derived.Deep.LoopGhost
import Derived.Deep.QuietTactic
import Derived.BigQuiet
import Derived.WideLaws
import Derived.Deep.DeepCutAuto
import Derived.Deep.CutBlock
import Derived.Deep.RegionHeld3
import Derived.Laws.Rows
import Derived.Lib.AppendStr
import Derived.ArgAppend
import Derived.Laws.IdiomCopy
import Derived.RowKit
import Derived.OrdersHeld
import Derived.Laws.BitsLemmas
import Derived.Laws.StructEq
import Derived.Lib.SlicesCompact
import Derived.WalkSmall
import Derived.OneCell
import Derived.Shelf.SlGeneric
import Derived.Shelf.Slices.Clone
import Derived.Shelf.Slices.CompactI
import Derived.Shelf.Sort.Plain
import Derived.Shelf.Slices.In.SortNone
import Derived.Sort.OwnSortedInts
import Derived.Lib.OwnBridge
import Derived.Deep.RegionWith
import Derived.Orders
import Derived.RegionTactic
import Derived.Maps.Range
import Derived.Deep.Slices
import Derived.ChangeArms
import Derived.OpenShut
import Derived.SizedLaws
import Derived.ChangeSlices
import Derived.ProofKit
import Derived.ShutString
import Derived.ChangeOld
import Derived.Test.YtligpleningglaaGreatC00
namespace Go.Proofs
open Go Go.RowKit Go.Proofs.YtligpleningglaaGreatW.PrintWords
theorem qA {p : Prop} (h : p) : Aside0 p := Aside0.mk h
theorem qS {α : Type} (l : List α) (i : Nat) (a : α) : l.toArray.setIfInBounds i a = (l.set i a).toArray := List.setIfInBounds_toArray l i a
theorem qZ {α : Type} {x : α} {xs : List α} {a : α} : (x :: xs).set 0 a = a :: xs := List.set_cons_zero
theorem qN {α : Type} {x : α} {xs : List α} {i : Nat} {a : α} : (x :: xs).set (i + 1) a = x :: xs.set i a := List.set_cons_succ
theorem qD {α : Type} {l : List α} {i : Nat} {a : α} : l.getD i a = l[i]?.getD a := List.getD_eq_getElem?_getD
theorem qE {α : Type} {l : List α} {i : Nat} (h : i < l.length) : l[i]? = some l[i] := List.getElem?_eq_getElem h
theorem qO {p : Prop} [i : Decidable p] : decide p = true → p := of_decide_eq_true
set_option linter.unusedVariables false
theorem cq0 {p : Prop} (h : p := by first | (with_reducible assumption) | assumption) : p := h
theorem cq1 {p : Prop} (h : p := by repeat (first | (with_reducible first | exact HB.out | apply below_alloc | apply pw_below_drewN | apply below_drew1) | exact HB.out)) : p := h
theorem cq2 {p : Prop} (h : p := by omega) : p := h
theorem cq3 {p : Prop} (h : p := by kernel_rfl) : p := h
theorem cq4 {p : Prop} (h : p := by first | rfl | (simp; done) | (simp [*]; done)) : p := h
theorem cq5 {p : Prop} (h : p := by (with_reducible repeat (first | apply Kd.R_alloc | apply Kd.R_drewN | apply Kd.R_drew)); exact HO_14.out) : p := h
theorem cq6 {p : Prop} (h : p := by decide) : p := h
theorem cq7 {p : Prop} (h : p := by rintro e w2 ⟨rfl, hb⟩; exact ⟨_, rfl, hK _ (below_step hG hb)⟩) : p := h
theorem cq8 {p : Prop} (h : p := by repeat (first | (with_reducible first | exact HB.out | apply below_alloc | apply pw_below_drewN | apply below_drew1 | refine below_set ?_ GE270.out | refine below_set ?_ GE271.out) | exact HB.out)) : p := h
theorem cq9 {p : Prop} (h : p := by (with_reducible repeat (first | apply Kd.R_alloc | apply Kd.R_drewN | apply Kd.R_drew)); exact Kd.R_mono HO_10.out (fun _ hk => ⟨trivial, hk⟩)) : p := h
theorem cq10 {p : Prop} (h : p := by (with_reducible repeat (first | apply Kd.S_alloc | apply Kd.S_drewN | apply Kd.S_drew)); exact HO_4.out) : p := h
theorem cq11 {p : Prop} (h : p := by (try simp only [List.map_toArray, List.map_cons, List.map_nil]); first | done | rfl | (simp only [List.length_drop, List.length_take]; rfl)) : p := h
theorem cq12 {p : Prop} (h : p := by (with_reducible repeat (first | apply Kd.R_alloc | apply Kd.R_drewN | apply Kd.R_drew)); exact HO_10.out) : p := h
theorem cq13 {p : Prop} (h : p := by (with_reducible repeat (first | apply Kd.S_alloc | apply Kd.S_drewN | apply Kd.S_drew)); exact HO_12.out) : p := h
theorem cq14 {p : Prop} (h : p := by (with_reducible repeat (first | refine blk_drewN ?_ _ | refine blk_drew ?_ | refine blk_alloc ?_ _)); exact BK270.out) : p := h
theorem cq15 {p : Prop} (h : p := by repeat (first | (with_reducible exact HR569_0.out) | (with_reducible refine Kd.C_alloc ?_ _) | (with_reducible refine Kd.C_drewN ?_ _) | (with_reducible refine Kd.C_drew ?_) | exact HR569_0.out)) : p := h
theorem cq16 {p : Prop} (h : p := by rw [add_block]; exact fun h => h.2.1 rfl) : p := h
theorem cq17 {p : Prop} (h : p := by repeat (first | (with_reducible exact HR573_0.out) | (with_reducible refine Kd.C_alloc ?_ _) | (with_reducible refine Kd.C_drewN ?_ _) | (with_reducible refine Kd.C_drew ?_) | exact HR573_0.out)) : p := h
theorem cq18 {p : Prop} (h : p := by first | exact q569 | exact qO cq0 | (have e_ := (Kd.S_reads' HO_4.out).1; omega)) : p := h
theorem cq19 {p : Prop} (h : p := by repeat (first | (with_reducible first | exact HK.out | apply Kept.alloc | apply Kept.drewN | apply Kept.drew) | exact HK.out)) : p := h
theorem cq20 {p : Prop} (h : p := by repeat (first | (with_reducible first | exact HB.out | apply below_alloc | apply pw_below_drewN | apply below_drew1 | refine below_set ?_ GE270.out) | exact HB.out)) : p := h
theorem cq21 {p : Prop} (h : p := by (with_reducible repeat (first | refine blk_drewN ?_ _ | refine blk_drew ?_ | refine blk_alloc ?_ _)); exact BK271.out) : p := h
theorem cq22 {p : Prop} (h : p := by unfold at_; rw [qD, qE hlt]; rfl) : p := h
theorem cq23 {p : Prop} (h : p := by simp) : p := h
theorem cq24 {p : Prop} (h : p := by (with_reducible repeat (first | apply Kd.R_alloc | apply Kd.R_drewN | apply Kd.R_drew)); exact HL569_0.out) : p := h
theorem cq25 {p : Prop} (h : p := by (with_reducible repeat (first | apply Kd.R_alloc | apply Kd.R_drewN | apply Kd.R_drew)); exact HL573_0.out) : p := h
theorem cq26 {p : Prop} (h : p := by first | exact HK.out.1 | exact (show Kept w _ (fun k_ => P2_ k_ ∨ P3_ k_) from by repeat (first | (with_reducible first | exact HK.out | apply Kept.alloc | apply Kept.drewN | apply Kept.drew) | exact HK.out)).1) : p := h
theorem cq27 {p : Prop} (h : p := by first | exact q573 | exact qO cq0 | (have e_ := (Kd.S_reads' HO_4.out).1; omega)) : p := h
theorem cq28 {p : Prop} (h : p := by repeat (first | (with_reducible exact HR534_0.out) | (with_reducible refine Kd.C_alloc ?_ _) | (with_reducible refine Kd.C_drewN ?_ _) | (with_reducible refine Kd.C_drew ?_) | exact HR534_0.out)) : p := h
theorem cq29 {p : Prop} (h : p := by repeat (first | (with_reducible exact HR567.out) | (with_reducible refine Kd.C_alloc ?_ _) | (with_reducible refine Kd.C_drewN ?_ _) | (with_reducible refine Kd.C_drew ?_) | exact HR567.out)) : p := h
theorem cq30 {p : Prop} (h : p := by repeat (first | (with_reducible exact HR581.out) | (with_reducible refine Kd.C_alloc ?_ _) | (with_reducible refine Kd.C_drewN ?_ _) | (with_reducible refine Kd.C_drew ?_) | exact HR581.out)) : p := h
theorem cq31 {p : Prop} (h : p := by intro q hq; revert q hq; simp [Value.oneCell']) : p := h
theorem cq32 {p : Prop} (h : p := by have := HB.out; have := HT2.out.1.size; omega) : p := h
theorem cq33 {p : Prop} (h : p := by (with_reducible repeat (first | apply Kd.R_alloc | apply Kd.R_drewN | apply Kd.R_drew)); exact HO_6.out) : p := h
theorem cq34 {p : Prop} (h : p := by (with_reducible repeat (first | apply Kd.R_alloc | apply Kd.R_drewN | apply Kd.R_drew)); exact HO_2.out) : p := h
theorem cq35 {p : Prop} (h : p := by simp only [maxLen]; omega) : p := h
theorem cq36 {p : Prop} (h : p := by repeat (first | (with_reducible exact M3.out) | refine Kd.M_far ?_ (fun k hk => by show k ≠ g2; have := hk.1; have := T2.out; have := Y3.out; omega) _)) : p := h
theorem cq37 {p : Prop} (h : p := by rw [hx]; exact qE hlt) : p := h
theorem cq38 {p : Prop} (h : p := by simp [Act.eval, Array.getD_eq_getD_getElem?, e52]) : p := h
theorem cq39 {p : Prop} (h : p := by rw [List.getElem?_append_right cq40, CI_len, Nat.sub_self, List.getElem?_replicate, if_pos cq2]) : p := h
theorem cq40 {p : Prop} (h : p := by rw [CI_len]; exact Nat.le_refl _) : p := h
theorem cq41 {p : Prop} (h : p := by repeat (first | exact Below.refl _ _ | refine below_alloc ?_ _)) : p := h
theorem cq42 {p : Prop} (h : p := by unfold at_; rw [qD, qE cq59]; rfl) : p := h
theorem cq43 {p : Prop} (h : p := by repeat (first | (with_reducible exact HB.out) | refine below_set ?_ L2.out)) : p := h
theorem cq44 {p : Prop} (h : p := by simp [Act.eval, Array.getD_eq_getD_getElem?, e31, e35]) : p := h
theorem cq45 {p : Prop} (h : p := by (with_reducible repeat (first | apply Kd.R_alloc | apply Kd.R_drewN | apply Kd.R_drew)); exact HO_3.out) : p := h
theorem cq46 {p : Prop} (h : p := by simp only [size_alo]) : p := h
theorem cq47 {p : Prop} (h : p := by rw [hk]; exact congrArg some e) : p := h
theorem cq48 {p : Prop} (h : p := by have := HB.out; have := HT.out.1.size; omega) : p := h
theorem cq49 {p : Prop} (h : p := by rw [hz2]; omega) : p := h
theorem cq50 {p : Prop} (h : p := by injection e with e; subst e; exact HGW.out) : p := h
theorem cq51 {p : Prop} (h : p := by rw [zs_len]; omega) : p := h
theorem cq52 {p : Prop} (h : p := by simp; omega) : p := h
theorem cq53 {p : Prop} (h : p := by simp [Act.eval, Array.getD_eq_getD_getElem?, e20, e24]) : p := h
theorem cq54 {p : Prop} (h : p := by simp [Act.eval, Array.getD_eq_getD_getElem?, e48, e53]) : p := h
theorem cq55 {p : Prop} (h : p := by have := HLL.out; omega) : p := h
theorem cq56 {p : Prop} (h : p := by have := HS.out k; rwa [HVK.out] at this) : p := h
theorem cq57 {p : Prop} (h : p := by rw [mks_len]; omega) : p := h
theorem cq58 {p : Prop} (h : p := by rw [List.length_zipIdx, hlen]; omega) : p := h
theorem cq59 {p : Prop} (h : p := by rw [HGL.out]; exact hlt) : p := h
theorem cq60 {p : Prop} (h : p := by rfl) : p := h
theorem cq61 {p : Prop} (h : p := by go_simp; rfl) : p := h
end Go.Proofs
