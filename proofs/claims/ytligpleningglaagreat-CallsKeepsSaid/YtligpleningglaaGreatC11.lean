/- Texts of this proof, joined in build order: Nil, BagH, Bag, Apr, Sr, Sq. -/
import Derived.Test.YtligpleningglaaGreatCz
import Derived.Test.YtligpleningglaaGreatC02
import Derived.Test.YtligpleningglaaGreatC09
import Derived.Test.YtligpleningglaaGreatC10
import Derived.Below
set_option linter.unusedVariables false
set_option linter.unusedSimpArgs false
set_option linter.unusedSectionVars false
set_option maxHeartbeats 8000000
set_option maxRecDepth 100000
namespace Go.Proofs.YtligpleningglaaGreat.Mv
open Go Go.RowKit Go.Proofs.YtligpleningglaaGreatW.PrintWords Go.Proofs.YtligpleningglaaGreatW.PrintLast Go.Proofs.YtligpleningglaaGreatW.PrintMore
theorem flat61_nil (w : World) : Calls Tryz.prog 61 #[.slice none 0 0] w fun e w' => e = .returned (.bool true) ∧ Below w.heap.size w w' := by
  have hmk : ∀ W : World, (Instr.makeSlice 84 (.int .i64 0) (.int .i64 0)).run Tryz.prog W = .ok (.slice (some ⟨W.heap.size, 0, none⟩) 0 0) (W.alloc (.cells #[] 165)) := fun _ => by kernel_rfl
  go_enter Tryz.func61, Tryz.ntmps61
  go_wp2
  iterate 5 (refine wp_loop_rounds 1 ?_; rw [rounds_succ]; go_wp2)
  go_ret
  exact ⟨rfl, (Below.refl _ _).alloc (Nat.le_refl _) _⟩
theorem flat62_nil (w : World) : Calls Tryz.prog 62 #[.slice none 0 0] w fun e w' => e = .returned (.bool true) ∧ Below w.heap.size w w' := by
  have hmk : ∀ W : World, (Instr.makeSlice 22 (.int .i64 0) (.int .i64 0)).run Tryz.prog W = .ok (.slice (some ⟨W.heap.size, 0, none⟩) 0 0) (W.alloc (.cells #[] 44)) := fun _ => by kernel_rfl
  go_enter Tryz.func62, Tryz.ntmps62
  go_wp2
  iterate 5 (refine wp_loop_rounds 1 ?_; rw [rounds_succ]; go_wp2)
  go_ret
  exact ⟨rfl, (Below.refl _ _).alloc (Nat.le_refl _) _⟩
theorem flat63_nil (w : World) : Calls Tryz.prog 63 #[.slice none 0 0] w fun e w' => e = .returned (.bool true) ∧ Below w.heap.size w w' := by
  have hmk : ∀ W : World, (Instr.makeSlice 85 (.int .i64 0) (.int .i64 0)).run Tryz.prog W = .ok (.slice (some ⟨W.heap.size, 0, none⟩) 0 0) (W.alloc (.cells #[] 166)) := fun _ => by kernel_rfl
  go_enter Tryz.func63, Tryz.ntmps63
  go_wp2
  iterate 5 (refine wp_loop_rounds 1 ?_; rw [rounds_succ]; go_wp2)
  go_ret
  exact ⟨rfl, (Below.refl _ _).alloc (Nat.le_refl _) _⟩
theorem flat64_nil (w : World) : Calls Tryz.prog 64 #[.slice none 0 0] w fun e w' => e = .returned (.bool true) ∧ Below w.heap.size w w' := by
  have hmk : ∀ W : World, (Instr.makeSlice 86 (.int .i64 0) (.int .i64 0)).run Tryz.prog W = .ok (.slice (some ⟨W.heap.size, 0, none⟩) 0 0) (W.alloc (.cells #[] 167)) := fun _ => by kernel_rfl
  go_enter Tryz.func64, Tryz.ntmps64
  go_wp2
  iterate 5 (refine wp_loop_rounds 1 ?_; rw [rounds_succ]; go_wp2)
  go_ret
  exact ⟨rfl, (Below.refl _ _).alloc (Nat.le_refl _) _⟩
theorem flat65_nil (w : World) : Calls Tryz.prog 65 #[.slice none 0 0] w fun e w' => e = .returned (.bool true) ∧ Below w.heap.size w w' := by
  have hmk : ∀ W : World, (Instr.makeSlice 87 (.int .i64 0) (.int .i64 0)).run Tryz.prog W = .ok (.slice (some ⟨W.heap.size, 0, none⟩) 0 0) (W.alloc (.cells #[] 160)) := fun _ => by kernel_rfl
  go_enter Tryz.func65, Tryz.ntmps65
  go_wp2
  iterate 5 (refine wp_loop_rounds 1 ?_; rw [rounds_succ]; go_wp2)
  go_ret
  exact ⟨rfl, (Below.refl _ _).alloc (Nat.le_refl _) _⟩
theorem flat66_nil (w : World) : Calls Tryz.prog 66 #[.slice none 0 0] w fun e w' => e = .returned (.bool true) ∧ Below w.heap.size w w' := by
  have hmk : ∀ W : World, (Instr.makeSlice 88 (.int .i64 0) (.int .i64 0)).run Tryz.prog W = .ok (.slice (some ⟨W.heap.size, 0, none⟩) 0 0) (W.alloc (.cells #[] 46)) := fun _ => by kernel_rfl
  go_enter Tryz.func66, Tryz.ntmps66
  go_wp2
  iterate 5 (refine wp_loop_rounds 1 ?_; rw [rounds_succ]; go_wp2)
  go_ret
  exact ⟨rfl, (Below.refl _ _).alloc (Nat.le_refl _) _⟩
theorem flat67_nil (w : World) : Calls Tryz.prog 67 #[.slice none 0 0] w fun e w' => e = .returned (.bool true) ∧ Below w.heap.size w w' := by
  have hmk : ∀ W : World, (Instr.makeSlice 42 (.int .i64 0) (.int .i64 0)).run Tryz.prog W = .ok (.slice (some ⟨W.heap.size, 0, none⟩) 0 0) (W.alloc (.cells #[] 33)) := fun _ => by kernel_rfl
  go_enter Tryz.func67, Tryz.ntmps67
  go_wp2
  iterate 5 (refine wp_loop_rounds 1 ?_; rw [rounds_succ]; go_wp2)
  go_ret
  exact ⟨rfl, (Below.refl _ _).alloc (Nat.le_refl _) _⟩
theorem flat68_nil (w : World) : Calls Tryz.prog 68 #[.slice none 0 0] w fun e w' => e = .returned (.bool true) ∧ Below w.heap.size w w' := by
  have hmk : ∀ W : World, (Instr.makeSlice 89 (.int .i64 0) (.int .i64 0)).run Tryz.prog W = .ok (.slice (some ⟨W.heap.size, 0, none⟩) 0 0) (W.alloc (.cells #[] 169)) := fun _ => by kernel_rfl
  go_enter Tryz.func68, Tryz.ntmps68
  go_wp2
  iterate 5 (refine wp_loop_rounds 1 ?_; rw [rounds_succ]; go_wp2)
  go_ret
  exact ⟨rfl, (Below.refl _ _).alloc (Nat.le_refl _) _⟩
theorem flat69_nil (w : World) : Calls Tryz.prog 69 #[.slice none 0 0] w fun e w' => e = .returned (.bool true) ∧ Below w.heap.size w w' := by
  have hmk : ∀ W : World, (Instr.makeSlice 90 (.int .i64 0) (.int .i64 0)).run Tryz.prog W = .ok (.slice (some ⟨W.heap.size, 0, none⟩) 0 0) (W.alloc (.cells #[] 171)) := fun _ => by kernel_rfl
  go_enter Tryz.func69, Tryz.ntmps69
  go_wp2
  iterate 5 (refine wp_loop_rounds 1 ?_; rw [rounds_succ]; go_wp2)
  go_ret
  exact ⟨rfl, (Below.refl _ _).alloc (Nat.le_refl _) _⟩
theorem flat70_nil (w : World) : Calls Tryz.prog 70 #[.slice none 0 0] w fun e w' => e = .returned (.bool true) ∧ Below w.heap.size w w' := by
  have hmk : ∀ W : World, (Instr.makeSlice 91 (.int .i64 0) (.int .i64 0)).run Tryz.prog W = .ok (.slice (some ⟨W.heap.size, 0, none⟩) 0 0) (W.alloc (.cells #[] 172)) := fun _ => by kernel_rfl
  go_enter Tryz.func70, Tryz.ntmps70
  go_wp2
  iterate 5 (refine wp_loop_rounds 1 ?_; rw [rounds_succ]; go_wp2)
  go_ret
  exact ⟨rfl, (Below.refl _ _).alloc (Nat.le_refl _) _⟩
theorem flat71_nil (w : World) : Calls Tryz.prog 71 #[.slice none 0 0] w fun e w' => e = .returned (.bool true) ∧ Below w.heap.size w w' := by
  have hmk : ∀ W : World, (Instr.makeSlice 92 (.int .i64 0) (.int .i64 0)).run Tryz.prog W = .ok (.slice (some ⟨W.heap.size, 0, none⟩) 0 0) (W.alloc (.cells #[] 177)) := fun _ => by kernel_rfl
  go_enter Tryz.func71, Tryz.ntmps71
  go_wp2
  iterate 5 (refine wp_loop_rounds 1 ?_; rw [rounds_succ]; go_wp2)
  go_ret
  exact ⟨rfl, (Below.refl _ _).alloc (Nat.le_refl _) _⟩
theorem flat72_nil (w : World) : Calls Tryz.prog 72 #[.slice none 0 0] w fun e w' => e = .returned (.bool true) ∧ Below w.heap.size w w' := by
  have hmk : ∀ W : World, (Instr.makeSlice 93 (.int .i64 0) (.int .i64 0)).run Tryz.prog W = .ok (.slice (some ⟨W.heap.size, 0, none⟩) 0 0) (W.alloc (.cells #[] 183)) := fun _ => by kernel_rfl
  go_enter Tryz.func72, Tryz.ntmps72
  go_wp2
  iterate 5 (refine wp_loop_rounds 1 ?_; rw [rounds_succ]; go_wp2)
  go_ret
  exact ⟨rfl, (Below.refl _ _).alloc (Nat.le_refl _) _⟩
theorem flat73_nil (w : World) : Calls Tryz.prog 73 #[.slice none 0 0] w fun e w' => e = .returned (.bool true) ∧ Below w.heap.size w w' := by
  have hmk : ∀ W : World, (Instr.makeSlice 94 (.int .i64 0) (.int .i64 0)).run Tryz.prog W = .ok (.slice (some ⟨W.heap.size, 0, none⟩) 0 0) (W.alloc (.cells #[] 187)) := fun _ => by kernel_rfl
  go_enter Tryz.func73, Tryz.ntmps73
  go_wp2
  iterate 5 (refine wp_loop_rounds 1 ?_; rw [rounds_succ]; go_wp2)
  go_ret
  exact ⟨rfl, (Below.refl _ _).alloc (Nat.le_refl _) _⟩
theorem flat74_nil (w : World) : Calls Tryz.prog 74 #[.slice none 0 0] w fun e w' => e = .returned (.bool true) ∧ Below w.heap.size w w' := by
  have hmk : ∀ W : World, (Instr.makeSlice 95 (.int .i64 0) (.int .i64 0)).run Tryz.prog W = .ok (.slice (some ⟨W.heap.size, 0, none⟩) 0 0) (W.alloc (.cells #[] 192)) := fun _ => by kernel_rfl
  go_enter Tryz.func74, Tryz.ntmps74
  go_wp2
  iterate 5 (refine wp_loop_rounds 1 ?_; rw [rounds_succ]; go_wp2)
  go_ret
  exact ⟨rfl, (Below.refl _ _).alloc (Nat.le_refl _) _⟩
theorem flat75_nil (w : World) : Calls Tryz.prog 75 #[.slice none 0 0] w fun e w' => e = .returned (.bool true) ∧ Below w.heap.size w w' := by
  have hmk : ∀ W : World, (Instr.makeSlice 96 (.int .i64 0) (.int .i64 0)).run Tryz.prog W = .ok (.slice (some ⟨W.heap.size, 0, none⟩) 0 0) (W.alloc (.cells #[] 197)) := fun _ => by kernel_rfl
  go_enter Tryz.func75, Tryz.ntmps75
  go_wp2
  iterate 5 (refine wp_loop_rounds 1 ?_; rw [rounds_succ]; go_wp2)
  go_ret
  exact ⟨rfl, (Below.refl _ _).alloc (Nat.le_refl _) _⟩
theorem flat76_nil (w : World) : Calls Tryz.prog 76 #[.slice none 0 0] w fun e w' => e = .returned (.bool true) ∧ Below w.heap.size w w' := by
  have hmk : ∀ W : World, (Instr.makeSlice 97 (.int .i64 0) (.int .i64 0)).run Tryz.prog W = .ok (.slice (some ⟨W.heap.size, 0, none⟩) 0 0) (W.alloc (.cells #[] 201)) := fun _ => by kernel_rfl
  go_enter Tryz.func76, Tryz.ntmps76
  go_wp2
  iterate 5 (refine wp_loop_rounds 1 ?_; rw [rounds_succ]; go_wp2)
  go_ret
  exact ⟨rfl, (Below.refl _ _).alloc (Nat.le_refl _) _⟩
theorem flat77_nil (w : World) : Calls Tryz.prog 77 #[.slice none 0 0] w fun e w' => e = .returned (.bool true) ∧ Below w.heap.size w w' := by
  have hmk : ∀ W : World, (Instr.makeSlice 98 (.int .i64 0) (.int .i64 0)).run Tryz.prog W = .ok (.slice (some ⟨W.heap.size, 0, none⟩) 0 0) (W.alloc (.cells #[] 205)) := fun _ => by kernel_rfl
  go_enter Tryz.func77, Tryz.ntmps77
  go_wp2
  iterate 5 (refine wp_loop_rounds 1 ?_; rw [rounds_succ]; go_wp2)
  go_ret
  exact ⟨rfl, (Below.refl _ _).alloc (Nat.le_refl _) _⟩
theorem flat78_nil (w : World) : Calls Tryz.prog 78 #[.slice none 0 0] w fun e w' => e = .returned (.bool true) ∧ Below w.heap.size w w' := by
  have hmk : ∀ W : World, (Instr.makeSlice 99 (.int .i64 0) (.int .i64 0)).run Tryz.prog W = .ok (.slice (some ⟨W.heap.size, 0, none⟩) 0 0) (W.alloc (.cells #[] 51)) := fun _ => by kernel_rfl
  go_enter Tryz.func78, Tryz.ntmps78
  go_wp2
  iterate 5 (refine wp_loop_rounds 1 ?_; rw [rounds_succ]; go_wp2)
  go_ret
  exact ⟨rfl, (Below.refl _ _).alloc (Nat.le_refl _) _⟩
theorem flat79_nil (w : World) : Calls Tryz.prog 79 #[.slice none 0 0] w fun e w' => e = .returned (.bool true) ∧ Below w.heap.size w w' := by
  have hmk : ∀ W : World, (Instr.makeSlice 100 (.int .i64 0) (.int .i64 0)).run Tryz.prog W = .ok (.slice (some ⟨W.heap.size, 0, none⟩) 0 0) (W.alloc (.cells #[] 48)) := fun _ => by kernel_rfl
  go_enter Tryz.func79, Tryz.ntmps79
  go_wp2
  iterate 5 (refine wp_loop_rounds 1 ?_; rw [rounds_succ]; go_wp2)
  go_ret
  exact ⟨rfl, (Below.refl _ _).alloc (Nat.le_refl _) _⟩
theorem flat80_nil (w : World) : Calls Tryz.prog 80 #[.slice none 0 0] w fun e w' => e = .returned (.bool true) ∧ Below w.heap.size w w' := by
  have hmk : ∀ W : World, (Instr.makeSlice 101 (.int .i64 0) (.int .i64 0)).run Tryz.prog W = .ok (.slice (some ⟨W.heap.size, 0, none⟩) 0 0) (W.alloc (.cells #[] 47)) := fun _ => by kernel_rfl
  go_enter Tryz.func80, Tryz.ntmps80
  go_wp2
  iterate 5 (refine wp_loop_rounds 1 ?_; rw [rounds_succ]; go_wp2)
  go_ret
  exact ⟨rfl, (Below.refl _ _).alloc (Nat.le_refl _) _⟩
theorem flat81_nil (w : World) : Calls Tryz.prog 81 #[.slice none 0 0] w fun e w' => e = .returned (.bool true) ∧ Below w.heap.size w w' := by
  have hmk : ∀ W : World, (Instr.makeSlice 102 (.int .i64 0) (.int .i64 0)).run Tryz.prog W = .ok (.slice (some ⟨W.heap.size, 0, none⟩) 0 0) (W.alloc (.cells #[] 23)) := fun _ => by kernel_rfl
  go_enter Tryz.func81, Tryz.ntmps81
  go_wp2
  iterate 5 (refine wp_loop_rounds 1 ?_; rw [rounds_succ]; go_wp2)
  go_ret
  exact ⟨rfl, (Below.refl _ _).alloc (Nat.le_refl _) _⟩
theorem flat82_nil (w : World) : Calls Tryz.prog 82 #[.slice none 0 0] w fun e w' => e = .returned (.bool true) ∧ Below w.heap.size w w' := by
  have hmk : ∀ W : World, (Instr.makeSlice 103 (.int .i64 0) (.int .i64 0)).run Tryz.prog W = .ok (.slice (some ⟨W.heap.size, 0, none⟩) 0 0) (W.alloc (.cells #[] 213)) := fun _ => by kernel_rfl
  go_enter Tryz.func82, Tryz.ntmps82
  go_wp2
  iterate 5 (refine wp_loop_rounds 1 ?_; rw [rounds_succ]; go_wp2)
  go_ret
  exact ⟨rfl, (Below.refl _ _).alloc (Nat.le_refl _) _⟩
theorem flat83_nil (w : World) : Calls Tryz.prog 83 #[.slice none 0 0] w fun e w' => e = .returned (.bool true) ∧ Below w.heap.size w w' := by
  have hmk : ∀ W : World, (Instr.makeSlice 104 (.int .i64 0) (.int .i64 0)).run Tryz.prog W = .ok (.slice (some ⟨W.heap.size, 0, none⟩) 0 0) (W.alloc (.cells #[] 218)) := fun _ => by kernel_rfl
  go_enter Tryz.func83, Tryz.ntmps83
  go_wp2
  iterate 5 (refine wp_loop_rounds 1 ?_; rw [rounds_succ]; go_wp2)
  go_ret
  exact ⟨rfl, (Below.refl _ _).alloc (Nat.le_refl _) _⟩
theorem flat84_nil (w : World) : Calls Tryz.prog 84 #[.slice none 0 0] w fun e w' => e = .returned (.bool true) ∧ Below w.heap.size w w' := by
  have hmk : ∀ W : World, (Instr.makeSlice 105 (.int .i64 0) (.int .i64 0)).run Tryz.prog W = .ok (.slice (some ⟨W.heap.size, 0, none⟩) 0 0) (W.alloc (.cells #[] 223)) := fun _ => by kernel_rfl
  go_enter Tryz.func84, Tryz.ntmps84
  go_wp2
  iterate 5 (refine wp_loop_rounds 1 ?_; rw [rounds_succ]; go_wp2)
  go_ret
  exact ⟨rfl, (Below.refl _ _).alloc (Nat.le_refl _) _⟩
theorem flat85_nil (w : World) : Calls Tryz.prog 85 #[.slice none 0 0] w fun e w' => e = .returned (.bool true) ∧ Below w.heap.size w w' := by
  have hmk : ∀ W : World, (Instr.makeSlice 106 (.int .i64 0) (.int .i64 0)).run Tryz.prog W = .ok (.slice (some ⟨W.heap.size, 0, none⟩) 0 0) (W.alloc (.cells #[] 227)) := fun _ => by kernel_rfl
  go_enter Tryz.func85, Tryz.ntmps85
  go_wp2
  iterate 5 (refine wp_loop_rounds 1 ?_; rw [rounds_succ]; go_wp2)
  go_ret
  exact ⟨rfl, (Below.refl _ _).alloc (Nat.le_refl _) _⟩
theorem flat86_nil (w : World) : Calls Tryz.prog 86 #[.slice none 0 0] w fun e w' => e = .returned (.bool true) ∧ Below w.heap.size w w' := by
  have hmk : ∀ W : World, (Instr.makeSlice 107 (.int .i64 0) (.int .i64 0)).run Tryz.prog W = .ok (.slice (some ⟨W.heap.size, 0, none⟩) 0 0) (W.alloc (.cells #[] 231)) := fun _ => by kernel_rfl
  go_enter Tryz.func86, Tryz.ntmps86
  go_wp2
  iterate 5 (refine wp_loop_rounds 1 ?_; rw [rounds_succ]; go_wp2)
  go_ret
  exact ⟨rfl, (Below.refl _ _).alloc (Nat.le_refl _) _⟩
theorem flat87_nil (w : World) : Calls Tryz.prog 87 #[.slice none 0 0] w fun e w' => e = .returned (.bool true) ∧ Below w.heap.size w w' := by
  have hmk : ∀ W : World, (Instr.makeSlice 108 (.int .i64 0) (.int .i64 0)).run Tryz.prog W = .ok (.slice (some ⟨W.heap.size, 0, none⟩) 0 0) (W.alloc (.cells #[] 235)) := fun _ => by kernel_rfl
  go_enter Tryz.func87, Tryz.ntmps87
  go_wp2
  iterate 5 (refine wp_loop_rounds 1 ?_; rw [rounds_succ]; go_wp2)
  go_ret
  exact ⟨rfl, (Below.refl _ _).alloc (Nat.le_refl _) _⟩
theorem flat88_nil (w : World) : Calls Tryz.prog 88 #[.slice none 0 0] w fun e w' => e = .returned (.bool true) ∧ Below w.heap.size w w' := by
  have hmk : ∀ W : World, (Instr.makeSlice 109 (.int .i64 0) (.int .i64 0)).run Tryz.prog W = .ok (.slice (some ⟨W.heap.size, 0, none⟩) 0 0) (W.alloc (.cells #[] 240)) := fun _ => by kernel_rfl
  go_enter Tryz.func88, Tryz.ntmps88
  go_wp2
  iterate 5 (refine wp_loop_rounds 1 ?_; rw [rounds_succ]; go_wp2)
  go_ret
  exact ⟨rfl, (Below.refl _ _).alloc (Nat.le_refl _) _⟩
end Go.Proofs.YtligpleningglaaGreat.Mv
namespace Go.Proofs.YtligpleningglaaGreat.Mv
open Go Go.RowKit Go.Proofs.YtligpleningglaaGreatW.PrintWords Go.Proofs.YtligpleningglaaGreatW.PrintLast Go.Proofs.YtligpleningglaaGreatW.PrintMore Go.Proofs.YtligpleningglaaGreat.F Go.Proofs.YtligpleningglaaGreat.Lk Go.Proofs.YtligpleningglaaGreat.Keep
def bagC (f : Nat) (v : Value) : Array Value := ((List.replicate 28 (Value.slice none 0 0)).set f v).toArray
theorem bagC_at {f : Nat} {v : Value} (h : f < 28) : (bagC f v)[f]? = some v := by unfold bagC; simp [h]
theorem bagC_nil {f i : Nat} {v : Value} (h : i < 28) (hne : f ≠ i) : (bagC f v)[i]? = some (.slice none 0 0) := by unfold bagC; rw [List.getElem?_toArray, List.getElem?_set_ne hne, List.getElem?_replicate, if_pos h]
theorem bagC_set (f : Nat) (v u : Value) : (bagC f v).setIfInBounds f u = bagC f u := by unfold bagC; simp
theorem info35b : (Tryz.prog.info? 44).map (fun i => (i.zero, i.size, i.bytes)) = some (some (.slice none 0 0), 1, 24) := by kernel_rfl
theorem grown_setCell (w : World) (g i : Nat) (u : Value) : w.grownBy (w.setCell ⟨g, i, none⟩ u) (some g) := ⟨rfl, rfl, rfl, by simp, fun k _ hne => Below.heap_setCell w ⟨g, i, none⟩ u k (fun e => hne (by rw [e]))⟩
theorem wl_lit1 (w : World) (v : Value) (e : TypeId) : ∀ (j : Nat) (u : Value), [v][j]? = some u → (w.alloc (Obj.cells #[v] e)).cell? ((⟨w.heap.size, 0, none⟩ : Addr).add j) = some u := cells_lit1 w v e
end Go.Proofs.YtligpleningglaaGreat.Mv
namespace Go.Proofs.YtligpleningglaaGreat.Mv
open Go Go.RowKit Go.Proofs.YtligpleningglaaGreatW.PrintWords Go.Proofs.YtligpleningglaaGreatW.PrintLast Go.Proofs.YtligpleningglaaGreatW.PrintMore Go.Proofs.YtligpleningglaaGreat.F Go.Proofs.YtligpleningglaaGreat.Lk Go.Proofs.YtligpleningglaaGreat.Keep
theorem putInts_calls (base : Nat) (g : Nat) (A : Option Addr) (n c : Nat) (cur : Value) (vs : List Value) (m : Nat) (w : World) (hbase : base ≤ w.heap.size) (hm : m ≤ 1000)
    (hB : w.heap[g]? = some (.cells (bagC 1 cur) 111 (0, 0))) (ho : w.ownsRow base 44 1 cur m vs) (hg : cur.ownBlock ≠ some g) :
    Calls Tryz.prog 39 #[.pointer (some ⟨g, 0, none⟩), .slice A n c] w fun e w' => ∃ u : Value, e = .returned (.tuple #[]) ∧ w'.heap[g]? = some (.cells (bagC 1 u) 111 (0, 0)) ∧ w'.ownsRow base 44 1 u (m + 1) (vs ++ [.slice A n c]) ∧ u.ownBlock ≠ some g ∧
      (∀ q, q < w.heap.size → q ≠ g → cur.ownBlock ≠ some q → w'.heap[q]? = w.heap[q]?) ∧ (w'.os = w.os ∧ w'.tape = w.tape ∧ w'.output = w.output ∧ w.heap.size ≤ w'.heap.size) ∧ (u.ownBlock = cur.ownBlock ∨ ∃ b, u.ownBlock = some b ∧ w.heap.size ≤ b) := by
  obtain ⟨Ac, cc, rfl⟩ := own_slice ho
  have HO := qA ho
  have HB := qA hB
  have HG := qA hg
  have hc0 : w.cell? ⟨g, 1, none⟩ = some (.slice Ac m cc) := (blk_cell hB 1).trans (bagC_at cq6)
  have hlt := blk_lt hB
  clear ho hB hg
  go_enter Tryz.func39, Tryz.ntmps39
  go_wp2_with (first | ((with_reducible refine gate_builtin (b := .append) (xs := #[.tmp 8, .tmp 10]) rfl ?_); at_builtin; go_loud (refine O_append_keep (w0 := w) base rfl (.tmp 8) (.tmp 10) 22 44 (.slice none 0 0) 1 24 rfl Tryz.underlying22 info35b rfl cq6 cq2 (.slice Ac m cc) m vs 1 1 [.slice A n c] ⟨w.heap.size, 0, none⟩ ?aS ?aX rfl ?aC ?aN ?aO ?aB ?aZ ?aL ?_; (case aS => first | rfl | (simp [Act.eval]; done)); (case aX => first | rfl | (simp [Act.eval]; done)); (case aC => exact wl_lit1 _ _ _); (case aN => intro u hu; simp at hu; subst hu; rfl); (case aO => exact HO.out.alloc _); (case aB => exact (Below.refl _ _).alloc hbase _); (case aZ => simp; omega); (case aL => omega); intro v11 w4 ho1 ho2 hb hg hat; have HN4 := qA ho1; have HG4 := qA hg; have HAT := qA hat; clear ho1 ho2 hb hg hat; obtain ⟨A7, c7, rfl⟩ := own_slice HN4.out; have HB4 := qA (blk_grown (blk_alloc HB.out (Obj.cells #[Value.slice A n c] 44)) HG4.out (fun e => HG.out e.symm)); have hc4 : w4.cell? ⟨g, 1, none⟩ = some (.slice Ac m cc) := (blk_cell HB4.out 1).trans (bagC_at cq6); have hf4 := blk_frozen HB4.out 1; clear hc0)))
  have hgn : (Value.slice A7 (m + 1) c7).ownBlock ≠ some g := by
    intro e
    rcases HAT.out with h | h
    · exact HG.out (h.symm.trans e)
    · rw [h] at e; injection e with e; simp at e; omega
  refine bodyPost_end (v := .tuple #[]) (by simp [results, Tryz.results39, go_sem]) rfl ⟨_, rfl, ?_, own_grown HN4.out (u := .slice (some ⟨g, 0, none⟩) 0 0) (w1 := w4.setCell ⟨g, 1, none⟩ (.slice A7 (m + 1) c7)) (grown_setCell w4 g 1 _) (.inr hgn), hgn, ?_, ?_, ?_⟩
  · have := blk_put HB4.out 1 (.slice A7 (m + 1) c7) (bagC_set _ _ _)
    exact this
  · intro q hq hqg hqc
    have h1 : (w4.setCell ⟨g, 1, none⟩ (.slice A7 (m + 1) c7)).heap[q]? = w4.heap[q]? := Below.heap_setCell w4 ⟨g, 1, none⟩ _ q hqg
    rw [h1, HG4.out.block q cq52 (fun e => hqc e.symm)]
    exact Below.heap_alloc w _ q hq
  · refine ⟨HG4.out.os, HG4.out.tape, HG4.out.output, ?_⟩
    have := HG4.out.size
    simp at this ⊢
    omega
  · rcases HAT.out with h | h
    · exact .inl h
    · exact .inr ⟨_, h, by simp⟩
theorem bagInts_calls (base : Nat) (g : Nat) (vls : Value) (vs : List Value) (ns : List Nat) (w : World) (hm : vs.length ≤ 480) (hn : ∀ j, ns.getD j 0 + 64 ≤ 17592186044416) (hbase : base ≤ w.heap.size)
    (hB : w.heap[g]? = some (.cells (bagC 1 vls) 111 (0, 0))) (ho : w.ownsRow base 44 1 vls vs.length vs) (hr : ∃ cs, RowsO w base 3 1 vs ns cs) (ha : Apart vs vs) (hs : ∀ j, disj vls (at_ vs j)) (hg : ∀ j, (at_ vs j).ownBlock ≠ some g) :
    Calls Tryz.prog 40 #[.pointer (some ⟨g, 0, none⟩)] w fun e w' => e = .returned (.bool true) ∧ Below base w w' ∧ KQ w w' vs := by
  obtain ⟨cs0, hr0⟩ := hr
  have HO := qA ho
  have HR := qA hr0
  have HA := qA ha
  have HN := qA hn
  have HS := qA hs
  have HG := qA hg
  have HB := qA hB
  obtain ⟨A, c, rfl⟩ := own_slice ho
  have HW := qA (Below.refl w.heap.size w)
  have hc : w.cell? ⟨g, 0, none⟩ = some (.slice none 0 0) := (blk_cell hB 0).trans (bagC_nil cq6 cq6)
  clear ho hr0 ha hn hs hg hB
  go_enter Tryz.func40, Tryz.ntmps40
  go_wp2_with fail
  refine (flat61_nil _).mono ?_
  rintro e w1 ⟨rfl, hb⟩
  have HB' := qA (blk_below HB.out hb)
  have HW' := qA (below_then HW.out HW.out.size hb)
  have HO' := qA (pw_own_below HO.out hb)
  have HR' := qA (HR.out.below hb)
  clear hb hc HB HW HO HR
  have HB := HB'
  have HW := HW'
  have HO := HO'
  have HR := HR'
  clear HB' HW' HO' HR'
  have hc : w1.cell? ⟨g, 1, none⟩ = some (.slice A vs.length c) := (blk_cell HB.out 1).trans (bagC_at cq6)
  go_wp2_with fail
  refine (Mw.flatInts_calls base (.slice A vs.length c) vs ns _ hm HN.out (Nat.le_trans hbase HW.out.size) HO.out ⟨cs0, HR.out⟩ HA.out HS.out).mono ?_
  rintro e w2 ⟨rfl, hb, hk⟩
  have HB' := qA ((hk g (blk_lt HB.out) HG.out).trans HB.out)
  have HX := qA ((HW.out.mono hbase).trans hb)
  have HK : Aside0 (KQ w w2 vs) := ⟨fun q hq hv => (hk q (Nat.lt_of_lt_of_le hq HW.out.size) hv).trans (HW.out.block q hq)⟩
  clear hb hk hc HO HR HN HA HS HW HB
  have HB := HB'
  clear HB'
  have hc : w2.cell? ⟨g, 2, none⟩ = some (.slice none 0 0) := (blk_cell HB.out 2).trans (bagC_nil cq6 cq6)
  go_wp2_with fail
  refine (flat63_nil _).mono ?_
  rintro e w3 ⟨rfl, hb⟩
  have HB' := qA (blk_below HB.out hb)
  have HX' := qA (below_then HX.out (Nat.le_trans hbase HX.out.size) hb)
  have HK' : Aside0 (KQ w w3 vs) := ⟨HK.out.below HX.out.size hb⟩
  clear hb hc HB HX HK
  have HB := HB'
  have HX := HX'
  have HK := HK'
  clear HB' HX' HK'
  have hc : w3.cell? ⟨g, 3, none⟩ = some (.slice none 0 0) := (blk_cell HB.out 3).trans (bagC_nil cq6 cq6)
  go_wp2_with fail
  refine (flat64_nil _).mono ?_
  rintro e w4 ⟨rfl, hb⟩
  have HB' := qA (blk_below HB.out hb)
  have HX' := qA (below_then HX.out (Nat.le_trans hbase HX.out.size) hb)
  have HK' : Aside0 (KQ w w4 vs) := ⟨HK.out.below HX.out.size hb⟩
  clear hb hc HB HX HK
  have HB := HB'
  have HX := HX'
  have HK := HK'
  clear HB' HX' HK'
  have hc : w4.cell? ⟨g, 4, none⟩ = some (.slice none 0 0) := (blk_cell HB.out 4).trans (bagC_nil cq6 cq6)
  go_wp2_with fail
  refine (flat65_nil _).mono ?_
  rintro e w5 ⟨rfl, hb⟩
  have HB' := qA (blk_below HB.out hb)
  have HX' := qA (below_then HX.out (Nat.le_trans hbase HX.out.size) hb)
  have HK' : Aside0 (KQ w w5 vs) := ⟨HK.out.below HX.out.size hb⟩
  clear hb hc HB HX HK
  have HB := HB'
  have HX := HX'
  have HK := HK'
  clear HB' HX' HK'
  have hc : w5.cell? ⟨g, 5, none⟩ = some (.slice none 0 0) := (blk_cell HB.out 5).trans (bagC_nil cq6 cq6)
  go_wp2_with fail
  refine (flat66_nil _).mono ?_
  rintro e w6 ⟨rfl, hb⟩
  have HB' := qA (blk_below HB.out hb)
  have HX' := qA (below_then HX.out (Nat.le_trans hbase HX.out.size) hb)
  have HK' : Aside0 (KQ w w6 vs) := ⟨HK.out.below HX.out.size hb⟩
  clear hb hc HB HX HK
  have HB := HB'
  have HX := HX'
  have HK := HK'
  clear HB' HX' HK'
  have hc : w6.cell? ⟨g, 6, none⟩ = some (.slice none 0 0) := (blk_cell HB.out 6).trans (bagC_nil cq6 cq6)
  go_wp2_with fail
  refine (flat67_nil _).mono ?_
  rintro e w7 ⟨rfl, hb⟩
  have HB' := qA (blk_below HB.out hb)
  have HX' := qA (below_then HX.out (Nat.le_trans hbase HX.out.size) hb)
  have HK' : Aside0 (KQ w w7 vs) := ⟨HK.out.below HX.out.size hb⟩
  clear hb hc HB HX HK
  have HB := HB'
  have HX := HX'
  have HK := HK'
  clear HB' HX' HK'
  have hc : w7.cell? ⟨g, 7, none⟩ = some (.slice none 0 0) := (blk_cell HB.out 7).trans (bagC_nil cq6 cq6)
  go_wp2_with fail
  refine (flat68_nil _).mono ?_
  rintro e w8 ⟨rfl, hb⟩
  have HB' := qA (blk_below HB.out hb)
  have HX' := qA (below_then HX.out (Nat.le_trans hbase HX.out.size) hb)
  have HK' : Aside0 (KQ w w8 vs) := ⟨HK.out.below HX.out.size hb⟩
  clear hb hc HB HX HK
  have HB := HB'
  have HX := HX'
  have HK := HK'
  clear HB' HX' HK'
  have hc : w8.cell? ⟨g, 8, none⟩ = some (.slice none 0 0) := (blk_cell HB.out 8).trans (bagC_nil cq6 cq6)
  go_wp2_with fail
  refine (flat69_nil _).mono ?_
  rintro e w9 ⟨rfl, hb⟩
  have HB' := qA (blk_below HB.out hb)
  have HX' := qA (below_then HX.out (Nat.le_trans hbase HX.out.size) hb)
  have HK' : Aside0 (KQ w w9 vs) := ⟨HK.out.below HX.out.size hb⟩
  clear hb hc HB HX HK
  have HB := HB'
  have HX := HX'
  have HK := HK'
  clear HB' HX' HK'
  have hc : w9.cell? ⟨g, 9, none⟩ = some (.slice none 0 0) := (blk_cell HB.out 9).trans (bagC_nil cq6 cq6)
  go_wp2_with fail
  refine (flat70_nil _).mono ?_
  rintro e w10 ⟨rfl, hb⟩
  have HB' := qA (blk_below HB.out hb)
  have HX' := qA (below_then HX.out (Nat.le_trans hbase HX.out.size) hb)
  have HK' : Aside0 (KQ w w10 vs) := ⟨HK.out.below HX.out.size hb⟩
  clear hb hc HB HX HK
  have HB := HB'
  have HX := HX'
  have HK := HK'
  clear HB' HX' HK'
  have hc : w10.cell? ⟨g, 10, none⟩ = some (.slice none 0 0) := (blk_cell HB.out 10).trans (bagC_nil cq6 cq6)
  go_wp2_with fail
  refine (flat71_nil _).mono ?_
  rintro e w11 ⟨rfl, hb⟩
  have HB' := qA (blk_below HB.out hb)
  have HX' := qA (below_then HX.out (Nat.le_trans hbase HX.out.size) hb)
  have HK' : Aside0 (KQ w w11 vs) := ⟨HK.out.below HX.out.size hb⟩
  clear hb hc HB HX HK
  have HB := HB'
  have HX := HX'
  have HK := HK'
  clear HB' HX' HK'
  have hc : w11.cell? ⟨g, 11, none⟩ = some (.slice none 0 0) := (blk_cell HB.out 11).trans (bagC_nil cq6 cq6)
  go_wp2_with fail
  refine (flat72_nil _).mono ?_
  rintro e w12 ⟨rfl, hb⟩
  have HB' := qA (blk_below HB.out hb)
  have HX' := qA (below_then HX.out (Nat.le_trans hbase HX.out.size) hb)
  have HK' : Aside0 (KQ w w12 vs) := ⟨HK.out.below HX.out.size hb⟩
  clear hb hc HB HX HK
  have HB := HB'
  have HX := HX'
  have HK := HK'
  clear HB' HX' HK'
  have hc : w12.cell? ⟨g, 12, none⟩ = some (.slice none 0 0) := (blk_cell HB.out 12).trans (bagC_nil cq6 cq6)
  go_wp2_with fail
  refine (flat73_nil _).mono ?_
  rintro e w13 ⟨rfl, hb⟩
  have HB' := qA (blk_below HB.out hb)
  have HX' := qA (below_then HX.out (Nat.le_trans hbase HX.out.size) hb)
  have HK' : Aside0 (KQ w w13 vs) := ⟨HK.out.below HX.out.size hb⟩
  clear hb hc HB HX HK
  have HB := HB'
  have HX := HX'
  have HK := HK'
  clear HB' HX' HK'
  have hc : w13.cell? ⟨g, 13, none⟩ = some (.slice none 0 0) := (blk_cell HB.out 13).trans (bagC_nil cq6 cq6)
  go_wp2_with fail
  refine (flat74_nil _).mono ?_
  rintro e w14 ⟨rfl, hb⟩
  have HB' := qA (blk_below HB.out hb)
  have HX' := qA (below_then HX.out (Nat.le_trans hbase HX.out.size) hb)
  have HK' : Aside0 (KQ w w14 vs) := ⟨HK.out.below HX.out.size hb⟩
  clear hb hc HB HX HK
  have HB := HB'
  have HX := HX'
  have HK := HK'
  clear HB' HX' HK'
  have hc : w14.cell? ⟨g, 14, none⟩ = some (.slice none 0 0) := (blk_cell HB.out 14).trans (bagC_nil cq6 cq6)
  go_wp2_with fail
  refine (flat75_nil _).mono ?_
  rintro e w15 ⟨rfl, hb⟩
  have HB' := qA (blk_below HB.out hb)
  have HX' := qA (below_then HX.out (Nat.le_trans hbase HX.out.size) hb)
  have HK' : Aside0 (KQ w w15 vs) := ⟨HK.out.below HX.out.size hb⟩
  clear hb hc HB HX HK
  have HB := HB'
  have HX := HX'
  have HK := HK'
  clear HB' HX' HK'
  have hc : w15.cell? ⟨g, 15, none⟩ = some (.slice none 0 0) := (blk_cell HB.out 15).trans (bagC_nil cq6 cq6)
  go_wp2_with fail
  refine (flat76_nil _).mono ?_
  rintro e w16 ⟨rfl, hb⟩
  have HB' := qA (blk_below HB.out hb)
  have HX' := qA (below_then HX.out (Nat.le_trans hbase HX.out.size) hb)
  have HK' : Aside0 (KQ w w16 vs) := ⟨HK.out.below HX.out.size hb⟩
  clear hb hc HB HX HK
  have HB := HB'
  have HX := HX'
  have HK := HK'
  clear HB' HX' HK'
  have hc : w16.cell? ⟨g, 16, none⟩ = some (.slice none 0 0) := (blk_cell HB.out 16).trans (bagC_nil cq6 cq6)
  go_wp2_with fail
  refine (flat77_nil _).mono ?_
  rintro e w17 ⟨rfl, hb⟩
  have HB' := qA (blk_below HB.out hb)
  have HX' := qA (below_then HX.out (Nat.le_trans hbase HX.out.size) hb)
  have HK' : Aside0 (KQ w w17 vs) := ⟨HK.out.below HX.out.size hb⟩
  clear hb hc HB HX HK
  have HB := HB'
  have HX := HX'
  have HK := HK'
  clear HB' HX' HK'
  have hc : w17.cell? ⟨g, 17, none⟩ = some (.slice none 0 0) := (blk_cell HB.out 17).trans (bagC_nil cq6 cq6)
  go_wp2_with fail
  refine (flat78_nil _).mono ?_
  rintro e w18 ⟨rfl, hb⟩
  have HB' := qA (blk_below HB.out hb)
  have HX' := qA (below_then HX.out (Nat.le_trans hbase HX.out.size) hb)
  have HK' : Aside0 (KQ w w18 vs) := ⟨HK.out.below HX.out.size hb⟩
  clear hb hc HB HX HK
  have HB := HB'
  have HX := HX'
  have HK := HK'
  clear HB' HX' HK'
  have hc : w18.cell? ⟨g, 18, none⟩ = some (.slice none 0 0) := (blk_cell HB.out 18).trans (bagC_nil cq6 cq6)
  go_wp2_with fail
  refine (flat79_nil _).mono ?_
  rintro e w19 ⟨rfl, hb⟩
  have HB' := qA (blk_below HB.out hb)
  have HX' := qA (below_then HX.out (Nat.le_trans hbase HX.out.size) hb)
  have HK' : Aside0 (KQ w w19 vs) := ⟨HK.out.below HX.out.size hb⟩
  clear hb hc HB HX HK
  have HB := HB'
  have HX := HX'
  have HK := HK'
  clear HB' HX' HK'
  have hc : w19.cell? ⟨g, 19, none⟩ = some (.slice none 0 0) := (blk_cell HB.out 19).trans (bagC_nil cq6 cq6)
  go_wp2_with fail
  refine (flat80_nil _).mono ?_
  rintro e w20 ⟨rfl, hb⟩
  have HB' := qA (blk_below HB.out hb)
  have HX' := qA (below_then HX.out (Nat.le_trans hbase HX.out.size) hb)
  have HK' : Aside0 (KQ w w20 vs) := ⟨HK.out.below HX.out.size hb⟩
  clear hb hc HB HX HK
  have HB := HB'
  have HX := HX'
  have HK := HK'
  clear HB' HX' HK'
  have hc : w20.cell? ⟨g, 20, none⟩ = some (.slice none 0 0) := (blk_cell HB.out 20).trans (bagC_nil cq6 cq6)
  go_wp2_with fail
  refine (flat81_nil _).mono ?_
  rintro e w21 ⟨rfl, hb⟩
  have HB' := qA (blk_below HB.out hb)
  have HX' := qA (below_then HX.out (Nat.le_trans hbase HX.out.size) hb)
  have HK' : Aside0 (KQ w w21 vs) := ⟨HK.out.below HX.out.size hb⟩
  clear hb hc HB HX HK
  have HB := HB'
  have HX := HX'
  have HK := HK'
  clear HB' HX' HK'
  have hc : w21.cell? ⟨g, 21, none⟩ = some (.slice none 0 0) := (blk_cell HB.out 21).trans (bagC_nil cq6 cq6)
  go_wp2_with fail
  refine (flat82_nil _).mono ?_
  rintro e w22 ⟨rfl, hb⟩
  have HB' := qA (blk_below HB.out hb)
  have HX' := qA (below_then HX.out (Nat.le_trans hbase HX.out.size) hb)
  have HK' : Aside0 (KQ w w22 vs) := ⟨HK.out.below HX.out.size hb⟩
  clear hb hc HB HX HK
  have HB := HB'
  have HX := HX'
  have HK := HK'
  clear HB' HX' HK'
  have hc : w22.cell? ⟨g, 22, none⟩ = some (.slice none 0 0) := (blk_cell HB.out 22).trans (bagC_nil cq6 cq6)
  go_wp2_with fail
  refine (flat83_nil _).mono ?_
  rintro e w23 ⟨rfl, hb⟩
  have HB' := qA (blk_below HB.out hb)
  have HX' := qA (below_then HX.out (Nat.le_trans hbase HX.out.size) hb)
  have HK' : Aside0 (KQ w w23 vs) := ⟨HK.out.below HX.out.size hb⟩
  clear hb hc HB HX HK
  have HB := HB'
  have HX := HX'
  have HK := HK'
  clear HB' HX' HK'
  have hc : w23.cell? ⟨g, 23, none⟩ = some (.slice none 0 0) := (blk_cell HB.out 23).trans (bagC_nil cq6 cq6)
  go_wp2_with fail
  refine (flat84_nil _).mono ?_
  rintro e w24 ⟨rfl, hb⟩
  have HB' := qA (blk_below HB.out hb)
  have HX' := qA (below_then HX.out (Nat.le_trans hbase HX.out.size) hb)
  have HK' : Aside0 (KQ w w24 vs) := ⟨HK.out.below HX.out.size hb⟩
  clear hb hc HB HX HK
  have HB := HB'
  have HX := HX'
  have HK := HK'
  clear HB' HX' HK'
  have hc : w24.cell? ⟨g, 24, none⟩ = some (.slice none 0 0) := (blk_cell HB.out 24).trans (bagC_nil cq6 cq6)
  go_wp2_with fail
  refine (flat85_nil _).mono ?_
  rintro e w25 ⟨rfl, hb⟩
  have HB' := qA (blk_below HB.out hb)
  have HX' := qA (below_then HX.out (Nat.le_trans hbase HX.out.size) hb)
  have HK' : Aside0 (KQ w w25 vs) := ⟨HK.out.below HX.out.size hb⟩
  clear hb hc HB HX HK
  have HB := HB'
  have HX := HX'
  have HK := HK'
  clear HB' HX' HK'
  have hc : w25.cell? ⟨g, 25, none⟩ = some (.slice none 0 0) := (blk_cell HB.out 25).trans (bagC_nil cq6 cq6)
  go_wp2_with fail
  refine (flat86_nil _).mono ?_
  rintro e w26 ⟨rfl, hb⟩
  have HB' := qA (blk_below HB.out hb)
  have HX' := qA (below_then HX.out (Nat.le_trans hbase HX.out.size) hb)
  have HK' : Aside0 (KQ w w26 vs) := ⟨HK.out.below HX.out.size hb⟩
  clear hb hc HB HX HK
  have HB := HB'
  have HX := HX'
  have HK := HK'
  clear HB' HX' HK'
  have hc : w26.cell? ⟨g, 26, none⟩ = some (.slice none 0 0) := (blk_cell HB.out 26).trans (bagC_nil cq6 cq6)
  go_wp2_with fail
  refine (flat87_nil _).mono ?_
  rintro e w27 ⟨rfl, hb⟩
  have HB' := qA (blk_below HB.out hb)
  have HX' := qA (below_then HX.out (Nat.le_trans hbase HX.out.size) hb)
  have HK' : Aside0 (KQ w w27 vs) := ⟨HK.out.below HX.out.size hb⟩
  clear hb hc HB HX HK
  have HB := HB'
  have HX := HX'
  have HK := HK'
  clear HB' HX' HK'
  have hc : w27.cell? ⟨g, 27, none⟩ = some (.slice none 0 0) := (blk_cell HB.out 27).trans (bagC_nil cq6 cq6)
  go_wp2_with fail
  refine (flat88_nil _).mono ?_
  rintro e w28 ⟨rfl, hb⟩
  have HB' := qA (blk_below HB.out hb)
  have HX' := qA (below_then HX.out (Nat.le_trans hbase HX.out.size) hb)
  have HK' : Aside0 (KQ w w28 vs) := ⟨HK.out.below HX.out.size hb⟩
  clear hb hc HB HX HK
  have HB := HB'
  have HX := HX'
  have HK := HK'
  clear HB' HX' HK'
  go_wp2
  go_ret
  exact ⟨rfl, HX.out, HK.out⟩
end Go.Proofs.YtligpleningglaaGreat.Mv
namespace Go.Proofs.YtligpleningglaaGreat.Mv
open Go Go.RowKit Go.Proofs.YtligpleningglaaGreatW.PrintWords Go.Proofs.YtligpleningglaaGreatW.PrintLast Go.Proofs.YtligpleningglaaGreatW.PrintMore Go.Proofs.YtligpleningglaaGreat.F Go.Proofs.YtligpleningglaaGreat.Lk Go.Proofs.YtligpleningglaaGreat.Keep
def flatN (vss : Nat → List Value) : Nat → List Value
  | 0 => []
  | k + 1 => flatN vss k ++ vss k
theorem flatN_mono (vss : Nat → List Value) {k m : Nat} (h : k ≤ m) : (flatN vss k).length ≤ (flatN vss m).length := by
  induction m with
  | zero => have := Nat.le_zero.1 h; subst this; exact Nat.le_refl _
  | succ m ih => by_cases e : k = m + 1
                 · subst e; exact Nat.le_refl _
                 · have := ih cq2; simp only [flatN, List.length_append]; omega
theorem own_kq {w w' : World} {base e sz n : Nat} {v : Value} {xs vs : List Value} (h : w.ownsRow base e sz v n xs) (hk : KQ w w' vs) (hd : ∀ j, disj v (at_ vs j)) : w'.ownsRow base e sz v n xs := by
  rcases h with ⟨hxl, h | ⟨g, cap, cur, rfl, hbg, hg, rest⟩⟩
  · exact ⟨hxl, .inl h⟩
  · refine ⟨hxl, .inr ⟨g, cap, cur, rfl, hbg, ?_, rest⟩⟩
    rw [hk g (Array.getElem?_eq_some_iff.1 hg).1 (fun j e => by
      rcases hd j with h | h
      · cases h
      · exact h e.symm)]
    exact hg
def Ones (w : World) (lo : Nat) (k : Nat) (us : List Value) : Prop := ∀ u ∈ us, ∃ b, u = .slice (some ⟨b, 0, none⟩) 1 1 ∧ lo ≤ b ∧ w.heap[b]? = some (.cells #[.int .i64 (k : Int)] 3 (0, 0))
theorem Ones.keep {w w1 : World} {lo : Nat} {k : Nat} {us : List Value} (h : Ones w lo k us) (hh : ∀ q, lo ≤ q → q < w.heap.size → w1.heap[q]? = w.heap[q]?) : Ones w1 lo k us := fun u hu => by
  obtain ⟨b, h1, h2, h3⟩ := h u hu
  exact ⟨b, h1, h2, by rw [hh b h2 (Array.getElem?_eq_some_iff.1 h3).1]; exact h3⟩
theorem Ones.snoc {w : World} {lo : Nat} {k : Nat} {us : List Value} {u : Value} (h : Ones w lo k us) (hu : ∃ b, u = .slice (some ⟨b, 0, none⟩) 1 1 ∧ lo ≤ b ∧ w.heap[b]? = some (.cells #[.int .i64 (k : Int)] 3 (0, 0))) : Ones w lo k (us ++ [u]) := fun x hx => by
  rcases List.mem_append.1 hx with h1 | h1
  · exact h x h1
  · rw [List.mem_singleton.1 h1]; exact hu
theorem lit3_cells {X : World} {p : Nat} {a b c : Value} {e : TypeId} (h : X.heap[p]? = some (.cells #[a, b, c] e (0, 0))) : ∀ (j : Nat) (u : Value), [a, b, c][j]? = some u → X.cell? ((⟨p, 0, none⟩ : Addr).add j) = some u := fun j u hu => by
  rw [add_plain]; exact (blk_cell h j).trans (by simpa using hu)
def lit4 (w : World) : World := (((w.alloc (.cells #[.int .i64 (-1)] 3)).alloc (.cells #[.int .i64 (-1)] 3)).alloc (.cells #[.int .i64 (-1)] 3)).alloc (.cells #[.slice (some ⟨w.heap.size, 0, none⟩) 1 1, .slice (some ⟨w.heap.size + 1, 0, none⟩) 1 1, .slice (some ⟨w.heap.size + 1 + 1, 0, none⟩) 1 1] 44)
theorem lit4_cells (w : World) : ∀ (j : Nat) (u : Value), [Value.slice (some ⟨w.heap.size, 0, none⟩) 1 1, .slice (some ⟨w.heap.size + 1, 0, none⟩) 1 1, .slice (some ⟨w.heap.size + 1 + 1, 0, none⟩) 1 1][j]? = some u → (lit4 w).cell? ((⟨w.heap.size + 1 + 1 + 1, 0, none⟩ : Addr).add j) = some u := lit3_cells (by
  have := blk_new (((w.alloc (.cells #[.int .i64 (-1)] 3)).alloc (.cells #[.int .i64 (-1)] 3)).alloc (.cells #[.int .i64 (-1)] 3)) (.cells #[.slice (some ⟨w.heap.size, 0, none⟩) 1 1, .slice (some ⟨w.heap.size + 1, 0, none⟩) 1 1, .slice (some ⟨w.heap.size + 1 + 1, 0, none⟩) 1 1] 44)
  simpa [lit4] using this)
theorem lit4_grown (w : World) (row : Option Nat) : w.grownBy (lit4 w) row := (World.grownBy_alloc w _ row).trans ((World.grownBy_alloc _ _ row).trans ((World.grownBy_alloc _ _ row).trans (World.grownBy_alloc _ _ row)))
theorem lit4_own {w : World} {base e sz n : Nat} {v : Value} {xs : List Value} (h : w.ownsRow base e sz v n xs) : (lit4 w).ownsRow base e sz v n xs := (((h.alloc _).alloc _).alloc _).alloc _
theorem lit4_below {base : Nat} {w0 w : World} (h : Below base w0 w) (hs : base ≤ w.heap.size) : Below base w0 (lit4 w) := ((((h.alloc hs _).alloc cq52 _).alloc cq52 _).alloc cq52 _)
theorem lit4_size (w : World) : (lit4 w).heap.size = w.heap.size + 1 + 1 + 1 + 1 := by simp [lit4]
theorem ApartRows_calls (base : Nat) (A : Option Addr) (c : Nat) (rows : List Value) (vss : Nat → List Value) (ns : List Nat) (w : World)
    (hm : (flatN vss rows.length).length ≤ 480) (hrl : rows.length ≤ 480) (hn : ∀ j, ns.getD j 0 + 64 ≤ 17592186044416) (hbase : base ≤ w.heap.size)
    (ho : w.ownsRow base 22 1 (.slice A rows.length c) rows.length rows) (h1 : ∀ k, k < rows.length → w.ownsRow base 44 1 (at_ rows k) (vss k).length (vss k))
    (hsl : ∀ k, k < rows.length → ∀ v ∈ vss k, ∃ A n c, v = .slice A n c)
    (hr : ∃ cs, RowsO w base 3 1 (flatN vss rows.length) ns cs) (ha : Apart (flatN vss rows.length) (flatN vss rows.length))
    (hd0 : ∀ j, disj (.slice A rows.length c) (at_ (flatN vss rows.length) j)) (hd1 : ∀ k j, disj (at_ rows k) (at_ (flatN vss rows.length) j)) (hd2 : Apart rows rows) (hd3 : ∀ k, disj (.slice A rows.length c) (at_ rows k)) :
    Calls Tryz.prog 19 #[.slice A rows.length c] w fun e w' => e = .returned (.bool true) ∧ Below base w w' ∧
      (∀ q, q < w.heap.size → (∀ j, j < rows.length → (at_ rows j).ownBlock ≠ some q) → (∀ j, (at_ (flatN vss rows.length) j).ownBlock ≠ some q) → w'.heap[q]? = w.heap[q]?) := by
  obtain ⟨cs0, hr0⟩ := hr
  have HO := qA ho
  have H1 := qA h1
  have HS := qA hsl
  have HR := qA hr0
  have HA := qA ha
  have HN := qA hn
  have HM := qA hm
  have D0 := qA hd0
  have D1 := qA hd1
  have D2 := qA hd2
  have D3 := qA hd3
  have HB1 : Aside0 ((w.alloc (.cells (bagC 1 (.slice none 0 0)) 111)).heap[w.heap.size]? = some (.cells (bagC 1 (.slice none 0 0)) 111 (0, 0))) := ⟨blk_new _ _⟩
  have HO1 : Aside0 ((w.alloc (.cells (bagC 1 (.slice none 0 0)) 111)).ownsRow base 44 1 (.slice none 0 0) (flatN vss 0).length (flatN vss 0)) := ⟨⟨rfl, .inl ⟨rfl, rfl⟩⟩⟩
  have HW1 : Aside0 (Below w.heap.size w (w.alloc (.cells (bagC 1 (.slice none 0 0)) 111))) := ⟨(Below.refl _ _).alloc (Nat.le_refl _) _⟩
  clear ho h1 hsl hr0 ha hn hm hd0 hd1 hd2 hd3
  go_enter Tryz.func19, Tryz.ntmps19
  go_wp2
  go_loopw [4] (fun v4 wr => ∃ (k : Nat) (cur : Value), k ≤ rows.length ∧ v4 = .int .i64 (k : Int) ∧ Aside0 (wr.heap[w.heap.size]? = some (.cells (bagC 1 cur) 111 (0, 0))) ∧ Aside0 (wr.ownsRow base 44 1 cur (flatN vss k).length (flatN vss k)) ∧ Aside0 (cur.ownBlock = none ∨ ∃ b, cur.ownBlock = some b ∧ w.heap.size ≤ b ∧ b ≠ w.heap.size) ∧ Aside0 (Below w.heap.size w wr)) (fun v4 _ => rows.length - (intOf v4).toNat)
  case atStart => exact ⟨0, .slice none 0 0, Nat.zero_le _, rfl, HB1, HO1, ⟨.inl rfl⟩, HW1⟩
  case round =>
    clear HB1 HO1 HW1
    obtain ⟨k, cur, hk, rfl, HB, HC, HD, HW⟩ := hrel
    by_cases hlt : k < rows.length
    · obtain ⟨L, c', hLv, hLb, hLl⟩ := HO.out.form cq2
      injection hLv with e1 _ e2
      subst e1 e2
      have hx00 : w.cell? ⟨L, k, none⟩ = some (at_ rows k) := by
        have := HO.out.cells (g := L) rfl k (at_ rows k) cq22
        rwa [add_plain] at this
      have hk0 := H1.out k hlt
      obtain ⟨Ak, ck, hvk⟩ := own_slice hk0
      obtain ⟨n, hnk⟩ : ∃ n, (vss k).length = n := ⟨_, rfl⟩
      rw [hnk] at hvk hk0
      rw [hvk] at hx00 hk0
      have HK0 := qA hk0
      have HNK := qA hnk
      have HX0 := qA hx00
      have hn480 : n ≤ 480 := by
        have h1 := flatN_mono vss (show k + 1 ≤ rows.length from hlt)
        have h2 := HM.out
        simp only [flatN, List.length_append] at h1
        omega
      clear hk0 hvk hnk hx00
      go_wp2
      go_loopw [5] (fun v5 wi => ∃ (i : Nat) (cur : Value), i ≤ n ∧ v5 = .int .i64 (i : Int) ∧ Aside0 (wi.heap[w.heap.size]? = some (.cells (bagC 1 cur) 111 (0, 0))) ∧ Aside0 (wi.ownsRow base 44 1 cur ((flatN vss k).length + i) (flatN vss k ++ (vss k).take i)) ∧ Aside0 (cur.ownBlock = none ∨ ∃ b, cur.ownBlock = some b ∧ w.heap.size ≤ b ∧ b ≠ w.heap.size) ∧ Aside0 (Below w.heap.size w wi)) (fun v5 _ => n - (intOf v5).toNat)
      case atStart => exact ⟨0, cur, Nat.zero_le _, rfl, HB, ⟨by have := HC.out; simpa using this⟩, HD, HW⟩
      case round =>
        clear HB HC HD HW
        obtain ⟨i, cur, hi, rfl, HB, HC, HD, HW⟩ := hrel
        have hx0 := pw_cell_below HW.out HX0.out
        by_cases hli : i < n
        · have hli' : i < (vss k).length := by rw [HNK.out]; exact hli
          obtain ⟨b, c2, hbv, hbb, hbl⟩ := HK0.out.form cq2
          injection hbv with e1 _ e2
          subst e1 e2
          obtain ⟨Ai, ni, ci, hvi⟩ := HS.out k hlt _ (List.getElem_mem hli')
          have hx1 : wr.cell? ⟨b, i, none⟩ = some (.slice Ai ni ci) := pw_cell_below HW.out (by
            have := HK0.out.cells (g := b) rfl i (.slice Ai ni ci) (by rw [qE hli', hvi])
            rwa [add_plain] at this)
          have HVI := qA hvi
          have HNE : Aside0 (cur.ownBlock ≠ some w.heap.size) := ⟨by
            rcases HD.out with h | ⟨b, h, _, h2⟩
            · rw [h]; simp
            · rw [h]; intro e; injection e with e; exact h2 e⟩
          clear hvi
          have hle : (flatN vss k).length + i ≤ 1000 := by
            have h1 := flatN_mono vss (show k + 1 ≤ rows.length from hlt)
            have h2 := HM.out
            simp only [flatN, List.length_append] at h1
            omega
          have HLE := qA hle
          clear hle
          go_wp2_with fail
          with_reducible refine (putInts_calls base w.heap.size Ai ni ci cur (flatN vss k ++ (vss k).take i) ((flatN vss k).length + i) _ (Nat.le_trans hbase HW.out.size) HLE.out HB.out HC.out HNE.out).mono ?_
          rintro e w2 ⟨u, rfl, h1, h2, h3, h4, h5, h6⟩
          have HB2 := qA h1
          have HC2 : Aside0 (w2.ownsRow base 44 1 u ((flatN vss k).length + (i + 1)) (flatN vss k ++ (vss k).take (i + 1))) := ⟨by
            have e : flatN vss k ++ (vss k).take (i + 1) = flatN vss k ++ (vss k).take i ++ [.slice Ai ni ci] := by
              rw [List.take_succ_eq_append_getElem hli', HVI.out, List.append_assoc]
            rw [e]; exact h2⟩
          have HD2 : Aside0 (u.ownBlock = none ∨ ∃ b, u.ownBlock = some b ∧ w.heap.size ≤ b ∧ b ≠ w.heap.size) := ⟨by
            rcases h6 with h | ⟨b, h, hb⟩
            · rcases HD.out with h7 | ⟨b, h7, h8, h9⟩
              · exact .inl (h.trans h7)
              · exact .inr ⟨b, h.trans h7, h8, h9⟩
            · exact .inr ⟨b, h, Nat.le_trans HW.out.size hb, fun e => h3 (by rw [h, e])⟩⟩
          have HW2 : Aside0 (∀ q, q < w.heap.size → w2.heap[q]? = w.heap[q]?) := ⟨fun q hq => by
            rw [h4 q (Nat.lt_of_lt_of_le hq HW.out.size) cq2 (by
              rcases HD.out with h7 | ⟨b, h7, h8, h9⟩
              · rw [h7]; simp
              · rw [h7]; intro e; injection e with e; omega)]
            exact HW.out.block q hq⟩
          have HWB : Aside0 (Below w.heap.size w w2) := ⟨⟨h5.1.trans HW.out.os, h5.2.1.trans HW.out.tape, h5.2.2.1.trans HW.out.output, Nat.le_trans HW.out.size h5.2.2.2, HW2.out⟩⟩
          clear h1 h2 h3 h4 h5 h6 hx0 hx1
          go_wp2
          go_roundw
          case rel => exact ⟨i + 1, u, by omega, by go_num, HB2, HC2, HD2, HWB⟩
          case measure => simp [intOf]; omega
        · obtain rfl : i = n := by omega
          have HCn : Aside0 (wr.ownsRow base 44 1 cur (flatN vss (k + 1)).length (flatN vss (k + 1))) := ⟨by
            have := HC.out
            rw [← HNK.out, List.take_length] at this
            simpa [flatN] using this⟩
          clear HC
          go_wp2
          go_roundw
          case rel => exact ⟨k + 1, cur, by omega, by go_num, HB, HCn, HD, HW⟩
          case measure => simp [intOf]; omega
    · obtain rfl : k = rows.length := by omega
      have HRW := qA (HR.out.below HW.out)
      have HDJ : Aside0 (∀ j, disj cur (at_ (flatN vss rows.length) j)) := ⟨fun j => by
        rcases HD.out with h | ⟨b, h, hb, _⟩
        · exact .inl h
        · by_cases hj : j < (flatN vss rows.length).length
          · exact (disj_fresh (HR.out j hj) h hb).symm
          · refine disj.symm (.inl ?_)
            unfold at_
            rw [qD, List.getElem?_eq_none cq2]
            rfl⟩
      have HGJ : Aside0 (∀ j, (at_ (flatN vss rows.length) j).ownBlock ≠ some w.heap.size) := ⟨fun j e => by
        by_cases hj : j < (flatN vss rows.length).length
        · have := ((HR.out j hj).lt w.heap.size e).2
          omega
        · unfold at_ at e
          rw [qD, List.getElem?_eq_none cq2] at e
          cases e⟩
      go_wp2_with fail
      with_reducible refine (bagInts_calls base w.heap.size cur (flatN vss rows.length) ns _ HM.out HN.out (Nat.le_trans hbase HW.out.size) HB.out HC.out ⟨cs0, HRW.out⟩ HA.out HDJ.out HGJ.out).mono ?_
      rintro e w3 ⟨rfl, hb, hk⟩
      have HX := qA ((HW.out.mono hbase).trans hb)
      have HK : Aside0 (KQ w w3 (flatN vss rows.length)) := ⟨fun q hq hv => (hk q (Nat.lt_of_lt_of_le hq HW.out.size) hv).trans (HW.out.block q hq)⟩
      clear hb hk
      have HO3 := qA (own_kq HO.out HK.out D0.out)
      have H3 : Aside0 (∀ k, k < rows.length → w3.ownsRow base 44 1 (at_ rows k) (vss k).length (vss k)) := ⟨fun k hk => own_kq (H1.out k hk) HK.out (D1.out k)⟩
      clear hk HB HC HD HW HRW HDJ HGJ HR HA H1 HO
      go_wp2
      obtain ⟨W3, hW3⟩ : ∃ x, x = w3 := ⟨_, rfl⟩
      have HLT : Aside0 (∀ j, j < rows.length → ∀ b, (at_ rows j).ownBlock = some b → b < W3.heap.size) := ⟨fun j hj b e => by rw [hW3]; exact ((H3.out j hj).lt b e).2⟩
      have HKW : Aside0 (KQ w W3 (flatN vss rows.length)) := ⟨by rw [hW3]; exact HK.out⟩
      have HSW : Aside0 (w.heap.size ≤ W3.heap.size) := ⟨by rw [hW3]; exact HX.out.size⟩
      clear HK
      go_loopw [6] (fun v6 wr => ∃ (k : Nat) (us : Nat → List Value), k ≤ rows.length ∧ v6 = .int .i64 (k : Int) ∧ Aside0 (wr.ownsRow base 22 1 (.slice A rows.length c) rows.length rows)
        ∧ Aside0 (∀ j, j < rows.length → wr.ownsRow base 44 1 (at_ rows j) (vss j).length (us j)) ∧ Aside0 (∀ j, j < k → Ones wr W3.heap.size j (us j)) ∧ Aside0 (Below base w wr) ∧ Aside0 (W3.heap.size ≤ wr.heap.size) ∧ Aside0 (∀ q, q < W3.heap.size → (∀ j, j < rows.length → (at_ rows j).ownBlock ≠ some q) → wr.heap[q]? = W3.heap[q]?)) (fun v6 _ => rows.length - (intOf v6).toNat)
      case atStart => exact ⟨0, vss, Nat.zero_le _, rfl, HO3, H3, ⟨fun j hj => absurd hj cq2⟩, HX, ⟨by rw [hW3]; exact Nat.le_refl _⟩, ⟨fun q _ _ => by rw [hW3]⟩⟩
      case round =>
        clear HO3 H3 HX
        obtain ⟨k, us, hk, rfl, HO, H1, HU, HB, HS3, HQ⟩ := hrel
        by_cases hlt : k < rows.length
        · obtain ⟨L, c', hLv, hLb, hLl⟩ := HO.out.form cq2
          injection hLv with e1 _ e2
          subst e1 e2
          have hx0 : wr.cell? ⟨L, k, none⟩ = some (at_ rows k) := by
            have := HO.out.cells (g := L) rfl k (at_ rows k) cq22
            rwa [add_plain] at this
          have hk0 := H1.out k hlt
          obtain ⟨Ak, ck, hvk⟩ := own_slice hk0
          obtain ⟨n, hnk⟩ : ∃ n, (vss k).length = n := ⟨_, rfl⟩
          rw [hnk] at hvk hk0
          rw [hvk] at hx0 hk0
          have HK0 := qA hk0
          have HNK := qA hnk
          have HVK := qA hvk
          have hn480 : n ≤ 480 := by
            have h1 := flatN_mono vss (show k + 1 ≤ rows.length from hlt)
            have h2 := HM.out
            simp only [flatN, List.length_append] at h1
            omega
          have HLK : Aside0 (some L ≠ (Value.slice Ak n ck).ownBlock) := ⟨by
            have := D3.out k
            rw [hvk] at this
            rcases this with h | h
            · cases h
            · exact h⟩
          clear hk0 hvk hnk
          go_wp2
          obtain ⟨W4, hW4⟩ : ∃ x, x = wr := ⟨_, rfl⟩
          subst hW4
          go_loopw [7] (fun v7 wi => ∃ (i : Nat) (zs : List Value), i ≤ n ∧ v7 = .int .i64 (i : Int) ∧ Aside0 (wi.ownsRow base 44 1 (.slice Ak n ck) n zs) ∧ Aside0 (Ones wi W3.heap.size k (zs.take i)) ∧ Aside0 (Below base w wi) ∧ Aside0 (W4.grownBy wi (Value.slice Ak n ck).ownBlock)) (fun v7 _ => n - (intOf v7).toNat)
          case atStart => exact ⟨0, us k, Nat.zero_le _, rfl, HK0, ⟨fun u hu => by simp at hu⟩, HB, ⟨World.grownBy.refl _ _⟩⟩
          case round =>
            clear HK0
            obtain ⟨i, zs, hi, rfl, HK, HZ, HBi, HG⟩ := hrel
            have hx0i : wr.cell? ⟨L, k, none⟩ = some (.slice Ak n ck) := by
              rw [HG.out.cell_far _ (World.block_lt_of_cell? _ _ hx0) (HLK.out)]
              exact hx0
            by_cases hli : i < n
            · have hlz : zs.length = n := by simpa using HK.out.1
              obtain ⟨b, c2, hbv, hbb, hbl⟩ := HK.out.form cq2
              injection hbv with e1 _ e2
              subst e1 e2
              have hKa := HK.out.alloc (.cells #[.int .i64 (k : Int)] 3)
              obtain ⟨z0, hz0⟩ : ∃ z, zs[i]? = some z := ⟨_, qE cq2⟩
              have hcl : (wr.alloc (.cells #[.int .i64 (k : Int)] 3)).cell? ⟨b, i, none⟩ = some z0 := by
                have := hKa.cells (g := b) rfl i z0 hz0
                rwa [add_plain] at this
              have hfr : (wr.alloc (.cells #[.int .i64 (k : Int)] 3)).frozen? ⟨b, i, none⟩ = false := hKa.frozenAt i
              obtain ⟨hst, hgr⟩ := hKa.stored i (.slice (some ⟨wr.heap.size, 0, none⟩) 1 1)
              have HST := qA hst
              have HGR := qA hgr
              have HLZ := qA hlz
              have hb3 : b < W3.heap.size := HLT.out k hlt b (by rw [HVK.out]; rfl)
              have hwr : W3.heap.size ≤ wr.heap.size := Nat.le_trans HS3.out HG.out.size
              have HZn : Aside0 (Ones ((wr.alloc (.cells #[.int .i64 (k : Int)] 3)).setCell ⟨b, i, none⟩ (.slice (some ⟨wr.heap.size, 0, none⟩) 1 1)) W3.heap.size k ((zs.set i (.slice (some ⟨wr.heap.size, 0, none⟩) 1 1)).take (i + 1))) := ⟨by
                rw [List.take_succ_eq_append_getElem cq52, List.take_set_of_le (Nat.le_refl _), List.getElem_set_self]
                refine Ones.snoc (HZ.out.keep (fun q h1 h2 => ?_)) ⟨_, rfl, hwr, ?_⟩
                · rw [Below.heap_setCell _ ⟨b, i, none⟩ _ q cq52]
                  exact Below.heap_alloc wr _ q h2
                · rw [Below.heap_setCell _ ⟨b, i, none⟩ _ _ cq52]
                  exact blk_new _ _⟩
              have HBn : Aside0 (Below base w ((wr.alloc (.cells #[.int .i64 (k : Int)] 3)).setCell ⟨b, i, none⟩ (.slice (some ⟨wr.heap.size, 0, none⟩) 1 1))) := ⟨(HBi.out.alloc (Nat.le_trans hbase HBi.out.size) _).setCell hbb _⟩
              have HGn : Aside0 (W4.grownBy ((wr.alloc (.cells #[.int .i64 (k : Int)] 3)).setCell ⟨b, i, none⟩ (.slice (some ⟨wr.heap.size, 0, none⟩) 1 1)) (Value.slice (some ⟨b, 0, none⟩) n ck).ownBlock) := ⟨HG.out.trans ((World.grownBy_alloc wr _ _).trans HGR.out)⟩
              rw [World.setCell_alloc_past _ _ _ _ (Nat.lt_of_lt_of_le hb3 hwr)] at HST HZn HBn HGn
              clear hst hgr hlz hKa hz0 hb3 hwr
              go_wp2
              go_roundw
              case rel => exact ⟨i + 1, _, by omega, by go_num, HST, HZn, HBn, HGn⟩
              case measure => simp [intOf]; omega
            · obtain rfl : i = n := by omega
              have hlz : zs.length = i := by simpa using HK.out.1
              have HZf : Aside0 (Ones wr W3.heap.size k zs) := ⟨by have := HZ.out; rwa [List.take_of_length_le cq2] at this⟩
              have HCL := qA (lit4_cells wr)
              have HK4 := qA (lit4_own HK.out)
              have HB4 := qA (lit4_below HBi.out (Nat.le_trans hbase HBi.out.size))
              have HG4 := qA (HG.out.trans (lit4_grown wr _))
              have HSZ : Aside0 (base ≤ (lit4 wr).heap.size) := ⟨Nat.le_trans (Nat.le_trans hbase HBi.out.size) (by rw [lit4_size]; omega)⟩
              clear hlz
              go_wp2_with (first | ((with_reducible refine gate_builtin (b := .append) (xs := #[.tmp 66, .tmp 70]) rfl ?_); at_builtin; go_loud (refine O_append_keep (w0 := w) (W := lit4 wr) base rfl (.tmp 66) (.tmp 70) 22 44 (.slice none 0 0) 1 24 rfl Tryz.underlying22 info35b rfl cq6 cq2 (.slice Ak i ck) i zs 3 3 [Value.slice (some ⟨wr.heap.size, 0, none⟩) 1 1, .slice (some ⟨wr.heap.size + 1, 0, none⟩) 1 1, .slice (some ⟨wr.heap.size + 1 + 1, 0, none⟩) 1 1] ⟨wr.heap.size + 1 + 1 + 1, 0, none⟩ ?aS ?aX rfl ?aC ?aN ?aO ?aB ?aZ ?aL ?_; (case aS => first | rfl | (simp [Act.eval]; done)); (case aX => first | rfl | (simp [Act.eval]; done)); (case aC => exact HCL.out); (case aN => intro u hu; simp at hu; rcases hu with rfl | rfl | rfl <;> rfl); (case aO => exact HK4.out); (case aB => exact HB4.out); (case aZ => exact HSZ.out); (case aL => omega); intro v11 w4 ho1 ho2 hb hg hat; have HN5 := qA ho1; have HK5 := qA ho2; have HB5 := qA hb; have HG5 := qA (HG4.out.trans hg); have HGw := qA ((lit4_grown wr _).trans hg); clear ho1 ho2 hb hg hat; obtain ⟨A7, c7, rfl⟩ := own_slice HN5.out; have hx5 : w4.cell? ⟨L, k, none⟩ = some (.slice Ak i ck) := by (rw [HG5.out.cell_far _ (World.block_lt_of_cell? _ _ hx0) (HLK.out)]; exact hx0))))
              have hGr := HG5.out
              have hblk : ∀ q, (Value.slice Ak i ck).ownBlock = some q → q < W3.heap.size := fun q e => HLT.out k hlt q (by rw [HVK.out]; exact e)
              have HOn := qA (own_grown HO.out hGr (u := .slice Ak i ck) (by have := D3.out k; rwa [HVK.out] at this))
              have H1n : Aside0 (∀ j, j < rows.length → w4.ownsRow base 44 1 (at_ rows j) (vss j).length ((fun j => if j = k then zs else us j) j)) := ⟨fun j hj => by
                by_cases e : j = k
                · subst e
                  simp only [if_pos]
                  rw [HVK.out, HNK.out]; exact HK5.out
                · simp only [if_neg e]
                  exact own_grown (H1.out j hj) hGr (u := .slice Ak i ck) (by have := D2.out j k e; rwa [HVK.out] at this)⟩
              have HUn : Aside0 (∀ j, j < k + 1 → Ones w4 W3.heap.size j ((fun j => if j = k then zs else us j) j)) := ⟨fun j hj => by
                by_cases e : j = k
                · subst e
                  simp only [if_pos]
                  exact HZf.out.keep (fun q h1 h2 => HGw.out.block q h2 (fun e => by have := hblk q e.symm; omega))
                · simp only [if_neg e]
                  exact (HU.out j cq2).keep (fun q h1 h2 => hGr.block q h2 (fun e => by have := hblk q e.symm; omega))⟩
              have HSn : Aside0 (W3.heap.size ≤ w4.heap.size) := ⟨Nat.le_trans HS3.out hGr.size⟩
              have HQn : Aside0 (∀ q, q < W3.heap.size → (∀ j, j < rows.length → (at_ rows j).ownBlock ≠ some q) → w4.heap[q]? = W3.heap[q]?) := ⟨fun q h1 h2 => (hGr.block q (Nat.lt_of_lt_of_le h1 HS3.out) (fun e => h2 k hlt (by rw [HVK.out]; exact e.symm))).trans (HQ.out q h1 h2)⟩
              exact ⟨⟨k + 1, _, by omega, by go_num, HOn, H1n, HUn, HB5, HSn, HQn⟩, by simp [intOf]; omega⟩
        · obtain rfl : k = rows.length := by omega
          obtain ⟨W5, hW5⟩ : ∃ x, x = wr := ⟨_, rfl⟩
          subst hW5
          go_wp2
          go_loopw [9] (fun v9 wr => ∃ (k : Nat), k ≤ rows.length ∧ v9 = .int .i64 (k : Int) ∧ Aside0 (wr = W5)) (fun v9 _ => rows.length - (intOf v9).toNat)
          case atStart => exact ⟨0, Nat.zero_le _, rfl, ⟨rfl⟩⟩
          case round =>
            obtain ⟨k, hk, rfl, HE⟩ := hrel
            obtain rfl := HE.out
            by_cases hlt : k < rows.length
            · obtain ⟨L, c', hLv, hLb, hLl⟩ := HO.out.form cq2
              injection hLv with e1 _ e2
              subst e1 e2
              have hx0 : wr.cell? ⟨L, k, none⟩ = some (at_ rows k) := by
                have := HO.out.cells (g := L) rfl k (at_ rows k) cq22
                rwa [add_plain] at this
              have hk0 := H1.out k hlt
              obtain ⟨Ak, ck, hvk⟩ := own_slice hk0
              obtain ⟨n, hnk⟩ : ∃ n, (vss k).length = n := ⟨_, rfl⟩
              rw [hnk] at hvk hk0
              rw [hvk] at hx0 hk0
              have hn480 : n ≤ 480 := by
                have h1 := flatN_mono vss (show k + 1 ≤ rows.length from hlt)
                have h2 := HM.out
                simp only [flatN, List.length_append] at h1
                omega
              have HK0 := qA hk0
              have HUK := qA (HU.out k hlt)
              obtain ⟨W6, hW6⟩ : ∃ x, x = wr := ⟨_, rfl⟩
              subst hW6
              clear hk0 hvk hnk HE
              go_wp2
              go_loopw [10] (fun v10 wr => ∃ (i : Nat), i ≤ n ∧ v10 = .int .i64 (i : Int) ∧ Aside0 (wr = W6)) (fun v10 _ => n - (intOf v10).toNat)
              case atStart => exact ⟨0, Nat.zero_le _, rfl, ⟨rfl⟩⟩
              case round =>
                obtain ⟨i, hi, rfl, HE⟩ := hrel
                obtain rfl := HE.out
                by_cases hli : i < n
                · have hlz : (us k).length = n := by simpa using HK0.out.1
                  obtain ⟨b, c2, hbv, hbb, hbl⟩ := HK0.out.form cq2
                  injection hbv with e1 _ e2
                  subst e1 e2
                  obtain ⟨z, hz⟩ : ∃ z, (us k)[i]? = some z := ⟨_, qE cq2⟩
                  obtain ⟨g, rfl, _, hg⟩ := HUK.out z (List.mem_of_getElem? hz)
                  have hx1 : wr.cell? ⟨b, i, none⟩ = some (.slice (some ⟨g, 0, none⟩) 1 1) := by
                    have := HK0.out.cells (g := b) rfl i _ hz
                    rwa [add_plain] at this
                  have hx2 : wr.cell? ⟨g, 0, none⟩ = some (.int .i64 (k : Int)) := blk_cell hg 0
                  clear hlz hz hg HE
                  go_wp2
                  go_roundw
                  case rel => exact ⟨i + 1, by omega, by go_num, ⟨by first | rfl | trivial⟩⟩
                  case measure => simp [intOf]; omega
                · obtain rfl : i = n := by omega
                  go_wp2
                  go_roundw
                  case rel => exact ⟨k + 1, by omega, by go_num, ⟨by first | rfl | trivial⟩⟩
                  case measure => simp [intOf]; omega
            · obtain rfl : k = rows.length := by omega
              go_wp2
              go_ret
              exact ⟨rfl, HB.out, fun q h1 h2 h3 => (HQ.out q (Nat.lt_of_lt_of_le h1 HSW.out) h2).trans (HKW.out q h1 h3)⟩
end Go.Proofs.YtligpleningglaaGreat.Mv
namespace Go.Proofs.YtligpleningglaaGreat.Mv
open Go Go.RowKit Go.Proofs.YtligpleningglaaGreatW.PrintWords Go.Proofs.YtligpleningglaaGreatW.PrintLast Go.Proofs.YtligpleningglaaGreatW.PrintMore Go.Proofs.YtligpleningglaaGreat.F Go.Proofs.YtligpleningglaaGreat.Lk Go.Proofs.YtligpleningglaaGreat.Keep
theorem at_some {vs : List Value} {i : Nat} {v : Value} (h : vs[i]? = some v) : at_ vs i = v := by unfold at_; rw [qD, h]; rfl
theorem at_none {vs : List Value} {i : Nat} (h : vs.length ≤ i) : at_ vs i = nilV := by unfold at_; rw [qD, List.getElem?_eq_none h]; rfl
theorem rows_of_S {w : World} {base : Nat} {ok : Nat → Prop} {v : Value} {l : List (List Int)} (h : Kd.S (Kd.slice 3 (Kd.int .i64)) 44 w base ok v l) :
    ∃ (vs : List Value) (g : Nat → Nat), vs.length = l.length ∧ w.ownsRow base 44 1 v l.length vs ∧ (∀ i, i < vs.length → ∃ cs, w.ownsRow base 3 1 (at_ vs i) (l.getD i []).length cs) ∧
      (∀ i k, (at_ vs i).ownBlock = some k → ok k ∧ g k = i ∧ some k ≠ v.ownBlock) := by
  obtain ⟨f, h0, inner, ho, hr⟩ := h
  rw [List.length_zipIdx] at ho
  have hl : inner.length = l.length := by have := hr.1; rw [List.length_zipIdx] at this; simpa [Kd.tag, Kd.slice] using this
  have hel : ∀ i (hi : i < l.length), ∃ u, inner[i]? = some u ∧ (Kd.int .i64).R 3 w base (fun k => (ok k ∧ some k ≠ v.ownBlock) ∧ f k = i) u l[i] := fun i hi => by
    have := hr.2 i (l[i], i) (Kd.zip_at (qE hi))
    obtain ⟨u, hu, hR⟩ := this
    refine ⟨u, ?_, hR⟩
    have h2 := congrArg (fun x => x[0]?) hu
    simpa [Kd.tag, Kd.slice, List.getElem?_take, List.getElem?_drop] using h2
  refine ⟨inner, f, hl, ho, fun i hi => ?_, fun i k hk => ?_⟩
  · rw [hl] at hi
    obtain ⟨u, hu, hR⟩ := hel i hi
    obtain ⟨cs, hc⟩ := Kd.R_own hR
    rw [at_some hu, show l.getD i [] = l[i] by rw [qD, qE hi]; rfl]
    exact ⟨cs, hc⟩
  · by_cases hi : i < l.length
    · obtain ⟨u, hu, hR⟩ := hel i hi
      rw [at_some hu] at hk
      obtain ⟨⟨h1, h2⟩, h3⟩ := hR.1 k hk
      exact ⟨h1, h3, h2⟩
    · rw [at_none cq2] at hk; cases hk
end Go.Proofs.YtligpleningglaaGreat.Mv
namespace Go.Proofs.YtligpleningglaaGreat.Mv
open Go Go.RowKit Go.Proofs.YtligpleningglaaGreatW.PrintWords Go.Proofs.YtligpleningglaaGreatW.PrintLast Go.Proofs.YtligpleningglaaGreatW.PrintMore Go.Proofs.YtligpleningglaaGreat.F Go.Proofs.YtligpleningglaaGreat.Lk Go.Proofs.YtligpleningglaaGreat.Keep
theorem S_head {w : World} {base : Nat} {ok : Nat → Prop} {v : Value} {l : List (List Int)} (h : Kd.S (Kd.slice 3 (Kd.int .i64)) 44 w base ok v l) : ∀ k, v.ownBlock = some k → ok k := by
  obtain ⟨f, h0, _⟩ := h
  exact h0
theorem own_slice_form {w : World} {base e sz n : Nat} {v : Value} {xs : List Value} (h : w.ownsRow base e sz v n xs) : ∃ A m c, v = .slice A m c := by
  rcases h with ⟨_, h | ⟨g, cap, cur, rfl, _⟩⟩
  · exact ⟨none, 0, 0, h.1⟩
  · exact ⟨_, _, _, rfl⟩
theorem flat_at (vss : Nat → List Value) : ∀ m j, j < (flatN vss m).length → ∃ k i, k < m ∧ i < (vss k).length ∧ j = (flatN vss k).length + i ∧ at_ (flatN vss m) j = at_ (vss k) i := by
  intro m
  induction m with
  | zero => intro j hj; exact absurd hj (Nat.not_lt_zero _)
  | succ m ih =>
    intro j hj
    simp only [flatN, List.length_append] at hj
    by_cases h : j < (flatN vss m).length
    · obtain ⟨k, i, h1, h2, h3, h4⟩ := ih j h
      refine ⟨k, i, by omega, h2, h3, ?_⟩
      rw [← h4]
      simp only [flatN, at_, qD, List.getElem?_append_left h]
    · refine ⟨m, j - (flatN vss m).length, by omega, by omega, by omega, ?_⟩
      simp only [flatN, at_, qD, List.getElem?_append_right (Nat.le_of_not_lt h)]
theorem disj_none_r {v u : Value} (h : u.ownBlock = none) : disj v u := by
  unfold disj
  rw [h]
  cases v.ownBlock with
  | none => exact .inl rfl
  | some b => exact .inr (fun e => by cases e)
theorem disj_some {v u : Value} (h : ∀ q, v.ownBlock = some q → u.ownBlock = some q → False) : disj v u := by
  unfold disj
  cases hv : v.ownBlock with
  | none => exact .inl rfl
  | some b =>
    refine .inr (fun e => h b hv e.symm)
theorem rows_apart (X : World) (base B0 m : Nat) (rows : List Value) (ls : List (List (List Int))) (lo hi : Nat → Nat)
    (hS : ∀ k, k < rows.length → Kd.S (Kd.slice 3 (Kd.int .i64)) 44 X base (fun q => lo k ≤ q ∧ q < hi k) (at_ rows k) (ls.getD k []))
    (hdis : ∀ i j, i < j → j < rows.length → hi i ≤ lo j) (hB : ∀ k, k < rows.length → hi k ≤ B0) (hlen : ∀ k i, ((ls.getD k []).getD i []).length ≤ m) :
    ∃ (vss : Nat → List Value) (ns : List Nat), (∀ k, k < rows.length → X.ownsRow base 44 1 (at_ rows k) (vss k).length (vss k)) ∧ (∀ k, k < rows.length → (vss k).length = (ls.getD k []).length) ∧ (∀ k, k < rows.length → ∀ v ∈ vss k, ∃ A n c, v = .slice A n c) ∧
      (∃ cs, RowsO X base 3 1 (flatN vss rows.length) ns cs) ∧ (∀ j, ns.getD j 0 ≤ m) ∧ Apart (flatN vss rows.length) (flatN vss rows.length) ∧
      (∀ n c j, disj (.slice (some ⟨B0, 0, none⟩) n c) (at_ (flatN vss rows.length) j)) ∧ (∀ k j, disj (at_ rows k) (at_ (flatN vss rows.length) j)) ∧ Apart rows rows ∧ (∀ n c k, disj (.slice (some ⟨B0, 0, none⟩) n c) (at_ rows k)) ∧
      (∀ j q, (at_ (flatN vss rows.length) j).ownBlock = some q → ∃ k, k < rows.length ∧ lo k ≤ q ∧ q < hi k) ∧ (∀ k q, k < rows.length → (at_ rows k).ownBlock = some q → lo k ≤ q ∧ q < hi k) := by
  have hall : ∀ k, ∃ (vs : List Value) (g : Nat → Nat), k < rows.length → vs.length = (ls.getD k []).length ∧ X.ownsRow base 44 1 (at_ rows k) (ls.getD k []).length vs ∧ (∀ i, i < vs.length → ∃ cs, X.ownsRow base 3 1 (at_ vs i) ((ls.getD k []).getD i []).length cs) ∧
      (∀ i q, (at_ vs i).ownBlock = some q → (lo k ≤ q ∧ q < hi k) ∧ g q = i ∧ some q ≠ (at_ rows k).ownBlock) := fun k => by
    by_cases hk : k < rows.length
    · obtain ⟨vs, g, h⟩ := rows_of_S (hS k hk)
      exact ⟨vs, g, fun _ => h⟩
    · exact ⟨[], fun _ => 0, fun h => absurd h hk⟩
  obtain ⟨vss, hall⟩ := Classical.axiomOfChoice hall
  obtain ⟨gs, hall⟩ := Classical.axiomOfChoice hall
  have hrow : ∀ k q, k < rows.length → (at_ rows k).ownBlock = some q → lo k ≤ q ∧ q < hi k := fun k q hk hq => S_head (hS k hk) q hq
  have hF : ∀ j q, (at_ (flatN vss rows.length) j).ownBlock = some q → ∃ k i, k < rows.length ∧ i < (vss k).length ∧ j = (flatN vss k).length + i ∧ at_ (flatN vss rows.length) j = at_ (vss k) i ∧ lo k ≤ q ∧ q < hi k ∧ gs k q = i ∧ some q ≠ (at_ rows k).ownBlock := fun j q hq => by
    by_cases hj : j < (flatN vss rows.length).length
    · obtain ⟨k, i, h1, h2, h3, h4⟩ := flat_at vss _ j hj
      rw [h4] at hq
      obtain ⟨⟨a, b⟩, c, d⟩ := (hall k h1).2.2.2 i q hq
      exact ⟨k, i, h1, h2, h3, h4, a, b, c, d⟩
    · rw [at_none cq2] at hq; cases hq
  have hin : ∀ k k' q, k < rows.length → k' < rows.length → lo k ≤ q → q < hi k → lo k' ≤ q → q < hi k' → k = k' := fun k k' q h1 h2 h3 h4 h5 h6 => by
    rcases Nat.lt_trichotomy k k' with h | h | h
    · have := hdis k k' h h2; omega
    · exact h
    · have := hdis k' k h h1; omega
  have hR : ∀ j, ∃ (n : Nat) (cs : List Value), n ≤ m ∧ (j < (flatN vss rows.length).length → X.ownsRow base 3 1 (at_ (flatN vss rows.length) j) n cs) := fun j => by
    by_cases hj : j < (flatN vss rows.length).length
    · obtain ⟨k, i, h1, h2, h3, h4⟩ := flat_at vss _ j hj
      obtain ⟨cs, hc⟩ := (hall k h1).2.2.1 i h2
      exact ⟨_, cs, hlen k i, fun _ => by rw [h4]; exact hc⟩
    · exact ⟨0, [], Nat.zero_le _, fun h => absurd h hj⟩
  obtain ⟨nf, hR⟩ := Classical.axiomOfChoice hR
  obtain ⟨cf, hR⟩ := Classical.axiomOfChoice hR
  have hns : ∀ j, j < (flatN vss rows.length).length → ((List.range (flatN vss rows.length).length).map nf).getD j 0 = nf j := fun j hj => by
    rw [qD, List.getElem?_map, List.getElem?_range hj]; rfl
  refine ⟨vss, (List.range (flatN vss rows.length).length).map nf, fun k hk => ?_, fun k hk => (hall k hk).1, fun k hk v hv => ?_, ⟨cf, fun j hj => ?_⟩, fun j => ?_, fun i j hij => disj_some (fun q h1 h2 => ?_), fun n c j => disj_some (fun q h1 h2 => ?_), fun k j => disj_some (fun q h1 h2 => ?_), fun i j hij => disj_some (fun q h1 h2 => ?_), fun n c k => disj_some (fun q h1 h2 => ?_), fun j q hq => ?_, hrow⟩
  · rw [(hall k hk).1]; exact (hall k hk).2.1
  · obtain ⟨i, hi, rfl⟩ := List.getElem_of_mem hv
    obtain ⟨cs, hc⟩ := (hall k hk).2.2.1 i hi
    rw [at_some (qE hi)] at hc
    exact own_slice_form hc
  · rw [hns j hj]; exact (hR j).2 hj
  · by_cases hj : j < (flatN vss rows.length).length
    · rw [hns j hj]; exact (hR j).1
    · rw [qD, List.getElem?_eq_none cq52]; exact Nat.zero_le _
  · obtain ⟨k, i1, a1, a2, a3, a4, a5, a6, a7, a8⟩ := hF i q h1
    obtain ⟨k', i2, b1, b2, b3, b4, b5, b6, b7, b8⟩ := hF j q h2
    have e := hin k k' q a1 b1 a5 a6 b5 b6
    subst e
    exact hij cq2
  · obtain ⟨k, i1, a1, a2, a3, a4, a5, a6, a7, a8⟩ := hF j q h2
    have := hB k a1
    injection h1 with h1
    have h1 : B0 = q := h1
    omega
  · obtain ⟨k', i2, b1, b2, b3, b4, b5, b6, b7, b8⟩ := hF j q h2
    by_cases hk : k < rows.length
    · have a := hrow k q hk h1
      have e := hin k k' q hk b1 a.1 a.2 b5 b6
      subst e
      exact b8 h1.symm
    · rw [at_none cq2] at h1; cases h1
  · by_cases hi' : i < rows.length
    · by_cases hj' : j < rows.length
      · have a := hrow i q hi' h1
        have b := hrow j q hj' h2
        exact hij (hin i j q hi' hj' a.1 a.2 b.1 b.2)
      · rw [at_none cq2] at h2; cases h2
    · rw [at_none cq2] at h1; cases h1
  · by_cases hk : k < rows.length
    · have a := hrow k q hk h2
      have := hB k hk
      injection h1 with h1
      have h1 : B0 = q := h1
      omega
    · rw [at_none cq2] at h2; cases h2
  · obtain ⟨k', i2, b1, b2, b3, b4, b5, b6, b7, b8⟩ := hF j q hq
    exact ⟨k', b1, b5, b6⟩
end Go.Proofs.YtligpleningglaaGreat.Mv
