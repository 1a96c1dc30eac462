/- The kit's flat.. functions at no lists: each answers true. (Printed by bagnil.py, a program of this session.) -/
import Derived.Test.YtchmddbenohmnaaFx0
namespace Go.Proofs.Ytchmddbenohmnaa.Mv
open Go Go.RowKit Go.Proofs.YtchmddbenohmnaaW.PrintWords Go.Proofs.YtchmddbenohmnaaW.PrintLast Go.Proofs.YtchmddbenohmnaaW.PrintMore
set_option linter.unusedVariables false
set_option linter.unusedSimpArgs false
-- smithy/smithykit.flatWords
set_option maxHeartbeats 4000000 in
set_option maxRecDepth 100000 in
theorem flat41_nil (w : World) : Calls Try.prog 41 #[.slice none 0 0] w fun e w' => e = .returned (.bool true) ∧ Below w.heap.size w w' := by
  have hmk : ∀ W : World, (Instr.makeSlice 56 (.int .i64 0) (.int .i64 0)).run Try.prog W = .ok (.slice (some ⟨W.heap.size, 0, none⟩) 0 0) (W.alloc (.cells #[] 112)) := fun _ => by kernel_rfl
  go_enter Try.func41, Try.ntmps41
  go_wp2
  iterate 5 (refine wp_loop_rounds 1 ?_; rw [rounds_succ]; go_wp2)
  go_ret
  exact ⟨rfl, (Below.refl _ _).alloc (Nat.le_refl _) _⟩
-- smithy/smithykit.flatInts
set_option maxHeartbeats 4000000 in
set_option maxRecDepth 100000 in
theorem flat42_nil (w : World) : Calls Try.prog 42 #[.slice none 0 0] w fun e w' => e = .returned (.bool true) ∧ Below w.heap.size w w' := by
  have hmk : ∀ W : World, (Instr.makeSlice 40 (.int .i64 0) (.int .i64 0)).run Try.prog W = .ok (.slice (some ⟨W.heap.size, 0, none⟩) 0 0) (W.alloc (.cells #[] 35)) := fun _ => by kernel_rfl
  go_enter Try.func42, Try.ntmps42
  go_wp2
  iterate 5 (refine wp_loop_rounds 1 ?_; rw [rounds_succ]; go_wp2)
  go_ret
  exact ⟨rfl, (Below.refl _ _).alloc (Nat.le_refl _) _⟩
-- smithy/smithykit.flatLongs
set_option maxHeartbeats 4000000 in
set_option maxRecDepth 100000 in
theorem flat43_nil (w : World) : Calls Try.prog 43 #[.slice none 0 0] w fun e w' => e = .returned (.bool true) ∧ Below w.heap.size w w' := by
  have hmk : ∀ W : World, (Instr.makeSlice 57 (.int .i64 0) (.int .i64 0)).run Try.prog W = .ok (.slice (some ⟨W.heap.size, 0, none⟩) 0 0) (W.alloc (.cells #[] 114)) := fun _ => by kernel_rfl
  go_enter Try.func43, Try.ntmps43
  go_wp2
  iterate 5 (refine wp_loop_rounds 1 ?_; rw [rounds_succ]; go_wp2)
  go_ret
  exact ⟨rfl, (Below.refl _ _).alloc (Nat.le_refl _) _⟩
-- smithy/smithykit.flatTexts
set_option maxHeartbeats 4000000 in
set_option maxRecDepth 100000 in
theorem flat44_nil (w : World) : Calls Try.prog 44 #[.slice none 0 0] w fun e w' => e = .returned (.bool true) ∧ Below w.heap.size w w' := by
  have hmk : ∀ W : World, (Instr.makeSlice 58 (.int .i64 0) (.int .i64 0)).run Try.prog W = .ok (.slice (some ⟨W.heap.size, 0, none⟩) 0 0) (W.alloc (.cells #[] 115)) := fun _ => by kernel_rfl
  go_enter Try.func44, Try.ntmps44
  go_wp2
  iterate 5 (refine wp_loop_rounds 1 ?_; rw [rounds_succ]; go_wp2)
  go_ret
  exact ⟨rfl, (Below.refl _ _).alloc (Nat.le_refl _) _⟩
-- smithy/smithykit.flatBytes
set_option maxHeartbeats 4000000 in
set_option maxRecDepth 100000 in
theorem flat45_nil (w : World) : Calls Try.prog 45 #[.slice none 0 0] w fun e w' => e = .returned (.bool true) ∧ Below w.heap.size w w' := by
  have hmk : ∀ W : World, (Instr.makeSlice 59 (.int .i64 0) (.int .i64 0)).run Try.prog W = .ok (.slice (some ⟨W.heap.size, 0, none⟩) 0 0) (W.alloc (.cells #[] 117)) := fun _ => by kernel_rfl
  go_enter Try.func45, Try.ntmps45
  go_wp2
  iterate 5 (refine wp_loop_rounds 1 ?_; rw [rounds_succ]; go_wp2)
  go_ret
  exact ⟨rfl, (Below.refl _ _).alloc (Nat.le_refl _) _⟩
-- smithy/smithykit.flatTypes
set_option maxHeartbeats 4000000 in
set_option maxRecDepth 100000 in
theorem flat46_nil (w : World) : Calls Try.prog 46 #[.slice none 0 0] w fun e w' => e = .returned (.bool true) ∧ Below w.heap.size w w' := by
  have hmk : ∀ W : World, (Instr.makeSlice 60 (.int .i64 0) (.int .i64 0)).run Try.prog W = .ok (.slice (some ⟨W.heap.size, 0, none⟩) 0 0) (W.alloc (.cells #[] 119)) := fun _ => by kernel_rfl
  go_enter Try.func46, Try.ntmps46
  go_wp2
  iterate 5 (refine wp_loop_rounds 1 ?_; rw [rounds_succ]; go_wp2)
  go_ret
  exact ⟨rfl, (Below.refl _ _).alloc (Nat.le_refl _) _⟩
-- smithy/smithykit.flatTruths
set_option maxHeartbeats 4000000 in
set_option maxRecDepth 100000 in
theorem flat47_nil (w : World) : Calls Try.prog 47 #[.slice none 0 0] w fun e w' => e = .returned (.bool true) ∧ Below w.heap.size w w' := by
  have hmk : ∀ W : World, (Instr.makeSlice 61 (.int .i64 0) (.int .i64 0)).run Try.prog W = .ok (.slice (some ⟨W.heap.size, 0, none⟩) 0 0) (W.alloc (.cells #[] 121)) := fun _ => by kernel_rfl
  go_enter Try.func47, Try.ntmps47
  go_wp2
  iterate 5 (refine wp_loop_rounds 1 ?_; rw [rounds_succ]; go_wp2)
  go_ret
  exact ⟨rfl, (Below.refl _ _).alloc (Nat.le_refl _) _⟩
-- smithy/smithykit.flatForks
set_option maxHeartbeats 4000000 in
set_option maxRecDepth 100000 in
theorem flat48_nil (w : World) : Calls Try.prog 48 #[.slice none 0 0] w fun e w' => e = .returned (.bool true) ∧ Below w.heap.size w w' := by
  have hmk : ∀ W : World, (Instr.makeSlice 62 (.int .i64 0) (.int .i64 0)).run Try.prog W = .ok (.slice (some ⟨W.heap.size, 0, none⟩) 0 0) (W.alloc (.cells #[] 122)) := fun _ => by kernel_rfl
  go_enter Try.func48, Try.ntmps48
  go_wp2
  iterate 5 (refine wp_loop_rounds 1 ?_; rw [rounds_succ]; go_wp2)
  go_ret
  exact ⟨rfl, (Below.refl _ _).alloc (Nat.le_refl _) _⟩
-- smithy/smithykit.flatPairs
set_option maxHeartbeats 4000000 in
set_option maxRecDepth 100000 in
theorem flat49_nil (w : World) : Calls Try.prog 49 #[.slice none 0 0] w fun e w' => e = .returned (.bool true) ∧ Below w.heap.size w w' := by
  have hmk : ∀ W : World, (Instr.makeSlice 63 (.int .i64 0) (.int .i64 0)).run Try.prog W = .ok (.slice (some ⟨W.heap.size, 0, none⟩) 0 0) (W.alloc (.cells #[] 124)) := fun _ => by kernel_rfl
  go_enter Try.func49, Try.ntmps49
  go_wp2
  iterate 5 (refine wp_loop_rounds 1 ?_; rw [rounds_succ]; go_wp2)
  go_ret
  exact ⟨rfl, (Below.refl _ _).alloc (Nat.le_refl _) _⟩
-- smithy/smithykit.flatTokens
set_option maxHeartbeats 4000000 in
set_option maxRecDepth 100000 in
theorem flat50_nil (w : World) : Calls Try.prog 50 #[.slice none 0 0] w fun e w' => e = .returned (.bool true) ∧ Below w.heap.size w w' := by
  have hmk : ∀ W : World, (Instr.makeSlice 64 (.int .i64 0) (.int .i64 0)).run Try.prog W = .ok (.slice (some ⟨W.heap.size, 0, none⟩) 0 0) (W.alloc (.cells #[] 126)) := fun _ => by kernel_rfl
  go_enter Try.func50, Try.ntmps50
  go_wp2
  iterate 5 (refine wp_loop_rounds 1 ?_; rw [rounds_succ]; go_wp2)
  go_ret
  exact ⟨rfl, (Below.refl _ _).alloc (Nat.le_refl _) _⟩
-- smithy/smithykit.flatNodes
set_option maxHeartbeats 4000000 in
set_option maxRecDepth 100000 in
theorem flat51_nil (w : World) : Calls Try.prog 51 #[.slice none 0 0] w fun e w' => e = .returned (.bool true) ∧ Below w.heap.size w w' := by
  have hmk : ∀ W : World, (Instr.makeSlice 65 (.int .i64 0) (.int .i64 0)).run Try.prog W = .ok (.slice (some ⟨W.heap.size, 0, none⟩) 0 0) (W.alloc (.cells #[] 131)) := fun _ => by kernel_rfl
  go_enter Try.func51, Try.ntmps51
  go_wp2
  iterate 5 (refine wp_loop_rounds 1 ?_; rw [rounds_succ]; go_wp2)
  go_ret
  exact ⟨rfl, (Below.refl _ _).alloc (Nat.le_refl _) _⟩
-- smithy/smithykit.flatParams
set_option maxHeartbeats 4000000 in
set_option maxRecDepth 100000 in
theorem flat52_nil (w : World) : Calls Try.prog 52 #[.slice none 0 0] w fun e w' => e = .returned (.bool true) ∧ Below w.heap.size w w' := by
  have hmk : ∀ W : World, (Instr.makeSlice 66 (.int .i64 0) (.int .i64 0)).run Try.prog W = .ok (.slice (some ⟨W.heap.size, 0, none⟩) 0 0) (W.alloc (.cells #[] 138)) := fun _ => by kernel_rfl
  go_enter Try.func52, Try.ntmps52
  go_wp2
  iterate 5 (refine wp_loop_rounds 1 ?_; rw [rounds_succ]; go_wp2)
  go_ret
  exact ⟨rfl, (Below.refl _ _).alloc (Nat.le_refl _) _⟩
-- smithy/smithykit.flatFuncs
set_option maxHeartbeats 4000000 in
set_option maxRecDepth 100000 in
theorem flat53_nil (w : World) : Calls Try.prog 53 #[.slice none 0 0] w fun e w' => e = .returned (.bool true) ∧ Below w.heap.size w w' := by
  have hmk : ∀ W : World, (Instr.makeSlice 67 (.int .i64 0) (.int .i64 0)).run Try.prog W = .ok (.slice (some ⟨W.heap.size, 0, none⟩) 0 0) (W.alloc (.cells #[] 142)) := fun _ => by kernel_rfl
  go_enter Try.func53, Try.ntmps53
  go_wp2
  iterate 5 (refine wp_loop_rounds 1 ?_; rw [rounds_succ]; go_wp2)
  go_ret
  exact ⟨rfl, (Below.refl _ _).alloc (Nat.le_refl _) _⟩
-- smithy/smithykit.flatTrees
set_option maxHeartbeats 4000000 in
set_option maxRecDepth 100000 in
theorem flat54_nil (w : World) : Calls Try.prog 54 #[.slice none 0 0] w fun e w' => e = .returned (.bool true) ∧ Below w.heap.size w w' := by
  have hmk : ∀ W : World, (Instr.makeSlice 68 (.int .i64 0) (.int .i64 0)).run Try.prog W = .ok (.slice (some ⟨W.heap.size, 0, none⟩) 0 0) (W.alloc (.cells #[] 147)) := fun _ => by kernel_rfl
  go_enter Try.func54, Try.ntmps54
  go_wp2
  iterate 5 (refine wp_loop_rounds 1 ?_; rw [rounds_succ]; go_wp2)
  go_ret
  exact ⟨rfl, (Below.refl _ _).alloc (Nat.le_refl _) _⟩
-- smithy/smithykit.flatLocals
set_option maxHeartbeats 4000000 in
set_option maxRecDepth 100000 in
theorem flat55_nil (w : World) : Calls Try.prog 55 #[.slice none 0 0] w fun e w' => e = .returned (.bool true) ∧ Below w.heap.size w w' := by
  have hmk : ∀ W : World, (Instr.makeSlice 69 (.int .i64 0) (.int .i64 0)).run Try.prog W = .ok (.slice (some ⟨W.heap.size, 0, none⟩) 0 0) (W.alloc (.cells #[] 152)) := fun _ => by kernel_rfl
  go_enter Try.func55, Try.ntmps55
  go_wp2
  iterate 5 (refine wp_loop_rounds 1 ?_; rw [rounds_succ]; go_wp2)
  go_ret
  exact ⟨rfl, (Below.refl _ _).alloc (Nat.le_refl _) _⟩
-- smithy/smithykit.flatShows
set_option maxHeartbeats 4000000 in
set_option maxRecDepth 100000 in
theorem flat56_nil (w : World) : Calls Try.prog 56 #[.slice none 0 0] w fun e w' => e = .returned (.bool true) ∧ Below w.heap.size w w' := by
  have hmk : ∀ W : World, (Instr.makeSlice 70 (.int .i64 0) (.int .i64 0)).run Try.prog W = .ok (.slice (some ⟨W.heap.size, 0, none⟩) 0 0) (W.alloc (.cells #[] 156)) := fun _ => by kernel_rfl
  go_enter Try.func56, Try.ntmps56
  go_wp2
  iterate 5 (refine wp_loop_rounds 1 ?_; rw [rounds_succ]; go_wp2)
  go_ret
  exact ⟨rfl, (Below.refl _ _).alloc (Nat.le_refl _) _⟩
-- smithy/smithykit.flatTraces
set_option maxHeartbeats 4000000 in
set_option maxRecDepth 100000 in
theorem flat57_nil (w : World) : Calls Try.prog 57 #[.slice none 0 0] w fun e w' => e = .returned (.bool true) ∧ Below w.heap.size w w' := by
  have hmk : ∀ W : World, (Instr.makeSlice 71 (.int .i64 0) (.int .i64 0)).run Try.prog W = .ok (.slice (some ⟨W.heap.size, 0, none⟩) 0 0) (W.alloc (.cells #[] 160)) := fun _ => by kernel_rfl
  go_enter Try.func57, Try.ntmps57
  go_wp2
  iterate 5 (refine wp_loop_rounds 1 ?_; rw [rounds_succ]; go_wp2)
  go_ret
  exact ⟨rfl, (Below.refl _ _).alloc (Nat.le_refl _) _⟩
-- smithy/smithykit.flatInstructions
set_option maxHeartbeats 4000000 in
set_option maxRecDepth 100000 in
theorem flat58_nil (w : World) : Calls Try.prog 58 #[.slice none 0 0] w fun e w' => e = .returned (.bool true) ∧ Below w.heap.size w w' := by
  have hmk : ∀ W : World, (Instr.makeSlice 72 (.int .i64 0) (.int .i64 0)).run Try.prog W = .ok (.slice (some ⟨W.heap.size, 0, none⟩) 0 0) (W.alloc (.cells #[] 167)) := fun _ => by kernel_rfl
  go_enter Try.func58, Try.ntmps58
  go_wp2
  iterate 5 (refine wp_loop_rounds 1 ?_; rw [rounds_succ]; go_wp2)
  go_ret
  exact ⟨rfl, (Below.refl _ _).alloc (Nat.le_refl _) _⟩
-- smithy/smithykit.flatBlocks
set_option maxHeartbeats 4000000 in
set_option maxRecDepth 100000 in
theorem flat59_nil (w : World) : Calls Try.prog 59 #[.slice none 0 0] w fun e w' => e = .returned (.bool true) ∧ Below w.heap.size w w' := by
  have hmk : ∀ W : World, (Instr.makeSlice 73 (.int .i64 0) (.int .i64 0)).run Try.prog W = .ok (.slice (some ⟨W.heap.size, 0, none⟩) 0 0) (W.alloc (.cells #[] 173)) := fun _ => by kernel_rfl
  go_enter Try.func59, Try.ntmps59
  go_wp2
  iterate 5 (refine wp_loop_rounds 1 ?_; rw [rounds_succ]; go_wp2)
  go_ret
  exact ⟨rfl, (Below.refl _ _).alloc (Nat.le_refl _) _⟩
-- smithy/smithykit.flatArrays
set_option maxHeartbeats 4000000 in
set_option maxRecDepth 100000 in
theorem flat60_nil (w : World) : Calls Try.prog 60 #[.slice none 0 0] w fun e w' => e = .returned (.bool true) ∧ Below w.heap.size w w' := by
  have hmk : ∀ W : World, (Instr.makeSlice 74 (.int .i64 0) (.int .i64 0)).run Try.prog W = .ok (.slice (some ⟨W.heap.size, 0, none⟩) 0 0) (W.alloc (.cells #[] 181)) := fun _ => by kernel_rfl
  go_enter Try.func60, Try.ntmps60
  go_wp2
  iterate 5 (refine wp_loop_rounds 1 ?_; rw [rounds_succ]; go_wp2)
  go_ret
  exact ⟨rfl, (Below.refl _ _).alloc (Nat.le_refl _) _⟩
-- smithy/smithykit.flatGraphs
set_option maxHeartbeats 4000000 in
set_option maxRecDepth 100000 in
theorem flat61_nil (w : World) : Calls Try.prog 61 #[.slice none 0 0] w fun e w' => e = .returned (.bool true) ∧ Below w.heap.size w w' := by
  have hmk : ∀ W : World, (Instr.makeSlice 75 (.int .i64 0) (.int .i64 0)).run Try.prog W = .ok (.slice (some ⟨W.heap.size, 0, none⟩) 0 0) (W.alloc (.cells #[] 185)) := fun _ => by kernel_rfl
  go_enter Try.func61, Try.ntmps61
  go_wp2
  iterate 5 (refine wp_loop_rounds 1 ?_; rw [rounds_succ]; go_wp2)
  go_ret
  exact ⟨rfl, (Below.refl _ _).alloc (Nat.le_refl _) _⟩
-- smithy/smithykit.flatCells
set_option maxHeartbeats 4000000 in
set_option maxRecDepth 100000 in
theorem flat62_nil (w : World) : Calls Try.prog 62 #[.slice none 0 0] w fun e w' => e = .returned (.bool true) ∧ Below w.heap.size w w' := by
  have hmk : ∀ W : World, (Instr.makeSlice 76 (.int .i64 0) (.int .i64 0)).run Try.prog W = .ok (.slice (some ⟨W.heap.size, 0, none⟩) 0 0) (W.alloc (.cells #[] 190)) := fun _ => by kernel_rfl
  go_enter Try.func62, Try.ntmps62
  go_wp2
  iterate 5 (refine wp_loop_rounds 1 ?_; rw [rounds_succ]; go_wp2)
  go_ret
  exact ⟨rfl, (Below.refl _ _).alloc (Nat.le_refl _) _⟩
-- smithy/smithykit.flatFactLists
set_option maxHeartbeats 4000000 in
set_option maxRecDepth 100000 in
theorem flat63_nil (w : World) : Calls Try.prog 63 #[.slice none 0 0] w fun e w' => e = .returned (.bool true) ∧ Below w.heap.size w w' := by
  have hmk : ∀ W : World, (Instr.makeSlice 77 (.int .i64 0) (.int .i64 0)).run Try.prog W = .ok (.slice (some ⟨W.heap.size, 0, none⟩) 0 0) (W.alloc (.cells #[] 195)) := fun _ => by kernel_rfl
  go_enter Try.func63, Try.ntmps63
  go_wp2
  iterate 5 (refine wp_loop_rounds 1 ?_; rw [rounds_succ]; go_wp2)
  go_ret
  exact ⟨rfl, (Below.refl _ _).alloc (Nat.le_refl _) _⟩
-- smithy/smithykit.flatMoves
set_option maxHeartbeats 4000000 in
set_option maxRecDepth 100000 in
theorem flat64_nil (w : World) : Calls Try.prog 64 #[.slice none 0 0] w fun e w' => e = .returned (.bool true) ∧ Below w.heap.size w w' := by
  have hmk : ∀ W : World, (Instr.makeSlice 33 (.int .i64 0) (.int .i64 0)).run Try.prog W = .ok (.slice (some ⟨W.heap.size, 0, none⟩) 0 0) (W.alloc (.cells #[] 22)) := fun _ => by kernel_rfl
  go_enter Try.func64, Try.ntmps64
  go_wp2
  iterate 5 (refine wp_loop_rounds 1 ?_; rw [rounds_succ]; go_wp2)
  go_ret
  exact ⟨rfl, (Below.refl _ _).alloc (Nat.le_refl _) _⟩
-- smithy/smithykit.flatSpans
set_option maxHeartbeats 4000000 in
set_option maxRecDepth 100000 in
theorem flat65_nil (w : World) : Calls Try.prog 65 #[.slice none 0 0] w fun e w' => e = .returned (.bool true) ∧ Below w.heap.size w w' := by
  have hmk : ∀ W : World, (Instr.makeSlice 78 (.int .i64 0) (.int .i64 0)).run Try.prog W = .ok (.slice (some ⟨W.heap.size, 0, none⟩) 0 0) (W.alloc (.cells #[] 200)) := fun _ => by kernel_rfl
  go_enter Try.func65, Try.ntmps65
  go_wp2
  iterate 5 (refine wp_loop_rounds 1 ?_; rw [rounds_succ]; go_wp2)
  go_ret
  exact ⟨rfl, (Below.refl _ _).alloc (Nat.le_refl _) _⟩
-- smithy/smithykit.flatHomes
set_option maxHeartbeats 4000000 in
set_option maxRecDepth 100000 in
theorem flat66_nil (w : World) : Calls Try.prog 66 #[.slice none 0 0] w fun e w' => e = .returned (.bool true) ∧ Below w.heap.size w w' := by
  have hmk : ∀ W : World, (Instr.makeSlice 79 (.int .i64 0) (.int .i64 0)).run Try.prog W = .ok (.slice (some ⟨W.heap.size, 0, none⟩) 0 0) (W.alloc (.cells #[] 204)) := fun _ => by kernel_rfl
  go_enter Try.func66, Try.ntmps66
  go_wp2
  iterate 5 (refine wp_loop_rounds 1 ?_; rw [rounds_succ]; go_wp2)
  go_ret
  exact ⟨rfl, (Below.refl _ _).alloc (Nat.le_refl _) _⟩
-- smithy/smithykit.flatCodes
set_option maxHeartbeats 4000000 in
set_option maxRecDepth 100000 in
theorem flat67_nil (w : World) : Calls Try.prog 67 #[.slice none 0 0] w fun e w' => e = .returned (.bool true) ∧ Below w.heap.size w w' := by
  have hmk : ∀ W : World, (Instr.makeSlice 80 (.int .i64 0) (.int .i64 0)).run Try.prog W = .ok (.slice (some ⟨W.heap.size, 0, none⟩) 0 0) (W.alloc (.cells #[] 208)) := fun _ => by kernel_rfl
  go_enter Try.func67, Try.ntmps67
  go_wp2
  iterate 5 (refine wp_loop_rounds 1 ?_; rw [rounds_succ]; go_wp2)
  go_ret
  exact ⟨rfl, (Below.refl _ _).alloc (Nat.le_refl _) _⟩
-- smithy/smithykit.flatUnits
set_option maxHeartbeats 4000000 in
set_option maxRecDepth 100000 in
theorem flat68_nil (w : World) : Calls Try.prog 68 #[.slice none 0 0] w fun e w' => e = .returned (.bool true) ∧ Below w.heap.size w w' := by
  have hmk : ∀ W : World, (Instr.makeSlice 81 (.int .i64 0) (.int .i64 0)).run Try.prog W = .ok (.slice (some ⟨W.heap.size, 0, none⟩) 0 0) (W.alloc (.cells #[] 213)) := fun _ => by kernel_rfl
  go_enter Try.func68, Try.ntmps68
  go_wp2
  iterate 5 (refine wp_loop_rounds 1 ?_; rw [rounds_succ]; go_wp2)
  go_ret
  exact ⟨rfl, (Below.refl _ _).alloc (Nat.le_refl _) _⟩
end Go.Proofs.Ytchmddbenohmnaa.Mv
