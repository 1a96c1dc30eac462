/- The kit's bag of lists: what its cells are. (Written by genbag.py, a program of this session.) -/
import Derived.Test.YtchmddbenohmnaaFlatA
import Derived.Test.YtchmddbenohmnaaNil
import Derived.Test.YtchmddbenohmnaaLent
import Derived.Below
namespace Go.Proofs.Ytchmddbenohmnaa.Mv
open Go Go.RowKit Go.Proofs.YtchmddbenohmnaaW.PrintWords Go.Proofs.YtchmddbenohmnaaW.PrintLast Go.Proofs.YtchmddbenohmnaaW.PrintMore Go.Proofs.Ytchmddbenohmnaa.Mi Go.Proofs.Ytchmddbenohmnaa.F Go.Proofs.Ytchmddbenohmnaa.Keep
set_option linter.unusedVariables false
set_option linter.unusedSimpArgs false

/-- the cells of a bag in which the lists of one kind alone lie. -/
def bagC (f : Nat) (v : Value) : Array Value := ((List.replicate 28 (Value.slice none 0 0)).set f v).toArray
theorem bagC_at {f : Nat} {v : Value} (h : f < 28) : (bagC f v)[f]? = some v := by unfold bagC; simp [h]
theorem bagC_nil {f i : Nat} {v : Value} (h : i < 28) (hne : f ≠ i) : (bagC f v)[i]? = some (.slice none 0 0) := by unfold bagC; rw [List.getElem?_toArray, List.getElem?_set_ne hne, List.getElem?_replicate, if_pos h]
theorem bagC_set (f : Nat) (v u : Value) : (bagC f v).setIfInBounds f u = bagC f u := by unfold bagC; simp
theorem info35b : (Try.prog.info? 35).map (fun i => (i.zero, i.size, i.bytes)) = some (some (.slice none 0 0), 1, 24) := by kernel_rfl
theorem info22b : (Try.prog.info? 22).map (fun i => (i.zero, i.size, i.bytes)) = some (some (.slice none 0 0), 1, 24) := by kernel_rfl
theorem grown_setCell (w : World) (g i : Nat) (u : Value) : w.grownBy (w.setCell ⟨g, i, none⟩ u) (some g) := ⟨rfl, rfl, rfl, by simp, fun k _ hne => Below.heap_setCell w ⟨g, i, none⟩ u k (fun e => hne (by rw [e]))⟩
theorem wl_lit1 (w : World) (v : Value) (e : TypeId) : ∀ (j : Nat) (u : Value), [v][j]? = some u → (w.alloc (Obj.cells #[v] e)).cell? ((⟨w.heap.size, 0, none⟩ : Addr).add j) = some u := cells_lit1 w v e
end Go.Proofs.Ytchmddbenohmnaa.Mv
