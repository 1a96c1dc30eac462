/- Texts of this proof, joined in build order: Aw, Nm, LawLiveNumbers. -/
import Derived.Test.YtanhnfhpajaolaaDoorJ00
import Derived.Test.YtanhnfhpajaolaaDoorJ13
import Derived.Deep.DeepCutAuto
import Derived.Test.YtanhnfhpajaolaaDoorRows
import Derived.Test.YtanhnfhpajaolaaDoorTie
import Derived.Test.YtanhnfhpajaolaaDoorCards
import Derived.WalkKit
import Derived.ProofKit
import Derived.LaidMore
import Derived.OpenShut
import Derived.Stop.Joined
import Derived.ChangeOld
import Derived.Below
import Derived.SevenTiedAt
/- awake: the chapter's answers. -/
namespace Go.Proofs.YtanhnfhpajaolaaDoor.Fo
open Go Go.RowKit Go.Proofs.YtanhnfhpajaolaaDoorW.PrintWords Go.Proofs.YtanhnfhpajaolaaDoorW.PrintLast Go.Proofs.YtanhnfhpajaolaaDoorW.PrintMore Go.Proofs.YtanhnfhpajaolaaDoor.F
set_option linter.unusedVariables false
set_option linter.unusedSimpArgs false
theorem small_C {s : Nat} {W : World} (h : Sm s W) : (Kd.int .i64).C W (some ⟨s + 1, 0, none⟩) 1 [0] ∧ (Kd.int .u8).C W (some ⟨s + 2, 0, none⟩) 3 [4, 1, 4] ∧ k43.C W (some ⟨s + 9, 0, none⟩) 5 (kinB i1 i3) :=
  ⟨C_ints h.b1 [0] (by simp) rfl, C_ints (k := .u8) h.b2 [4, 1, 4] (by simp) rfl, kin_C h.b3 h.b4 h.b9 i1 i3 (ins_one i1 h.b6 (Nat.le_refl 1) (C_ints h.b5 [0] (by simp) rfl)) (ins_one i3 h.b8 (Nat.le_refl 3) (C_ints h.b7 [0, 2, 2] (by simp) rfl))⟩
theorem live_small : liveF (kin i1 i3) = some ([[0], [0], [2], [], [2]], [[0, 2], [0], [2], [], [2]], 0) := by kernel_rfl
theorem rowsA : smithykit_SameRows.f 20 [[0], [0], [2], [], [2]] [[0], [0], [2], [], [2]] = some true := by kernel_rfl
theorem rowsB : smithykit_SameRows.f 20 [[0, 2], [0], [2], [], [2]] [[0, 2], [0], [2], [], [2]] = some true := by kernel_rfl
set_option maxHeartbeats 40000000 in
set_option maxRecDepth 100000 in
theorem awake_calls (w : World) (hg : Kd.C k181 w (some ⟨2, 0, none⟩) 11 formsT) : Calls Tryd.prog 14 #[] w fun e w' => e = .returned (.bool true) ∧ Below w.heap.size w w' := by
  have HG := Aside0.mk hg
  clear hg
  go_enter Tryd.func14, Tryd.ntmps14
  go_upto_region 2 with (first | (go_at_call 18; refine (small_calls _).mono ?_; rintro e w4 ⟨rfl, hsm, hb4⟩; have HSM := Aside0.mk hsm; have HB4 := Aside0.mk hb4; clear hsm hb4) | (go_at_call 15; refine (live_calls (kin i1 i3) (some ⟨w.heap.size + 1, 0, none⟩) (some ⟨w.heap.size + 2, 0, none⟩) none (some ⟨w.heap.size + 9, 0, none⟩) 1 3 0 5 [[0], [0], [2], [], [2]] [[0, 2], [0], [2], [], [2]] 0 _ (small_C HSM.out).1 (Nat.le_refl 1) (small_C HSM.out).2.1 (Nat.le_refl 3) (Kd.C_nil _ _) (Nat.le_refl 0) (small_C HSM.out).2.2 (Nat.le_refl 5) (Kd.C_below HG.out HB4.out) live_small).mono ?_; rintro e w2 ⟨va, vb, rfl, hsa, hsb, hb2⟩; obtain ⟨Aa, ca, rfl, hca, hra⟩ := Kd.S_reads hsa; obtain ⟨Ab, cb, rfl, hcb, hrb⟩ := Kd.S_reads hsb; have HA := Aside0.mk hra; have HB := Aside0.mk hrb; have HCA := Aside0.mk hca; have HCB := Aside0.mk hcb; have HW2 := Aside0.mk (below_step HB4.out hb2); clear hsa hsb hca hcb hra hrb hb2))
  have HW4 := Aside0.mk HW2.out.size
  clear HSM HB4
  go_wp2_with (fail)
  refine (smithykit_SameRows.calls 20 Aa ca [[0], [0], [2], [], [2]] _ 5 [[0], [0], [2], [], [2]] true _ (Kd.C_below HA.out (bq5 _ _ _ _ _ _)) HCA.out (litA w2) (Nat.le_refl 5) rowsA).mono ?_
  rintro e w3 ⟨rfl, ⟨nd, hnd⟩⟩
  have HB3 := Aside0.mk (show Below w2.heap.size w2 w3 by rw [hnd]; exact pw_below_drewN (bq5 _ _ _ _ _ _) nd)
  clear hnd
  go_wp2_with (fail)
  refine (smithykit_SameRows.calls 20 Ab cb [[0, 2], [0], [2], [], [2]] _ 5 [[0, 2], [0], [2], [], [2]] true _ (Kd.C_below (Kd.C_below HB.out HB3.out) (bq5 _ _ _ _ _ _)) HCB.out (litB w3) (Nat.le_refl 5) rowsB).mono ?_
  rintro e w5 ⟨rfl, ⟨nd, hnd⟩⟩
  have HB5 := Aside0.mk (show Below w3.heap.size w3 w5 by rw [hnd]; exact pw_below_drewN (bq5 _ _ _ _ _ _) nd)
  clear hnd
  go_wp2
  go_ret
  exact ⟨rfl, below_step (below_step HW2.out HB3.out) HB5.out⟩
end Go.Proofs.YtanhnfhpajaolaaDoor.Fo
/- LiveNumbers, walked. -/
namespace Go.Proofs.YtanhnfhpajaolaaDoor.Fo
open Go Go.RowKit Go.Proofs.YtanhnfhpajaolaaDoorW.PrintWords Go.Proofs.YtanhnfhpajaolaaDoorW.PrintLast Go.Proofs.YtanhnfhpajaolaaDoorW.PrintMore Go.Proofs.YtanhnfhpajaolaaDoor.F
set_option linter.unusedVariables false
set_option linter.unusedSimpArgs false
def gOne : S28 := ⟨⟨#[]⟩, [], 4, [4], [], [⟨[], ⟨3, 0, ⟨0, 0⟩, 0⟩⟩]⟩
def gNil : S28 := ⟨⟨#[]⟩, [], 0, [], [], []⟩
theorem live_one : liveF gOne = some ([[0]], [[]], 0) := by kernel_rfl
theorem live_nil : liveF gNil = some ([], [], 4) := by kernel_rfl
theorem live_few : liveF (kin i1 i3f) = some ([], [], 4) := by kernel_rfl
theorem live_call : liveF (kin (i1c 4611686018427387904) i3) = some ([[0], [0, 1, 2], [2], [], [2]], [[0, 1, 2], [0], [2], [], [2]], 0) := by kernel_rfl
theorem live_low : liveF (kin (i1c (-1)) i3) = some ([], [], 4) := by kernel_rfl
theorem rowsC : smithykit_SameRows.f 20 [[0], [0, 1, 2], [2], [], [2]] [[0], [0, 1, 2], [2], [], [2]] = some true := by kernel_rfl
theorem rowsD : smithykit_SameRows.f 20 [[0]] [[0]] = some true := by kernel_rfl
theorem rowsE : smithykit_SameRows.f 20 [[]] [[]] = some true := by kernel_rfl
theorem intsF : smithykit_SameInts.f 20 [0, 1, 2] [0, 1, 2] = some true := by kernel_rfl
theorem box_far {W : World} {b n : Nat} {o : Obj} (h : W.heap[b]? = some o) (hne : b ≠ n) (k : Nat) (u : Value) : (W.setCell ⟨n, k, none⟩ u).heap[b]? = some o := (Below.heap_setCell W _ _ _ hne).trans h
set_option maxHeartbeats 40000000 in
set_option maxRecDepth 100000 in
theorem numbers_calls (w : World) (hg : Kd.C k181 w (some ⟨2, 0, none⟩) 11 formsT) : Calls Tryd.prog 4 #[] w fun e w' => e = .returned (.bool true) ∧ Below w.heap.size w w' := by
  have HG := Aside0.mk hg
  clear hg
  go_enter Tryd.func4, Tryd.ntmps4
  go_upto_region 2 with (fail)
  have hw1 : Below w.heap.size w (((w.alloc (.cells #[.int .u8 4] 23)).alloc (.cells #[.slice none 0 0, .int .u8 3, .int .i64 0, .int .i64 0, .int .i64 0, .int .u8 0] 43)).alloc (.cells (#[.string ⟨#[]⟩, .slice none 0 0, .int .u8 4, .slice (some ⟨w.heap.size, 0, none⟩) 1 1, .slice none 0 0, .slice (some ⟨w.heap.size + 1, 0, none⟩) 1 1] : Array Value) 28)) := by repeat (first | exact Below.refl _ _ | (with_reducible apply below_alloc))
  have hbx : (((w.alloc (.cells #[.int .u8 4] 23)).alloc (.cells #[.slice none 0 0, .int .u8 3, .int .i64 0, .int .i64 0, .int .i64 0, .int .u8 0] 43)).alloc (.cells (#[.string ⟨#[]⟩, .slice none 0 0, .int .u8 4, .slice (some ⟨w.heap.size, 0, none⟩) 1 1, .slice none 0 0, .slice (some ⟨w.heap.size + 1, 0, none⟩) 1 1] : Array Value) 28)).heap[w.heap.size + 1 + 1]? = some (.cells (#[.string ⟨#[]⟩, .slice none 0 0, .int .u8 4, .slice (some ⟨w.heap.size, 0, none⟩) 1 1, .slice none 0 0, .slice (some ⟨w.heap.size + 1, 0, none⟩) 1 1] : Array Value) 28 (0, 0)) := at_new _ _ _ (by simp only [size_alo])
  have hov : (((w.alloc (.cells #[.int .u8 4] 23)).alloc (.cells #[.slice none 0 0, .int .u8 3, .int .i64 0, .int .i64 0, .int .i64 0, .int .u8 0] 43)).alloc (.cells (#[.string ⟨#[]⟩, .slice none 0 0, .int .u8 4, .slice (some ⟨w.heap.size, 0, none⟩) 1 1, .slice none 0 0, .slice (some ⟨w.heap.size + 1, 0, none⟩) 1 1] : Array Value) 28)).heap[w.heap.size]? = some (.cells #[.int .u8 4] 23 (0, 0)) := at_old _ _ _ _ (at_old _ _ _ _ (at_new _ _ _ rfl))
  have hob : (((w.alloc (.cells #[.int .u8 4] 23)).alloc (.cells #[.slice none 0 0, .int .u8 3, .int .i64 0, .int .i64 0, .int .i64 0, .int .u8 0] 43)).alloc (.cells (#[.string ⟨#[]⟩, .slice none 0 0, .int .u8 4, .slice (some ⟨w.heap.size, 0, none⟩) 1 1, .slice none 0 0, .slice (some ⟨w.heap.size + 1, 0, none⟩) 1 1] : Array Value) 28)).heap[w.heap.size + 1]? = some (.cells #[.slice none 0 0, .int .u8 3, .int .i64 0, .int .i64 0, .int .i64 0, .int .u8 0] 43 (0, 0)) := at_old _ _ _ _ (at_new _ _ _ (by simp only [size_alo]))
  generalize (((w.alloc (.cells #[.int .u8 4] 23)).alloc (.cells #[.slice none 0 0, .int .u8 3, .int .i64 0, .int .i64 0, .int .i64 0, .int .u8 0] 43)).alloc (.cells (#[.string ⟨#[]⟩, .slice none 0 0, .int .u8 4, .slice (some ⟨w.heap.size, 0, none⟩) 1 1, .slice none 0 0, .slice (some ⟨w.heap.size + 1, 0, none⟩) 1 1] : Array Value) 28)) = w1 at *
  have HV := Aside0.mk (C_ints (k := .u8) hov [4] (by simp) rfl)
  have HBL := Aside0.mk (C_list k43 hob [⟨[], ⟨3, 0, ⟨0, 0⟩, 0⟩⟩] (by simp) rfl (fun j h => by
      have : j = 0 := by simpa using h
      subst this
      exact k43_mk w1 ⟨[], ⟨3, 0, ⟨0, 0⟩, 0⟩⟩ (Nat.le_refl 0) (Kd.C_nil _ _)))
  have HW1 := Aside0.mk hw1
  have hbc : ∀ j : Nat, w1.cell? ⟨w.heap.size + 1 + 1, j, none⟩ = (#[.string ⟨#[]⟩, .slice none 0 0, .int .u8 4, .slice (some ⟨w.heap.size, 0, none⟩) 1 1, .slice none 0 0, .slice (some ⟨w.heap.size + 1, 0, none⟩) 1 1] : Array Value)[j]? := fun j => blk_cell hbx j
  clear hw1 hbx hov hob
  go_wp2_with (fail)
  refine (live_calls gOne none (some ⟨w.heap.size, 0, none⟩) none (some ⟨w.heap.size + 1, 0, none⟩) 0 1 0 1 [[0]] [[]] 0 _ (Kd.C_nil _ _) (Nat.le_refl 0) HV.out (Nat.le_refl 1) (Kd.C_nil _ _) (Nat.le_refl 0) HBL.out (Nat.le_refl 1) (Kd.C_below HG.out HW1.out) live_one).mono ?_
  rintro e w2 ⟨va, vb, rfl, hsa, hsb, hb2⟩
  obtain ⟨Aa, ca, rfl, hca, hra⟩ := Kd.S_reads hsa
  obtain ⟨Ab, cb, rfl, hcb, hrb⟩ := Kd.S_reads hsb
  have HA := Aside0.mk hra
  have HB := Aside0.mk hrb
  have HCA := Aside0.mk hca
  have HCB := Aside0.mk hcb
  have HW2 := Aside0.mk (below_step HW1.out hb2)
  clear hsa hsb hca hcb hra hrb hb2 hbc HV HBL HW1
  go_wp2_with (fail)
  refine (live_calls gNil none none none none 0 0 0 0 [] [] 4 _ (Kd.C_nil _ _) (Nat.le_refl 0) (Kd.C_nil _ _) (Nat.le_refl 0) (Kd.C_nil _ _) (Nat.le_refl 0) (Kd.C_nil _ _) (Nat.le_refl 0) (Kd.C_below HG.out HW2.out) live_nil).mono ?_
  rintro e w3 ⟨va, vb, rfl, hsa, hsb, hb3⟩
  have HB3 := Aside0.mk hb3
  clear hsa hsb hb3
  have HW3 := Aside0.mk (below_step HW2.out HB3.out)
  have HA3 := Aside0.mk (Kd.C_below HA.out HB3.out)
  have HB3' := Aside0.mk (Kd.C_below HB.out HB3.out)
  clear HA HB HB3 HW2
  go_wp2_with (fail)
  refine (small_calls _).mono ?_
  rintro e w4 ⟨rfl, hsm, hb⟩
  have HSM := Aside0.mk (hsm.below (below_alloc (Below.refl _ _) (.cells (#[.string ⟨#[]⟩, .slice (some ⟨w3.heap.size + 1, 0, none⟩) 1 1, .int .u8 4, .slice (some ⟨w3.heap.size + 2, 0, none⟩) 3 3, .slice none 0 0, .slice (some ⟨w3.heap.size + 9, 0, none⟩) 5 5] : Array Value) 28)))
  have HBS := Aside0.mk (below_alloc hb (.cells (#[.string ⟨#[]⟩, .slice (some ⟨w3.heap.size + 1, 0, none⟩) 1 1, .int .u8 4, .slice (some ⟨w3.heap.size + 2, 0, none⟩) 3 3, .slice none 0 0, .slice (some ⟨w3.heap.size + 9, 0, none⟩) 5 5] : Array Value) 28))
  have HBX := Aside0.mk (blk_new w4 (.cells (#[.string ⟨#[]⟩, .slice (some ⟨w3.heap.size + 1, 0, none⟩) 1 1, .int .u8 4, .slice (some ⟨w3.heap.size + 2, 0, none⟩) 3 3, .slice none 0 0, .slice (some ⟨w3.heap.size + 9, 0, none⟩) 5 5] : Array Value) 28))
  clear hsm hb
  go_upto_region 5 with (fail)
  generalize hw5 : w4.alloc (.cells (#[.string ⟨#[]⟩, .slice (some ⟨w3.heap.size + 1, 0, none⟩) 1 1, .int .u8 4, .slice (some ⟨w3.heap.size + 2, 0, none⟩) 3 3, .slice none 0 0, .slice (some ⟨w3.heap.size + 9, 0, none⟩) 5 5] : Array Value) 28) = w5 at *
  clear hw5
  generalize w4.heap.size = n4 at *
  have hbc : ∀ j : Nat, w5.cell? ⟨n4, j, none⟩ = (#[.string ⟨#[]⟩, .slice (some ⟨w3.heap.size + 1, 0, none⟩) 1 1, .int .u8 4, .slice (some ⟨w3.heap.size + 2, 0, none⟩) 3 3, .slice none 0 0, .slice (some ⟨w3.heap.size + 9, 0, none⟩) 5 5] : Array Value)[j]? := fun j => blk_cell HBX.out j
  have hq1 : w5.cell? ⟨w3.heap.size + 9, 18, none⟩ = some (.slice (some ⟨w3.heap.size + 8, 0, none⟩) 1 1) := blk_cell HSM.out.b9 18
  have hb8 := blk_below HSM.out.b8 (below_alloc (Below.refl _ _) (.cells #[.int .i64 0, .int .i64 2] 3))
  have hq2 : (w5.alloc (.cells #[.int .i64 0, .int .i64 2] 3)).cell? ⟨w3.heap.size + 8, 3, none⟩ = some (.slice (some ⟨w3.heap.size + 7, 0, none⟩) 3 3) := blk_cell hb8 3
  have hq2f := blk_frozen hb8 3
  clear hb8
  have hne : n4 ≠ w3.heap.size + 8 := fun e => by
    have := HBX.out
    rw [e, HSM.out.b8] at this
    injection this with h1
    injection h1 with _ h2
    exact absurd h2 (by decide)
  have hCC := few_C HSM.out (W6 := ((w5.alloc (.cells #[.int .i64 0, .int .i64 2] 3)).setCell ⟨w3.heap.size + 8, 3, none⟩ (.slice (some ⟨w5.heap.size, 0, none⟩) 2 2))) rfl
  have HCC := Aside0.mk hCC
  have HLOW := Aside0.mk ((HBS.out.alloc HBS.out.size (.cells #[.int .i64 0, .int .i64 2] 3)).setCell (p := ⟨w3.heap.size + 8, 3, none⟩) (Nat.le_add_right _ _) (.slice (some ⟨w5.heap.size, 0, none⟩) 2 2))
  have HBY := Aside0.mk (box_far (blk_below HBX.out (below_alloc (Below.refl _ _) (.cells #[.int .i64 0, .int .i64 2] 3))) hne 3 (.slice (some ⟨w5.heap.size, 0, none⟩) 2 2))
  clear hCC hne
  go_upto_region 6 with (fail)
  generalize hw : ((w5.alloc (.cells #[.int .i64 0, .int .i64 2] 3)).setCell ⟨w3.heap.size + 8, 3, none⟩ (.slice (some ⟨w5.heap.size, 0, none⟩) 2 2)) = wz at *
  clear hw
  clear hbc hq1 hq2 hq2f
  have hbc : ∀ j : Nat, wz.cell? ⟨n4, j, none⟩ = (#[.string ⟨#[]⟩, .slice (some ⟨w3.heap.size + 1, 0, none⟩) 1 1, .int .u8 4, .slice (some ⟨w3.heap.size + 2, 0, none⟩) 3 3, .slice none 0 0, .slice (some ⟨w3.heap.size + 9, 0, none⟩) 5 5] : Array Value)[j]? := fun j => blk_cell HBY.out j
  go_wp2_with (fail)
  refine (live_calls (kin i1 i3f) (some ⟨w3.heap.size + 1, 0, none⟩) (some ⟨w3.heap.size + 2, 0, none⟩) none (some ⟨w3.heap.size + 9, 0, none⟩) 1 3 0 5 [] [] 4 _ HCC.out.1 (Nat.le_refl 1) HCC.out.2.1 (Nat.le_refl 3) (Kd.C_nil _ _) (Nat.le_refl 0) HCC.out.2.2 (Nat.le_refl 5) (Kd.C_below (Kd.C_below HG.out HW3.out) HLOW.out) live_few).mono ?_
  rintro e w6 ⟨va, vb, rfl, hsa, hsb, hb⟩
  have HN := Aside0.mk (below_step HLOW.out hb)
  clear hsa hsb hb hbc HCC HLOW HBY HSM HBS HBX
  have HW6 := Aside0.mk (below_step HW3.out HN.out)
  have HA6 := Aside0.mk (Kd.C_below HA3.out HN.out)
  have HB6 := Aside0.mk (Kd.C_below HB3'.out HN.out)
  clear HN HW3 HA3 HB3'
  go_wp2_with (fail)
  refine (small_calls _).mono ?_
  rintro e w7 ⟨rfl, hsm, hb⟩
  have HSM := Aside0.mk (hsm.below (below_alloc (Below.refl _ _) (.cells (#[.string ⟨#[]⟩, .slice (some ⟨w6.heap.size + 1, 0, none⟩) 1 1, .int .u8 4, .slice (some ⟨w6.heap.size + 2, 0, none⟩) 3 3, .slice none 0 0, .slice (some ⟨w6.heap.size + 9, 0, none⟩) 5 5] : Array Value) 28)))
  have HBS := Aside0.mk (below_alloc hb (.cells (#[.string ⟨#[]⟩, .slice (some ⟨w6.heap.size + 1, 0, none⟩) 1 1, .int .u8 4, .slice (some ⟨w6.heap.size + 2, 0, none⟩) 3 3, .slice none 0 0, .slice (some ⟨w6.heap.size + 9, 0, none⟩) 5 5] : Array Value) 28))
  have HBX := Aside0.mk (blk_new w7 (.cells (#[.string ⟨#[]⟩, .slice (some ⟨w6.heap.size + 1, 0, none⟩) 1 1, .int .u8 4, .slice (some ⟨w6.heap.size + 2, 0, none⟩) 3 3, .slice none 0 0, .slice (some ⟨w6.heap.size + 9, 0, none⟩) 5 5] : Array Value) 28))
  clear hsm hb
  go_upto_region 8 with (fail)
  generalize hw8 : w7.alloc (.cells (#[.string ⟨#[]⟩, .slice (some ⟨w6.heap.size + 1, 0, none⟩) 1 1, .int .u8 4, .slice (some ⟨w6.heap.size + 2, 0, none⟩) 3 3, .slice none 0 0, .slice (some ⟨w6.heap.size + 9, 0, none⟩) 5 5] : Array Value) 28) = w8 at *
  clear hw8
  generalize w7.heap.size = n7 at *
  have hbc : ∀ j : Nat, w8.cell? ⟨n7, j, none⟩ = (#[.string ⟨#[]⟩, .slice (some ⟨w6.heap.size + 1, 0, none⟩) 1 1, .int .u8 4, .slice (some ⟨w6.heap.size + 2, 0, none⟩) 3 3, .slice none 0 0, .slice (some ⟨w6.heap.size + 9, 0, none⟩) 5 5] : Array Value)[j]? := fun j => blk_cell HBX.out j
  have hq1 : w8.cell? ⟨w6.heap.size + 9, 6, none⟩ = some (.slice (some ⟨w6.heap.size + 6, 0, none⟩) 1 1) := blk_cell HSM.out.b9 6
  have hb6 := blk_below HSM.out.b6 (below_alloc (Below.refl _ _) (.cells #[.int .i64 2, .int .i64 1] 3))
  have hq2 : ∀ j : Nat, (w8.alloc (.cells #[.int .i64 2, .int .i64 1] 3)).cell? ⟨w6.heap.size + 6, j, none⟩ = (#[.int .u8 10, .int .u8 0, .int .i64 0, .slice (some ⟨w6.heap.size + 5, 0, none⟩) 1 1, .int .u64 0, .int .i64 0] : Array Value)[j]? := fun j => blk_cell hb6 j
  have hq2f : ∀ j : Nat, (w8.alloc (.cells #[.int .i64 2, .int .i64 1] 3)).frozen? ⟨w6.heap.size + 6, j, none⟩ = false := fun j => blk_frozen hb6 j
  clear hb6
  have hne : n7 ≠ w6.heap.size + 6 := fun e => by
    have := HBX.out
    rw [e, HSM.out.b6] at this
    injection this with h1
    injection h1 with _ h2
    exact absurd h2 (by decide)
  have hCC := call_C HSM.out 4611686018427387904 (W6 := (((((((w8.alloc (.cells #[.int .i64 2, .int .i64 1] 3)).setCell ⟨w6.heap.size + 6, 0, none⟩ (.int .u8 9)).setCell ⟨w6.heap.size + 6, 1, none⟩ (.int .u8 0)).setCell ⟨w6.heap.size + 6, 2, none⟩ (.int .i64 1)).setCell ⟨w6.heap.size + 6, 3, none⟩ (.slice (some ⟨w8.heap.size, 0, none⟩) 2 2)).setCell ⟨w6.heap.size + 6, 4, none⟩ (.int .u64 0)).setCell ⟨w6.heap.size + 6, 5, none⟩ (.int .i64 4611686018427387904))) rfl
  have HCC := Aside0.mk hCC
  have HLOW := Aside0.mk (((((((HBS.out.alloc HBS.out.size (.cells #[.int .i64 2, .int .i64 1] 3)).setCell (p := ⟨w6.heap.size + 6, 0, none⟩) (Nat.le_add_right _ _) (.int .u8 9)).setCell (p := ⟨w6.heap.size + 6, 1, none⟩) (Nat.le_add_right _ _) (.int .u8 0)).setCell (p := ⟨w6.heap.size + 6, 2, none⟩) (Nat.le_add_right _ _) (.int .i64 1)).setCell (p := ⟨w6.heap.size + 6, 3, none⟩) (Nat.le_add_right _ _) (.slice (some ⟨w8.heap.size, 0, none⟩) 2 2)).setCell (p := ⟨w6.heap.size + 6, 4, none⟩) (Nat.le_add_right _ _) (.int .u64 0)).setCell (p := ⟨w6.heap.size + 6, 5, none⟩) (Nat.le_add_right _ _) (.int .i64 4611686018427387904))
  have HBY := Aside0.mk (box_far (box_far (box_far (box_far (box_far (box_far (blk_below HBX.out (below_alloc (Below.refl _ _) (.cells #[.int .i64 2, .int .i64 1] 3))) hne 0 (.int .u8 9)) hne 1 (.int .u8 0)) hne 2 (.int .i64 1)) hne 3 (.slice (some ⟨w8.heap.size, 0, none⟩) 2 2)) hne 4 (.int .u64 0)) hne 5 (.int .i64 4611686018427387904))
  clear hCC hne
  go_upto_region 9 with (fail)
  generalize hw : (((((((w8.alloc (.cells #[.int .i64 2, .int .i64 1] 3)).setCell ⟨w6.heap.size + 6, 0, none⟩ (.int .u8 9)).setCell ⟨w6.heap.size + 6, 1, none⟩ (.int .u8 0)).setCell ⟨w6.heap.size + 6, 2, none⟩ (.int .i64 1)).setCell ⟨w6.heap.size + 6, 3, none⟩ (.slice (some ⟨w8.heap.size, 0, none⟩) 2 2)).setCell ⟨w6.heap.size + 6, 4, none⟩ (.int .u64 0)).setCell ⟨w6.heap.size + 6, 5, none⟩ (.int .i64 4611686018427387904)) = wz at *
  clear hw
  clear hbc hq1 hq2 hq2f
  have hbc : ∀ j : Nat, wz.cell? ⟨n7, j, none⟩ = (#[.string ⟨#[]⟩, .slice (some ⟨w6.heap.size + 1, 0, none⟩) 1 1, .int .u8 4, .slice (some ⟨w6.heap.size + 2, 0, none⟩) 3 3, .slice none 0 0, .slice (some ⟨w6.heap.size + 9, 0, none⟩) 5 5] : Array Value)[j]? := fun j => blk_cell HBY.out j
  go_wp2_with (fail)
  refine (live_calls (kin (i1c 4611686018427387904) i3) (some ⟨w6.heap.size + 1, 0, none⟩) (some ⟨w6.heap.size + 2, 0, none⟩) none (some ⟨w6.heap.size + 9, 0, none⟩) 1 3 0 5 [[0], [0, 1, 2], [2], [], [2]] [[0, 1, 2], [0], [2], [], [2]] 0 _ HCC.out.1 (Nat.le_refl 1) HCC.out.2.1 (Nat.le_refl 3) (Kd.C_nil _ _) (Nat.le_refl 0) HCC.out.2.2 (Nat.le_refl 5) (Kd.C_below (Kd.C_below HG.out HW6.out) HLOW.out) live_call).mono ?_
  rintro e w9 ⟨va, vb, rfl, hsa, hsb, hb⟩
  have HN := Aside0.mk (below_step HLOW.out hb)
  obtain ⟨Ac, cc, rfl, hcc, hrc⟩ := Kd.S_reads hsa
  obtain ⟨Ad, cd, rfl, hcd, hrd⟩ := Kd.S_reads hsb
  have HC := Aside0.mk hrc
  have HD := Aside0.mk hrd
  have HCC2 := Aside0.mk hcc
  have HCD := Aside0.mk hcd
  clear hcc hrc hcd hrd
  clear hsa hsb hb hbc HCC HLOW HBY HSM HBS HBX
  have HW9 := Aside0.mk (below_step HW6.out HN.out)
  have HA9 := Aside0.mk (Kd.C_below HA6.out HN.out)
  have HB9 := Aside0.mk (Kd.C_below HB6.out HN.out)
  clear HN HW6 HA6 HB6
  go_wp2_with (fail)
  refine (small_calls _).mono ?_
  rintro e w10 ⟨rfl, hsm, hb⟩
  have HSM := Aside0.mk (hsm.below (below_alloc (Below.refl _ _) (.cells (#[.string ⟨#[]⟩, .slice (some ⟨w9.heap.size + 1, 0, none⟩) 1 1, .int .u8 4, .slice (some ⟨w9.heap.size + 2, 0, none⟩) 3 3, .slice none 0 0, .slice (some ⟨w9.heap.size + 9, 0, none⟩) 5 5] : Array Value) 28)))
  have HBS := Aside0.mk (below_alloc hb (.cells (#[.string ⟨#[]⟩, .slice (some ⟨w9.heap.size + 1, 0, none⟩) 1 1, .int .u8 4, .slice (some ⟨w9.heap.size + 2, 0, none⟩) 3 3, .slice none 0 0, .slice (some ⟨w9.heap.size + 9, 0, none⟩) 5 5] : Array Value) 28))
  have HBX := Aside0.mk (blk_new w10 (.cells (#[.string ⟨#[]⟩, .slice (some ⟨w9.heap.size + 1, 0, none⟩) 1 1, .int .u8 4, .slice (some ⟨w9.heap.size + 2, 0, none⟩) 3 3, .slice none 0 0, .slice (some ⟨w9.heap.size + 9, 0, none⟩) 5 5] : Array Value) 28))
  clear hsm hb
  go_upto_region 11 with (fail)
  generalize hw11 : w10.alloc (.cells (#[.string ⟨#[]⟩, .slice (some ⟨w9.heap.size + 1, 0, none⟩) 1 1, .int .u8 4, .slice (some ⟨w9.heap.size + 2, 0, none⟩) 3 3, .slice none 0 0, .slice (some ⟨w9.heap.size + 9, 0, none⟩) 5 5] : Array Value) 28) = w11 at *
  clear hw11
  generalize w10.heap.size = n10 at *
  have hbc : ∀ j : Nat, w11.cell? ⟨n10, j, none⟩ = (#[.string ⟨#[]⟩, .slice (some ⟨w9.heap.size + 1, 0, none⟩) 1 1, .int .u8 4, .slice (some ⟨w9.heap.size + 2, 0, none⟩) 3 3, .slice none 0 0, .slice (some ⟨w9.heap.size + 9, 0, none⟩) 5 5] : Array Value)[j]? := fun j => blk_cell HBX.out j
  have hq1 : w11.cell? ⟨w9.heap.size + 9, 6, none⟩ = some (.slice (some ⟨w9.heap.size + 6, 0, none⟩) 1 1) := blk_cell HSM.out.b9 6
  have hb6 := blk_below HSM.out.b6 (below_alloc (Below.refl _ _) (.cells #[.int .i64 2, .int .i64 1] 3))
  have hq2 : ∀ j : Nat, (w11.alloc (.cells #[.int .i64 2, .int .i64 1] 3)).cell? ⟨w9.heap.size + 6, j, none⟩ = (#[.int .u8 10, .int .u8 0, .int .i64 0, .slice (some ⟨w9.heap.size + 5, 0, none⟩) 1 1, .int .u64 0, .int .i64 0] : Array Value)[j]? := fun j => blk_cell hb6 j
  have hq2f : ∀ j : Nat, (w11.alloc (.cells #[.int .i64 2, .int .i64 1] 3)).frozen? ⟨w9.heap.size + 6, j, none⟩ = false := fun j => blk_frozen hb6 j
  clear hb6
  have hne : n10 ≠ w9.heap.size + 6 := fun e => by
    have := HBX.out
    rw [e, HSM.out.b6] at this
    injection this with h1
    injection h1 with _ h2
    exact absurd h2 (by decide)
  have hCC := call_C HSM.out (-1) (W6 := (((((((w11.alloc (.cells #[.int .i64 2, .int .i64 1] 3)).setCell ⟨w9.heap.size + 6, 0, none⟩ (.int .u8 9)).setCell ⟨w9.heap.size + 6, 1, none⟩ (.int .u8 0)).setCell ⟨w9.heap.size + 6, 2, none⟩ (.int .i64 1)).setCell ⟨w9.heap.size + 6, 3, none⟩ (.slice (some ⟨w11.heap.size, 0, none⟩) 2 2)).setCell ⟨w9.heap.size + 6, 4, none⟩ (.int .u64 0)).setCell ⟨w9.heap.size + 6, 5, none⟩ (.int .i64 (-1)))) rfl
  have HCC := Aside0.mk hCC
  have HLOW := Aside0.mk (((((((HBS.out.alloc HBS.out.size (.cells #[.int .i64 2, .int .i64 1] 3)).setCell (p := ⟨w9.heap.size + 6, 0, none⟩) (Nat.le_add_right _ _) (.int .u8 9)).setCell (p := ⟨w9.heap.size + 6, 1, none⟩) (Nat.le_add_right _ _) (.int .u8 0)).setCell (p := ⟨w9.heap.size + 6, 2, none⟩) (Nat.le_add_right _ _) (.int .i64 1)).setCell (p := ⟨w9.heap.size + 6, 3, none⟩) (Nat.le_add_right _ _) (.slice (some ⟨w11.heap.size, 0, none⟩) 2 2)).setCell (p := ⟨w9.heap.size + 6, 4, none⟩) (Nat.le_add_right _ _) (.int .u64 0)).setCell (p := ⟨w9.heap.size + 6, 5, none⟩) (Nat.le_add_right _ _) (.int .i64 (-1)))
  have HBY := Aside0.mk (box_far (box_far (box_far (box_far (box_far (box_far (blk_below HBX.out (below_alloc (Below.refl _ _) (.cells #[.int .i64 2, .int .i64 1] 3))) hne 0 (.int .u8 9)) hne 1 (.int .u8 0)) hne 2 (.int .i64 1)) hne 3 (.slice (some ⟨w11.heap.size, 0, none⟩) 2 2)) hne 4 (.int .u64 0)) hne 5 (.int .i64 (-1)))
  clear hCC hne
  go_upto_region 12 with (fail)
  generalize hw : (((((((w11.alloc (.cells #[.int .i64 2, .int .i64 1] 3)).setCell ⟨w9.heap.size + 6, 0, none⟩ (.int .u8 9)).setCell ⟨w9.heap.size + 6, 1, none⟩ (.int .u8 0)).setCell ⟨w9.heap.size + 6, 2, none⟩ (.int .i64 1)).setCell ⟨w9.heap.size + 6, 3, none⟩ (.slice (some ⟨w11.heap.size, 0, none⟩) 2 2)).setCell ⟨w9.heap.size + 6, 4, none⟩ (.int .u64 0)).setCell ⟨w9.heap.size + 6, 5, none⟩ (.int .i64 (-1))) = wz at *
  clear hw
  clear hbc hq1 hq2 hq2f
  have hbc : ∀ j : Nat, wz.cell? ⟨n10, j, none⟩ = (#[.string ⟨#[]⟩, .slice (some ⟨w9.heap.size + 1, 0, none⟩) 1 1, .int .u8 4, .slice (some ⟨w9.heap.size + 2, 0, none⟩) 3 3, .slice none 0 0, .slice (some ⟨w9.heap.size + 9, 0, none⟩) 5 5] : Array Value)[j]? := fun j => blk_cell HBY.out j
  go_wp2_with (fail)
  refine (live_calls (kin (i1c (-1)) i3) (some ⟨w9.heap.size + 1, 0, none⟩) (some ⟨w9.heap.size + 2, 0, none⟩) none (some ⟨w9.heap.size + 9, 0, none⟩) 1 3 0 5 [] [] 4 _ HCC.out.1 (Nat.le_refl 1) HCC.out.2.1 (Nat.le_refl 3) (Kd.C_nil _ _) (Nat.le_refl 0) HCC.out.2.2 (Nat.le_refl 5) (Kd.C_below (Kd.C_below HG.out HW9.out) HLOW.out) live_low).mono ?_
  rintro e w12 ⟨va, vb, rfl, hsa, hsb, hb⟩
  have HN := Aside0.mk (below_step HLOW.out hb)
  clear hsa hsb hb hbc HCC HLOW HBY HSM HBS HBX
  have HW12 := Aside0.mk (below_step HW9.out HN.out)
  have HA12 := Aside0.mk (Kd.C_below HA9.out HN.out)
  have HB12 := Aside0.mk (Kd.C_below HB9.out HN.out)
  have HC12 := Aside0.mk (Kd.C_below HC.out HN.out)
  have HD12 := Aside0.mk (Kd.C_below HD.out HN.out)
  clear HN HW9 HA9 HB9 HC HD
  go_wp2_with (fail)
  refine (smithykit_SameRows.calls 20 Aa ca [[0]] _ 1 [[0]] true _ (Kd.C_below HA12.out (bq2 _ _ _)) HCA.out (litD w12) (Nat.le_refl 1) rowsD).mono ?_
  rintro e w13 ⟨rfl, ⟨nd, hnd⟩⟩
  have HN := Aside0.mk (show Below w12.heap.size w12 w13 by rw [hnd]; exact pw_below_drewN (bq2 _ _ _) nd)
  clear hnd
  have HW13 := Aside0.mk (below_step HW12.out HN.out)
  have HB13 := Aside0.mk (Kd.C_below HB12.out HN.out)
  have HC13 := Aside0.mk (Kd.C_below HC12.out HN.out)
  have HD13 := Aside0.mk (Kd.C_below HD12.out HN.out)
  clear HN HW12 HB12 HC12 HD12
  go_wp2_with (fail)
  refine (smithykit_SameRows.calls 20 Ab cb [[]] _ 1 [[]] true _ (Kd.C_below HB13.out (bq1 _ _)) HCB.out (litE w13) (Nat.le_refl 1) rowsE).mono ?_
  rintro e w14 ⟨rfl, ⟨nd, hnd⟩⟩
  have HN := Aside0.mk (show Below w13.heap.size w13 w14 by rw [hnd]; exact pw_below_drewN (bq1 _ _) nd)
  clear hnd
  have HW14 := Aside0.mk (below_step HW13.out HN.out)
  have HC14 := Aside0.mk (Kd.C_below HC13.out HN.out)
  have HD14 := Aside0.mk (Kd.C_below HD13.out HN.out)
  clear HN HW13 HC13 HD13
  go_wp2_with (fail)
  refine (smithykit_SameRows.calls 20 Ac cc [[0], [0, 1, 2], [2], [], [2]] _ 5 [[0], [0, 1, 2], [2], [], [2]] true _ (Kd.C_below HC14.out (bq5 _ _ _ _ _ _)) HCC2.out (litC w14) (Nat.le_refl 5) rowsC).mono ?_
  rintro e w15 ⟨rfl, ⟨nd, hnd⟩⟩
  have HN := Aside0.mk (show Below w14.heap.size w14 w15 by rw [hnd]; exact pw_below_drewN (bq5 _ _ _ _ _ _) nd)
  clear hnd
  have HW15 := Aside0.mk (below_step HW14.out HN.out)
  have HD15 := Aside0.mk (Kd.C_below HD14.out HN.out)
  clear HN HW14 HD14
  obtain ⟨add, A0, c0, hAd, hcell, hle, hC⟩ := at_L2 HD15.out 0 (by decide) (by decide)
  subst hAd
  have hle' : 3 ≤ c0 := hle
  have hC' : (Kd.int .i64).C w15 A0 3 [0, 1, 2] := hC
  have hcell0 : w15.cell? (add.add 0) = some (.slice A0 3 c0) := hcell
  have hcell1 : w15.cell? add = some (.slice A0 3 c0) := by rw [← hcell0]; simp [Addr.add]
  have HLE := Aside0.mk hle'
  have HC0 := Aside0.mk hC'
  clear hcell hle hC hle' hC' HD15
  go_wp2_with (fail)
  refine (smithykit_SameInts.calls 20 A0 c0 [0, 1, 2] _ 3 [0, 1, 2] true _ (Kd.C_below HC0.out (bq1 _ _)) HLE.out (litF w15) (Nat.le_refl 3) intsF).mono ?_
  rintro e w16 ⟨rfl, ⟨nd, hnd⟩⟩
  have HN := Aside0.mk (show Below w15.heap.size w15 w16 by rw [hnd]; exact pw_below_drewN (bq1 _ _) nd)
  clear hnd hcell0 hcell1
  have HW16 := Aside0.mk (below_step HW15.out HN.out)
  go_wp2_with (fail)
  refine (awake_calls _ (Kd.C_below HG.out HW16.out)).mono ?_
  rintro e w17 ⟨rfl, hb17⟩
  have HB17 := Aside0.mk hb17
  clear hb17
  go_wp2
  go_ret
  exact ⟨rfl, below_step HW16.out HB17.out⟩
end Go.Proofs.YtanhnfhpajaolaaDoor.Fo
/- The row of the closed law LiveNumbers, and its tied card: the call returns true. Conditions: none but that the program's table graph.forms reads as its own text lays it, which the card ties to the program's text. -/
namespace Go.Proofs.YtanhnfhpajaolaaDoor.liveNumbers
open Go.ChangeShapes Go.WideShapes Go.ChangeAt Go.RowKit Go.Proofs.YtanhnfhpajaolaaDoorW.PrintWords Go.Proofs.YtanhnfhpajaolaaDoor.F
set_option linter.unusedVariables false
theorem own : ownKnob Tryd.prog.godebug = none := by kernel_rfl
theorem gForms : Tryd.prog.globalNamed "smithy/graph.forms" = some 2 := by kernel_rfl
theorem tForms : (Tryd.prog.globals[2]?).map (·.type) = some 182 := by kernel_rfl
def laid1 : List (String × DataW Unit) := [("smithy/graph.forms", Rows.laid_smithy_graph_forms)]
/-- The door's own heap meets the condition. -/
theorem door_met (os : Os) (args : Array Value) : laidMetH Tryd.prog laid1 ((World.doorLaid Tryd.prog 400 os).forCall (fun _ _ => 0) ⟨#[], args, []⟩).memory :=
  laidMetH_of_parts3 (fuel := 8) (laidMet_of_run' 8 (by kernel_rfl) (by kernel_rfl)) (by kernel_rfl) (by kernel_rfl)
def toD {H : Type} (x : S181) : DataW H := .agg [.lit (.bool x.f0), .lit (.bool x.f1), .lit (.bool x.f2), .lit (.bool x.f3), .lit (.int .i64 x.f4)]
theorem c4 : Tryd.prog.cellsOf 4 = 1 := by kernel_rfl
theorem c3 : Tryd.prog.cellsOf 3 = 1 := by kernel_rfl
theorem c181 : Tryd.prog.cellsOf 181 = 5 := by kernel_rfl
theorem c182 : Tryd.prog.cellsOf 182 = 55 := by kernel_rfl
set_option maxRecDepth 100000 in
theorem trod_form {H : Type} {enc : TypeId × Value → H} {w : World} {base : Nat} {spare : Nat → Bool} {held : Bool} {fuel : Nat} {cs : List Value} {x : DataW H × List MemPlace} (h : DataW.trod enc Tryd.prog w base spare held fuel 181 cs = some x) :
    ∃ y : S181, cs = [.bool y.f0, .bool y.f1, .bool y.f2, .bool y.f3, .int .i64 y.f4] ∧ x.1 = toD y := by
  obtain ⟨xs, m, _, rfl, hl, hn, hf⟩ := DataW.trod_struct Tryd.underlying181 h
  rw [c181] at hl
  match cs, hl with
  | [v0, v1, v2, v3, v4], _ =>
    match xs, hn with
    | [x0, x1, x2, x3, x4], _ =>
      have f0 : DataW.trod enc Tryd.prog w base spare held m 4 (([v0, v1, v2, v3, v4].drop 0).take (Tryd.prog.cellsOf 4)) = some x0 := hf 0 _ rfl
      rw [c4] at f0
      have f1 : DataW.trod enc Tryd.prog w base spare held m 4 (([v0, v1, v2, v3, v4].drop 1).take (Tryd.prog.cellsOf 4)) = some x1 := hf 1 _ rfl
      rw [c4] at f1
      have f2 : DataW.trod enc Tryd.prog w base spare held m 4 (([v0, v1, v2, v3, v4].drop 2).take (Tryd.prog.cellsOf 4)) = some x2 := hf 2 _ rfl
      rw [c4] at f2
      have f3 : DataW.trod enc Tryd.prog w base spare held m 4 (([v0, v1, v2, v3, v4].drop 3).take (Tryd.prog.cellsOf 4)) = some x3 := hf 3 _ rfl
      rw [c4] at f3
      have f4 : DataW.trod enc Tryd.prog w base spare held m 3 (([v0, v1, v2, v3, v4].drop 4).take (Tryd.prog.cellsOf 3)) = some x4 := hf 4 _ rfl
      rw [c3] at f4
      obtain ⟨b0, e0, y0⟩ := DataW.trod_bool Tryd.underlying4 f0
      obtain ⟨b1, e1, y1⟩ := DataW.trod_bool Tryd.underlying4 f1
      obtain ⟨b2, e2, y2⟩ := DataW.trod_bool Tryd.underlying4 f2
      obtain ⟨b3, e3, y3⟩ := DataW.trod_bool Tryd.underlying4 f3
      obtain ⟨n, e4, y4, _⟩ := DataW.trod_int Tryd.underlying3 f4
      obtain rfl := List.head_eq_of_cons_eq e0
      obtain rfl := List.head_eq_of_cons_eq e1
      obtain rfl := List.head_eq_of_cons_eq e2
      obtain rfl := List.head_eq_of_cons_eq e3
      obtain rfl := List.head_eq_of_cons_eq e4
      subst y0
      subst y1
      subst y2
      subst y3
      subst y4
      exact ⟨⟨b0, b1, b2, b3, n⟩, rfl, rfl⟩
theorem toD_inj {H : Type} {x y : S181} (h : toD (H := H) x = toD y) : x = y := by
  obtain ⟨a0, a1, a2, a3, a4⟩ := x
  obtain ⟨b0, b1, b2, b3, b4⟩ := y
  simp [toD] at h
  obtain ⟨rfl, rfl, rfl, rfl, rfl⟩ := h
  rfl
theorem of_laid {W : World} (h : laidMetH Tryd.prog laid1 W) : Kd.C k181 W (some ⟨2, 0, none⟩) 11 formsT := by
  rw [MakeChecks.laidMetH_plain _ _ _ (by kernel_rfl)] at h
  obtain ⟨ps, ⟨g0, t0, cs0, f0, p0, q0, hg0, ht0, hv0, hd0, _, _⟩, _, _⟩ := h
  obtain rfl := Option.some.inj (gForms.symm.trans hg0)
  obtain rfl := Option.some.inj (tForms.symm.trans ht0)
  obtain ⟨xs, m1, _, hx1, hlen, hn, hel⟩ := DataW.trod_array Tryd.underlying182 hd0
  rw [c182] at hlen
  have hmap : formsT.map toD = xs.map (·.1) := by
    have h1 := congrArg Prod.fst hx1
    have h2 : (DataW.agg (formsT.map toD) : DataW Unit) = DataW.agg (xs.map (·.1)) := h1
    injection h2
  refine ⟨rfl, by decide, fun _ => ⟨⟨2, 0, none⟩, rfl, fun j p hj => ?_⟩⟩
  have hj11 : j < 11 := (List.getElem?_eq_some_iff.1 hj).1
  have hjx : j < xs.length := by omega
  have h1 := hel j hj11
  rw [c181, List.getElem?_eq_getElem hjx] at h1
  obtain ⟨y, hcs, hxy⟩ := trod_form h1
  have hyp : y = p := by
    have h2 := congrArg (fun l => l[j]?) hmap
    simp only [List.getElem?_map, hj, List.getElem?_eq_getElem hjx, Option.map_some] at h2
    have h3 := Option.some.inj h2
    rw [hxy] at h3
    exact (toD_inj h3).symm
  subst hyp
  refine ⟨_, rfl, k181_mk W y, fun i u hu => ?_⟩
  have hi : i < 5 := (List.getElem?_eq_some_iff.1 hu).1
  rw [← hcs, List.getElem?_take, if_pos hi, List.getElem?_drop] at hu
  have := World.var?_cell hg0 hv0 (j * 5 + i)
  rw [show (k181 : Kd S181).sz = 5 from rfl, add_at, Nat.zero_add, this, ← Array.getElem?_toList]
  exact hu
set_option maxRecDepth 100000 in
theorem lifted (os : Os) (started : os.Started) (H : Type) (enc : TypeId × Value → H) :
    ReturnsInHanded {} Tryd.checked os 4 .any (fun w args => (Rows.liveNumbersSpec.pre enc Tryd.prog Tryd.f4 [] false w args ∧ laidMetH Tryd.prog laid1 w) ∧ sizedMet enc Tryd.prog Tryd.f4 (OpenSpec.ofChange Rows.liveNumbersSpec) false w args)
      (Rows.liveNumbersSpec.post enc Tryd.prog Tryd.f4 false true false false) := by
  refine returnsInHanded_of_change_and (C := Tryd.checked) (X := fun w _ => laidMetH Tryd.prog laid1 w) (fun _ _ _ hh h => h.of_heap hh) own started (by kernel_rfl) Tryd.func4
    (ChangeSpec.witness_shaped (enc := enc) (C := Tryd.checked) (os := os) (X := fun w _ => laidMetH Tryd.prog laid1 w) false (World.doorLaid Tryd.prog 400 os) #[] 8 rfl (World.shaped_of_RefB (by kernel_rfl) (by kernel_rfl)) (by kernel_rfl) (by kernel_rfl) (by kernel_rfl) (door_met os _)) ?_
  intro W base args ds gs before hval0 hW _ _ hL _
  have hW' := hW
  obtain ⟨p, q, hA0, hV, rfl, hfz, hnd⟩ := hW
  have hA : DataW.TrodAll enc Tryd.prog W 0 (fun _ => true) true Tryd.f4.params.toList args.toList ds p := hA0
  rw [Tryd.params4] at hA
  obtain ⟨hargs, rfl, rfl⟩ := trodAll_none hA
  obtain ⟨rfl, rfl⟩ := trodVars_none hV
  obtain rfl : args = #[] := by cases args; simp_all
  clear hA0 hval0
  refine (Fo.numbers_calls W (of_laid hL)).mono fun e W' ⟨he, bel⟩ => ?_
  subst he
  exact ⟨_, rfl, _, _, _, [], _, [], hW', trodAll_mk1 (shut_bool Tryd.underlying4 _), trodAll_mk0, rfl, bel.frame _, fun h => by cases h⟩
theorem over : Rows.LiveNumbersSaid :=
  OpenClaim.holds_of_wide 4 Tryd.f4 rfl rfl rfl rfl rfl rfl rfl ⟨rfl, rfl, rfl, rfl, rfl⟩ rfl rfl rfl rfl rfl (by kernel_rfl) Tryd.func4 (by kernel_rfl)
    (of_decide_eq_true (by kernel_rfl)) (by unfold Func.isWrapper; first | (rw [if_pos (by decide +kernel)]; kernel_rfl) | (rw [if_neg (by decide +kernel)]; exact ⟨rfl, rfl⟩))
    (fun os started H enc _ => lifted os started H enc)
theorem card_holds : Rows.LiveNumbersCardSaid :=
  Claim7.holds_tied_plain_at .later [] [.data] true (true, "1b788d6419daebb23bcee9105d633fcd78e9da821760a67c87057aa171b43382") false
    over (fun _ h => by cases h) (by kernel_rfl) (fun _ h => by cases h) liveNumbers_row_tie rfl ⟨rfl, rfl⟩ (by kernel_rfl) rfl
    (fun f fn hf hfn => by
      obtain rfl : f = 4 := Option.some.inj ((show Tryd.prog.funcNamed "smithy/smithylaw12.LiveNumbers" = some 4 by kernel_rfl).symm.trans hf) |>.symm
      obtain rfl : fn = Tryd.f4 := (Option.some.inj (Tryd.func4.symm.trans hfn)).symm
      exact ⟨by kernel_rfl, fun j t ht => by
        rw [Tryd.params4] at ht
        simp at ht⟩)
    (by kernel_rfl)
#print axioms card_holds
end Go.Proofs.YtanhnfhpajaolaaDoor.liveNumbers
namespace Go.Proofs.YtanhnfhpajaolaaDoor
/-- The tied card, under a short name, for the claim. -/
theorem liveNumbers_card : Rows.LiveNumbersCardSaid := liveNumbers.card_holds
end Go.Proofs.YtanhnfhpajaolaaDoor
