/- smithylaw19.awake: the chapter's answers. -/
import Derived.Test.YtligpleningglaaCd
import Derived.Test.YtligpleningglaaRd
import Derived.Test.YtligpleningglaaFxf19
import Derived.Test.YtligpleningglaaFxf12
import Derived.Test.YtligpleningglaaFxf16
namespace Go.Proofs.Ytligpleningglaa.Cw
open Go Go.RowKit Go.Proofs.Ytligpleningglaa.Tarjan Go.Proofs.YtligpleningglaaW.PrintWords Go.Proofs.YtligpleningglaaW.PrintLast Go.Proofs.YtligpleningglaaW.PrintMore Go.Proofs.Ytligpleningglaa.F
set_option linter.unusedVariables false
set_option linter.unusedSimpArgs false
theorem size_alo (W : World) (o : Obj) : (W.alloc o).heap.size = W.heap.size + 1 := by simp
theorem at_new (W : World) (o : Obj) (i : Nat) (h : W.heap.size = i) : (W.alloc o).heap[i]? = some o := by
  subst h
  exact hblk_new W o
theorem at_old (W : World) (o x : Obj) (i : Nat) (h : W.heap[i]? = some x) : (W.alloc o).heap[i]? = some x := hblk_old h o
theorem C_list {α : Type} (d : Kd α) {W : World} {g : Nat} {cs : Array Value} {t : TypeId} (hb : W.heap[g]? = some (.cells cs t (0, 0))) (xs : List α) (hl : xs.length ≤ 9223372036854775807) (hs : cs.size = xs.length * d.sz) (hK : ∀ (j : Nat) (h : j < xs.length), d.K W xs[j] ((cs.toList.drop (j * d.sz)).take d.sz)) : d.C W (some ⟨g, 0, none⟩) xs.length xs := by
  refine ⟨rfl, hl, fun _ => ⟨⟨g, 0, none⟩, rfl, fun j p hj => ?_⟩⟩
  obtain ⟨hjl, hjp⟩ := List.getElem?_eq_some_iff.1 hj
  subst hjp
  have hle : j * d.sz + d.sz ≤ cs.toList.length := by
    rw [Array.length_toList, hs, ← Nat.succ_mul]
    exact Nat.mul_le_mul_right _ hjl
  refine ⟨_, ?_, hK j hjl, fun i u hu => ?_⟩
  · rw [List.length_take, List.length_drop]
    omega
  · have hi : i < d.sz := by
      have := (List.getElem?_eq_some_iff.1 hu).1
      rw [List.length_take] at this
      omega
    rw [List.getElem?_take, if_pos hi, List.getElem?_drop] at hu
    rw [add_at, Nat.zero_add, blk_cell hb, ← Array.getElem?_toList]
    exact hu
theorem C_ints {k : IntKind} {W : World} {g : Nat} {cs : Array Value} {t : TypeId} (hb : W.heap[g]? = some (.cells cs t (0, 0))) (xs : List Int) (hl : xs.length ≤ 9223372036854775807) (hs : cs.toList = xs.map (Value.int k)) : (Kd.int k).C W (some ⟨g, 0, none⟩) xs.length xs := by
  refine C_list (Kd.int k) hb xs hl ?_ (fun j h => ?_)
  · rw [← Array.length_toList, hs, List.length_map]
    exact (Nat.mul_one _).symm
  · show (cs.toList.drop (j * 1)).take 1 = [Value.int k xs[j]]
    rw [hs, Nat.mul_one]
    apply List.ext_getElem?
    intro i
    cases i with
    | zero => simp [h]
    | succ i => simp [List.getElem?_take]
theorem rows_C {W : World} {g t : Nat} {cs : Array Value} (hb : W.heap[g]? = some (.cells cs t (0, 0))) (xs : List (List Int)) (hl : xs.length ≤ 9223372036854775807) (hs : cs.size = xs.length) (hK : ∀ (j : Nat) (h : j < xs.length), ∃ A c, cs[j]? = some (.slice A xs[j].length c) ∧ xs[j].length ≤ c ∧ (Kd.int .i64).C W A xs[j].length xs[j]) : (Kd.slice 3 (Kd.int .i64)).C W (some ⟨g, 0, none⟩) xs.length xs := by
  refine C_list (Kd.slice 3 (Kd.int .i64)) hb xs hl (by rw [hs]; exact (Nat.mul_one _).symm) (fun j h => ?_)
  obtain ⟨A, c, h1, h2, h3⟩ := hK j h
  refine ⟨A, c, ?_, h2, h3⟩
  show (cs.toList.drop (j * 1)).take 1 = _
  rw [Nat.mul_one]
  apply List.ext_getElem?
  intro i
  cases i with
  | zero => simpa using h1
  | succ i => simp [List.getElem?_take]
theorem litA (W : World) : (Kd.slice 3 (Kd.int .i64)).C (((((W.alloc (.cells #[.int .i64 1] 3)).alloc (.cells #[.int .i64 2] 3)).alloc (.cells #[.int .i64 1] 3)).alloc (.cells #[.int .i64 0] 3)).alloc (.cells #[.slice (some ⟨W.heap.size, 0, none⟩) 1 1, .slice (some ⟨W.heap.size + 1, 0, none⟩) 1 1, .slice (some ⟨W.heap.size + 1 + 1, 0, none⟩) 1 1, .slice (some ⟨W.heap.size + 1 + 1 + 1, 0, none⟩) 1 1] 35)) (some ⟨W.heap.size + 1 + 1 + 1 + 1, 0, none⟩) ([[1], [2], [1], [0]] : List (List Int)).length [[1], [2], [1], [0]] := by
  refine rows_C (at_new _ _ _ (by simp only [size_alo])) [[1], [2], [1], [0]] (by simp) rfl (fun j h => ?_)
  have : j = 0 ∨ j = 1 ∨ j = 2 ∨ j = 3 := by have : j < 4 := h; omega
  rcases this with rfl | rfl | rfl | rfl
  · exact ⟨_, _, rfl, Nat.le_refl 1, C_ints (at_old _ _ _ _ (at_old _ _ _ _ (at_old _ _ _ _ (at_old _ _ _ _ (at_new _ _ _ (by rfl)))))) [1] (by simp) rfl⟩
  · exact ⟨_, _, rfl, Nat.le_refl 1, C_ints (at_old _ _ _ _ (at_old _ _ _ _ (at_old _ _ _ _ (at_new _ _ _ (by simp only [size_alo]))))) [2] (by simp) rfl⟩
  · exact ⟨_, _, rfl, Nat.le_refl 1, C_ints (at_old _ _ _ _ (at_old _ _ _ _ (at_new _ _ _ (by simp only [size_alo])))) [1] (by simp) rfl⟩
  · exact ⟨_, _, rfl, Nat.le_refl 1, C_ints (at_old _ _ _ _ (at_new _ _ _ (by simp only [size_alo]))) [0] (by simp) rfl⟩
theorem litB (W : World) : (Kd.slice 3 (Kd.int .i64)).C ((((W.alloc (.cells #[.int .i64 1, .int .i64 2] 3)).alloc (.cells #[.int .i64 0] 3)).alloc (.cells #[.int .i64 3] 3)).alloc (.cells #[.slice (some ⟨W.heap.size, 0, none⟩) 2 2, .slice (some ⟨W.heap.size + 1, 0, none⟩) 1 1, .slice (some ⟨W.heap.size + 1 + 1, 0, none⟩) 1 1] 35)) (some ⟨W.heap.size + 1 + 1 + 1, 0, none⟩) ([[1, 2], [0], [3]] : List (List Int)).length [[1, 2], [0], [3]] := by
  refine rows_C (at_new _ _ _ (by simp only [size_alo])) [[1, 2], [0], [3]] (by simp) rfl (fun j h => ?_)
  have : j = 0 ∨ j = 1 ∨ j = 2 := by have : j < 3 := h; omega
  rcases this with rfl | rfl | rfl
  · exact ⟨_, _, rfl, Nat.le_refl 2, C_ints (at_old _ _ _ _ (at_old _ _ _ _ (at_old _ _ _ _ (at_new _ _ _ (by rfl))))) [1, 2] (by simp) rfl⟩
  · exact ⟨_, _, rfl, Nat.le_refl 1, C_ints (at_old _ _ _ _ (at_old _ _ _ _ (at_new _ _ _ (by simp only [size_alo])))) [0] (by simp) rfl⟩
  · exact ⟨_, _, rfl, Nat.le_refl 1, C_ints (at_old _ _ _ _ (at_new _ _ _ (by simp only [size_alo]))) [3] (by simp) rfl⟩
theorem litC (W : World) : (Kd.slice 3 (Kd.int .i64)).C (((W.alloc (.cells #[.int .i64 1] 3)).alloc (.cells #[.int .i64 0] 3)).alloc (.cells #[.slice (some ⟨W.heap.size, 0, none⟩) 1 1, .slice (some ⟨W.heap.size + 1, 0, none⟩) 1 1, .slice none 0 0] 35)) (some ⟨W.heap.size + 1 + 1, 0, none⟩) ([[1], [0], []] : List (List Int)).length [[1], [0], []] := by
  refine rows_C (at_new _ _ _ (by simp only [size_alo])) [[1], [0], []] (by simp) rfl (fun j h => ?_)
  have : j = 0 ∨ j = 1 ∨ j = 2 := by have : j < 3 := h; omega
  rcases this with rfl | rfl | rfl
  · exact ⟨_, _, rfl, Nat.le_refl 1, C_ints (at_old _ _ _ _ (at_old _ _ _ _ (at_new _ _ _ (by rfl)))) [1] (by simp) rfl⟩
  · exact ⟨_, _, rfl, Nat.le_refl 1, C_ints (at_old _ _ _ _ (at_new _ _ _ (by simp only [size_alo]))) [0] (by simp) rfl⟩
  · exact ⟨none, 0, rfl, Nat.le_refl 0, Kd.C_nil _ _⟩
theorem litT (W : World) : Kd.bool.C (W.alloc (.cells #[.bool true, .bool true, .bool false] 4)) (some ⟨W.heap.size, 0, none⟩) ([true, true, false] : List Bool).length [true, true, false] := by
  refine C_list Kd.bool (at_new _ _ _ rfl) [true, true, false] (by simp) rfl (fun j h => ?_)
  have : j = 0 ∨ j = 1 ∨ j = 2 := by have : j < 3 := h; omega
  rcases this with rfl | rfl | rfl <;> rfl
theorem lit1 (W : World) : (Kd.int .i64).C (W.alloc (.cells #[.int .i64 1] 3)) (some ⟨W.heap.size, 0, none⟩) ([1] : List Int).length [1] := C_ints (at_new _ _ _ rfl) [1] (by simp) rfl
theorem lit3 (W : World) : (Kd.int .i64).C (W.alloc (.cells #[.int .i64 0, .int .i64 0, .int .i64 9] 3)) (some ⟨W.heap.size, 0, none⟩) ([0, 0, 9] : List Int).length [0, 0, 9] := C_ints (at_new _ _ _ rfl) [0, 0, 9] (by simp) rfl
/-- a graph that calls some. -/
def ga (l : List Int) : S42 := ⟨⟨#[]⟩, [], 0, [], [], [⟨[], ⟨0, 0, ⟨0, 0⟩, 0⟩⟩, ⟨l.map fun r => ⟨9, 0, 0, [], 0, r⟩, ⟨0, 0, ⟨0, 0⟩, 0⟩⟩]⟩
theorem caller_calls (w : World) (A : Option Addr) (c : Nat) (l : List Int) (hr : Kd.C (Kd.int .i64) w A l.length l) (hc : l.length ≤ c) (h : smithylaw19_caller.f 20 l = some (⟨#[]⟩, [], 0, [], [], (ga l).f5)) :
    Calls Try.prog 19 #[.slice A l.length c] w fun e w' => ∃ A1 c1 A3 c3 A4 c4 A5 c5, e = .returned (.agg #[.string ⟨#[]⟩, .slice A1 0 c1, .int .u8 0, .slice A3 0 c3, .slice A4 0 c4, .slice A5 2 c5]) ∧ (∀ W, Below w'.heap.size w' W → k42.K W (ga l) [.string ⟨#[]⟩, .slice A1 0 c1, .int .u8 0, .slice A3 0 c3, .slice A4 0 c4, .slice A5 2 c5]) ∧ Below w.heap.size w w' := by
  refine (smithylaw19_caller.calls 20 A c l _ _ _ _ _ _ w hr hc h).mono ?_
  rintro e w' ⟨v1, v3, v4, v5, rfl, h1, h3, h4, h5, hb⟩
  obtain ⟨A1, c1, rfl, l1, g1⟩ := Kd.R_reads h1
  obtain ⟨A3, c3, rfl, l3, g3⟩ := Kd.R_reads h3
  obtain ⟨A4, c4, rfl, l4, g4⟩ := Kd.R_reads h4
  have hv := Kd.N_V (base' := 0) h5
  obtain ⟨A5, c5, rfl⟩ := Kd.V_slice hv
  obtain ⟨_, l5, g5⟩ := Kd.V_reads' hv
  exact ⟨A1, c1, A3, c3, A4, c4, A5, c5, rfl, fun W hW => k42.K_below hW (k42_mk w' (ga l) l1 g1 l3 g3 l4 g4 l5 g5), hb⟩
theorem gs_C {W : World} {g : Nat} {x1 x2 x3 : S42} {a1 a2 a3 a4 a5 a6 b1 b2 b3 b4 b5 b6 d1 d2 d3 d4 d5 d6 : Value} (hb : W.heap[g]? = some (.cells #[a1, a2, a3, a4, a5, a6, b1, b2, b3, b4, b5, b6, d1, d2, d3, d4, d5, d6] 42 (0, 0))) (h1 : k42.K W x1 [a1, a2, a3, a4, a5, a6]) (h2 : k42.K W x2 [b1, b2, b3, b4, b5, b6]) (h3 : k42.K W x3 [d1, d2, d3, d4, d5, d6]) :
    k42.C W (some ⟨g, 0, none⟩) ([x1, x2, x3] : List S42).length [x1, x2, x3] := by
  refine C_list k42 hb [x1, x2, x3] (by simp) rfl (fun j h => ?_)
  have : j = 0 ∨ j = 1 ∨ j = 2 := by have : j < 3 := h; omega
  rcases this with rfl | rfl | rfl
  · exact h1
  · exact h2
  · exact h3
theorem cal1 : smithylaw19_caller.f 20 [1] = some (⟨#[]⟩, [], 0, [], [], (ga [1]).f5) := by kernel_rfl
theorem cal2 : smithylaw19_caller.f 20 [0, 0, 9] = some (⟨#[]⟩, [], 0, [], [], (ga [0, 0, 9]).f5) := by kernel_rfl
theorem cal3 : smithylaw19_caller.f 20 [] = some (⟨#[]⟩, [], 0, [], [], (ga []).f5) := by kernel_rfl
theorem par1 : resP [[1], [2], [1], [0]] = ([[1, 2], [0], [3]], 0) := by rw [resP_eq]; kernel_rfl
theorem cald : calledL [ga [1], ga [0, 0, 9], ga []] = [[1], [0], []] := by unfold calledL; rw [cmpZ_eq]; kernel_rfl
theorem rndl : roundL [ga [1], ga [0, 0, 9], ga []] = [true, true, false] := by unfold roundL; rw [cald, resP_eq]; kernel_rfl
theorem bq1 (W : World) (o1 : Obj) : Below W.heap.size W (W.alloc o1) := below_alloc (Below.refl _ _) _
theorem bq4 (W : World) (o1 o2 o3 o4 : Obj) : Below W.heap.size W ((((W.alloc o1).alloc o2).alloc o3).alloc o4) := below_alloc (below_alloc (below_alloc (below_alloc (Below.refl _ _) _) _) _) _
theorem bq5 (W : World) (o1 o2 o3 o4 o5 : Obj) : Below W.heap.size W (((((W.alloc o1).alloc o2).alloc o3).alloc o4).alloc o5) := below_alloc (bq4 W _ _ _ _) _
theorem bq3 (W : World) (o1 o2 o3 : Obj) : Below W.heap.size W (((W.alloc o1).alloc o2).alloc o3) := below_alloc (below_alloc (below_alloc (Below.refl _ _) _) _) _
theorem rowsB : smithykit_SameRows.f 20 [[1, 2], [0], [3]] [[1, 2], [0], [3]] = some true := by kernel_rfl
theorem rowsC : smithykit_SameRows.f 20 [[1], [0], []] [[1], [0], []] = some true := by kernel_rfl
theorem truths : smithykit_SameTruths.f 20 [true, true, false] [true, true, false] = some true := by kernel_rfl
set_option maxHeartbeats 2000000 in
set_option maxRecDepth 100000 in
theorem awake_calls (w : World) : Calls Try.prog 9 #[] w fun e w' => e = .returned (.bool true) ∧ Below w.heap.size w w' := by
  go_enter Try.func9, Try.ntmps9
  go_wp2_with (fail)
  refine (parts_calls _ _ 4 [[1], [2], [1], [0]] (litA w) (by decide) (by kernel_rfl)).mono ?_
  rintro e w1 ⟨v1, rfl, hS1, hb1⟩
  rw [par1] at hS1 ⊢
  obtain ⟨A1, c1, rfl, hc1, hC1⟩ := Kd.S_reads hS1
  have HC1 := Aside0.mk hC1
  have HCL := Aside0.mk hc1
  have HW1 := Aside0.mk (show Below w.heap.size w w1 from below_step (bq5 w _ _ _ _ _) hb1)
  clear hS1 hc1 hC1 hb1
  go_wp2_with (fail)
  refine (caller_calls _ _ 1 [1] (lit1 w1) (by decide) cal1).mono ?_
  rintro e w2 ⟨a1, b1, a2, b2, a3, b3, a4, b4, rfl, hK1, hb2⟩
  have HK1 := Aside0.mk hK1
  have HW2 := Aside0.mk (show Below w1.heap.size w1 w2 from below_step (bq1 w1 _) hb2)
  clear hK1 hb2
  go_wp2_with (fail)
  refine (caller_calls _ _ 3 [0, 0, 9] (lit3 w2) (by decide) cal2).mono ?_
  rintro e w3 ⟨d1, e1, d2, e2, d3, e3, d4, e4, rfl, hK2, hb3⟩
  have HK2 := Aside0.mk hK2
  have HW3 := Aside0.mk (show Below w2.heap.size w2 w3 from below_step (bq1 w2 _) hb3)
  clear hK2 hb3
  go_wp2_with (fail)
  refine (caller_calls _ none 0 [] (Kd.C_nil _ _) (by decide) cal3).mono ?_
  rintro e w4 ⟨f1, g1, f2, g2, f3, g3, f4, g4, rfl, hK3, hb4⟩
  have HK3 := Aside0.mk hK3
  have HW4 := Aside0.mk hb4
  clear hK3 hb4
  go_wp2_with (fail)
  have GC := Aside0.mk (gs_C (at_new w4 _ _ rfl) (HK1.out _ (below_step (below_step HW3.out HW4.out) (bq1 w4 _))) (HK2.out _ (below_step HW4.out (bq1 w4 _))) (HK3.out _ (bq1 w4 _)))
  have HW5 := Aside0.mk (below_step (below_step (below_step (below_step HW1.out HW2.out) HW3.out) HW4.out) (bq1 w4 (Obj.cells #[.string ⟨#[]⟩, .slice a1 0 b1, .int .u8 0, .slice a2 0 b2, .slice a3 0 b3, .slice a4 2 b4, .string ⟨#[]⟩, .slice d1 0 e1, .int .u8 0, .slice d2 0 e2, .slice d3 0 e3, .slice d4 2 e4, .string ⟨#[]⟩, .slice f1 0 g1, .int .u8 0, .slice f2 0 g2, .slice f3 0 g3, .slice f4 2 g4] 42)))
  have HC5 := Aside0.mk (Kd.C_below (Kd.C_below (Kd.C_below (Kd.C_below HC1.out HW2.out) HW3.out) HW4.out) (bq1 w4 (Obj.cells #[.string ⟨#[]⟩, .slice a1 0 b1, .int .u8 0, .slice a2 0 b2, .slice a3 0 b3, .slice a4 2 b4, .string ⟨#[]⟩, .slice d1 0 e1, .int .u8 0, .slice d2 0 e2, .slice d3 0 e3, .slice d4 2 e4, .string ⟨#[]⟩, .slice f1 0 g1, .int .u8 0, .slice f2 0 g2, .slice f3 0 g3, .slice f4 2 g4] 42)))
  clear HK1 HK2 HK3 HW1 HW2 HW3 HC1
  refine (round_calls _ _ 3 [ga [1], ga [0, 0, 9], ga []] GC.out (by decide) (by kernel_rfl)).mono ?_
  rintro e w6 ⟨v6, rfl, hR6, hb6⟩
  rw [rndl] at hR6
  obtain ⟨A6, c6, rfl, hc6, hC6⟩ := Kd.R_reads hR6
  have T6 := Aside0.mk hC6
  have TC6 := Aside0.mk hc6
  have GC6 := Aside0.mk (Kd.C_below GC.out hb6)
  have HC6 := Aside0.mk (Kd.C_below HC5.out hb6)
  have HW6 := Aside0.mk (below_step HW5.out hb6)
  clear hR6 hC6 hc6 hb6 GC HC5 HW5 HW4
  go_wp2_with (fail)
  refine (smithykit_SameRows.calls 20 A1 c1 [[1, 2], [0], [3]] _ 3 [[1, 2], [0], [3]] true _ (Kd.C_below HC6.out (bq4 w6 _ _ _ _)) HCL.out (litB w6) (by decide) rowsB).mono ?_
  rintro e w7 ⟨rfl, ⟨nd, hnd⟩⟩
  have HB7 := Aside0.mk (show Below w6.heap.size w6 w7 by rw [hnd]; exact pw_below_drewN (bq4 w6 _ _ _ _) nd)
  clear hnd
  go_wp2_with (fail)
  refine (called_calls _ _ 3 [ga [1], ga [0, 0, 9], ga []] (Kd.C_below GC6.out HB7.out) (by decide) (by kernel_rfl)).mono ?_
  rintro e w8 ⟨v8, rfl, hS8, hb8⟩
  rw [cald] at hS8
  obtain ⟨A8, c8, rfl, hc8, hC8⟩ := Kd.S_reads hS8
  have HC8 := Aside0.mk hC8
  have HCL8 := Aside0.mk hc8
  have HB8 := Aside0.mk hb8
  clear hS8 hC8 hc8 hb8
  go_wp2_with (fail)
  refine (smithykit_SameRows.calls 20 A8 c8 [[1], [0], []] _ 3 [[1], [0], []] true _ (Kd.C_below HC8.out (bq3 w8 _ _ _)) HCL8.out (litC w8) (by decide) rowsC).mono ?_
  rintro e w9 ⟨rfl, ⟨nd, hnd⟩⟩
  have HB9 := Aside0.mk (show Below w8.heap.size w8 w9 by rw [hnd]; exact pw_below_drewN (bq3 w8 _ _ _) nd)
  clear hnd
  go_wp2_with (fail)
  refine (smithykit_SameTruths.calls 20 A6 c6 [true, true, false] _ 3 [true, true, false] true _ (Kd.C_below (Kd.C_below (Kd.C_below (Kd.C_below T6.out HB7.out) HB8.out) HB9.out) (bq1 w9 _)) TC6.out (litT w9) (by decide) truths).mono ?_
  rintro e w10 ⟨rfl, ⟨nd, hnd⟩⟩
  have HB10 := Aside0.mk (show Below w9.heap.size w9 w10 by rw [hnd]; exact pw_below_drewN (bq1 w9 _) nd)
  clear hnd
  go_wp2
  go_ret
  exact ⟨rfl, below_step (below_step (below_step (below_step HW6.out HB7.out) HB8.out) HB9.out) HB10.out⟩
end Go.Proofs.Ytligpleningglaa.Cw
