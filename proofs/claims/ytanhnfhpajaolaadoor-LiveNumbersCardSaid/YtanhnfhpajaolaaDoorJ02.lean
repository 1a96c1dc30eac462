/- Texts of this proof, joined in build order: Fxf55, Fxf168, Fxf141, Cf, Fo. -/
import Derived.Test.YtanhnfhpajaolaaDoorJ00
import Derived.Test.YtanhnfhpajaolaaDoorJ01
-- printed by px2.py, a program of this session, by way of the kit's print; Lean checks it
namespace Go.Proofs.YtanhnfhpajaolaaDoor.F
open Go.RowKit Go.Proofs.YtanhnfhpajaolaaDoorW.PrintWords Go.Proofs.YtanhnfhpajaolaaDoorW.PrintLast Go.Proofs.YtanhnfhpajaolaaDoorW.PrintMore
attribute [local go_sem] max2_int min2_int max_two min_two max_three min_three max_four min_four   -- for this text's walks alone
set_option linter.unusedVariables false
set_option linter.unusedSimpArgs false

/-! ### graph_in: function 55 -/
def graph_in.f (a0 : Int) (a1 : Int) : Option (Bool) := if a0 ≥ 0 then (some (decide (a0 < a1))) else (some false)
set_option maxHeartbeats 8000000 in
set_option maxRecDepth 100000 in
theorem graph_in.calls (a0 : Int) (a1 : Int) (r : Bool) (w : World) (h : graph_in.f a0 a1 = some r) :
    Calls Tryd.prog 55 #[.int .i64 a0, .int .i64 a1] w fun e w' => e = .returned (.bool r) ∧ Drawn0 w w' := by
 have H : (if a0 ≥ 0 then (some (decide (a0 < a1))) else (some false)) = some r := h
 clear h
 by_cases c3 : a0 ≥ 0
 ·
  rw [if_pos c3] at H
  have c3b0 : decide (0 ≤ a0) = true := decide_eq_true c3
  clear c3
  obtain rfl := Option.some.inj H
  go_enter Tryd.func55, Tryd.ntmps55
  go_wp2
  go_ret
  exact ⟨by first | rfl | (simp; done) | (simp [*]; done), by repeat (first | exact Drawn0.refl _ | apply Drawn0.step)⟩
 ·
  rw [if_neg c3] at H
  have c3b0 : decide (0 ≤ a0) = false := decide_eq_false c3
  clear c3
  obtain rfl := Option.some.inj H
  go_enter Tryd.func55, Tryd.ntmps55
  go_wp2
  go_ret
  exact ⟨by first | rfl | (simp; done) | (simp [*]; done), by repeat (first | exact Drawn0.refl _ | apply Drawn0.step)⟩

end Go.Proofs.YtanhnfhpajaolaaDoor.F
-- printed by px2.py, a program of this session, by way of the kit's print; Lean checks it
namespace Go.Proofs.YtanhnfhpajaolaaDoor.F
open Go.RowKit Go.Proofs.YtanhnfhpajaolaaDoorW.PrintWords Go.Proofs.YtanhnfhpajaolaaDoorW.PrintLast Go.Proofs.YtanhnfhpajaolaaDoorW.PrintMore
attribute [local go_sem] max2_int min2_int max_two min_two max_three min_three max_four min_four   -- for this text's walks alone
set_option linter.unusedVariables false
set_option linter.unusedSimpArgs false

/-! ### api_Type_168: function 168 -/
def api_Type_168.l0 : Nat → List Int → List Int → Int → Int → Option (Bool)
  | 0, _, _, _, _ => none
  | k + 1, x0, x1, x12, x13 => if x13 < x12 then (if 0 ≤ x13 then (if x13 < (x0.length : Int) then (if x13 < (x1.length : Int) then (if (rd x0 x13) = (rd x1 x13) then (api_Type_168.l0 k x0 x1 x12 (wrap64 (x13 + 1))) else (some false)) else (none)) else (none)) else (none)) else (some true)
def api_Type_168.f (k : Nat) (l0 : List Int) (l1 : List Int) : Option (Bool) := if (l0.length : Int) = (l1.length : Int) then (api_Type_168.l0 k l0 l1 (l0.length : Int) 0) else (some false)
theorem api_Type_168.mono_l : ∀ k, (∀ y0 y1 y2 y3, LeO (api_Type_168.l0 k y0 y1 y2 y3) (api_Type_168.l0 (k + 1) y0 y1 y2 y3))
  | 0 => fun _ _ _ _ r h => by simp [api_Type_168.l0] at h
  | k + 1 => by
    have ih0 := api_Type_168.mono_l k
    · intro y0 y1 y2 y3
      unfold api_Type_168.l0
      repeat' first
      | (with_reducible exact ih0 _ _ _ _)
      | (with_reducible exact LeO.refl _)
      | (with_reducible exact LeO.none _)
      | (with_reducible refine LeO.ite ?_ ?_)
      | (with_reducible refine LeO.bind ?_ (fun _ => ?_))
      | exact ih0 _ _ _ _
      | exact LeO.none _
      | refine LeO.ite ?_ ?_
      | refine LeO.bind ?_ (fun _ => ?_)
theorem api_Type_168.mono : ∀ a0 a1 k, LeO (api_Type_168.f k a0 a1) (api_Type_168.f (k + 1) a0 a1) := by
  intro a0 a1 k
  have ih0 := api_Type_168.mono_l k
  unfold api_Type_168.f
  repeat' first
      | (with_reducible exact ih0 _ _ _ _)
      | (with_reducible exact LeO.refl _)
      | (with_reducible exact LeO.none _)
      | (with_reducible refine LeO.ite ?_ ?_)
      | (with_reducible refine LeO.bind ?_ (fun _ => ?_))
      | exact ih0 _ _ _ _
      | exact LeO.none _
      | refine LeO.ite ?_ ?_
      | refine LeO.bind ?_ (fun _ => ?_)
set_option maxHeartbeats 8000000 in
set_option maxRecDepth 100000 in
theorem api_Type_168.calls (k : Nat) (A0 : Option Addr) (c0 : Nat) (l0 : List Int) (A1 : Option Addr) (c1 : Nat) (l1 : List Int) (r : Bool) (w : World) (hr0 : Kd.C (Kd.int .u8) w A0 l0.length l0) (hc0 : l0.length ≤ c0) (hr1 : Kd.C (Kd.int .u8) w A1 l1.length l1) (hc1 : l1.length ≤ c1) (h : api_Type_168.f k l0 l1 = some r) :
    Calls Tryd.prog 168 #[.slice A0 l0.length c0, .slice A1 l1.length c1] w fun e w' => e = .returned (.bool r) ∧ Drawn0 w w' := by
 have HR0 := Aside0.mk hr0
 have HC0 := Aside0.mk hc0
 clear hr0 hc0
 have HR1 := Aside0.mk hr1
 have HC1 := Aside0.mk hc1
 clear hr1 hc1
 have H : (if (l0.length : Int) = (l1.length : Int) then (api_Type_168.l0 k l0 l1 (l0.length : Int) 0) else (some false)) = some r := h
 clear h
 by_cases c3 : (l0.length : Int) = (l1.length : Int)
 ·
  rw [if_pos c3] at H
  have c3b0 : ((l0.length : Int) == (l1.length : Int)) = true := beq_iff_eq.mpr c3
  have c3b1 : ((l0.length : Int) != (l1.length : Int)) = false := bne_eq_false_iff_eq.mpr c3
  have c3b2 : (l0.length == l1.length) = true := by first | simpa using c3 | (simp at c3 ⊢; omega)
  clear c3
  have H' := Aside0.mk H
  clear H
  go_enter Tryd.func168, Tryd.ntmps168
  go_wp2
  repeat (go_quiet (fail); try go_wp2)
  go_loopg [13] k (fun kq v13 w' => ∃ (x13_1 : Int), v13 = .int .i64 x13_1 ∧ Aside0 (api_Type_168.l0 kq l0 l1 (l0.length : Int) x13_1 = some r) ∧ Aside0 (kq ≤ k) ∧ Drawn0 w w')
  case atStart => exact ⟨(0), (by first | rfl | (simp; done) | (simp [*]; done)), H', ⟨Nat.le_refl _⟩, by repeat (first | exact Drawn0.refl _ | apply Drawn0.step)⟩
  case round =>
   clear H'
   try clear c1
   try clear p2
   try clear c3
   try clear c3b0
   try clear c3b1
   try clear c3b2
   obtain ⟨x13_1, rfl, HA, HK1, ⟨m1, rfl⟩⟩ := hrel
   cases gk with
   | zero => exact absurd HA.out (by simp [api_Type_168.l0])
   | succ k1 =>
    have H := HA.out
    clear HA
    simp only [api_Type_168.l0] at H
    by_cases c4 : x13_1 < (l0.length : Int)
    ·
     rw [if_pos c4] at H
     have c4b0 : decide (x13_1 < (l0.length : Int)) = true := decide_eq_true c4
     clear c4
     by_cases c5 : 0 ≤ x13_1
     ·
      rw [if_pos c5] at H
      have c5b0 : decide (0 ≤ x13_1) = true := decide_eq_true c5
      clear c5
      by_cases c6 : x13_1 < (l0.length : Int)
      ·
       rw [if_pos c6] at H
       have c6b0 : decide (x13_1 < (l0.length : Int)) = true := decide_eq_true c6
       clear c6
       by_cases c7 : x13_1 < (l1.length : Int)
       ·
        rw [if_pos c7] at H
        have c7b0 : decide (x13_1 < (l1.length : Int)) = true := decide_eq_true c7
        clear c7
        by_cases c8 : (rd l0 x13_1) = (rd l1 x13_1)
        ·
         rw [if_pos c8] at H
         have c8b0 : ((rd l0 x13_1) == (rd l1 x13_1)) = true := beq_iff_eq.mpr c8
         have c8b1 : ((rd l0 x13_1) != (rd l1 x13_1)) = false := bne_eq_false_iff_eq.mpr c8
         clear c8
         have H' := Aside0.mk H
         clear H
         have p171 : 0 ≤ (x13_1 : Int) := of_decide_eq_true (by first | (with_reducible assumption) | assumption)
         have q171 : x13_1 < (l0.length : Int) := of_decide_eq_true (by first | (with_reducible assumption) | assumption)
         obtain ⟨ad171, e171, hx171_0⟩ := Kd.at_int HR0.out x13_1 p171 q171
         cases e171
         replace p171 := eq_true p171
         replace q171 := eq_true q171
         have p172 : 0 ≤ (x13_1 : Int) := of_decide_eq_true (by first | (with_reducible assumption) | assumption)
         have q172 : x13_1 < (l1.length : Int) := of_decide_eq_true (by first | (with_reducible assumption) | assumption)
         obtain ⟨ad172, e172, hx172_0⟩ := Kd.at_int HR1.out x13_1 p172 q172
         cases e172
         replace p172 := eq_true p172
         replace q172 := eq_true q172
         go_wp2
         repeat (go_quiet (fail); try go_wp2)
         go_roundg k1
         case measure => have := HK1.out; omega
         case rel => exact ⟨(wrap64 (x13_1 + 1)), (by first | rfl | (simp; done) | (simp [*]; done)), H', ⟨by have := HK1.out; omega⟩, by repeat (first | exact Drawn0.refl _ | apply Drawn0.step)⟩
        ·
         rw [if_neg c8] at H
         have c8b0 : ((rd l0 x13_1) == (rd l1 x13_1)) = false := beq_eq_false_iff_ne.mpr c8
         have c8b1 : ((rd l0 x13_1) != (rd l1 x13_1)) = true := bne_iff_ne.mpr c8
         obtain rfl := Option.some.inj H
         have p171 : 0 ≤ (x13_1 : Int) := of_decide_eq_true (by first | (with_reducible assumption) | assumption)
         have q171 : x13_1 < (l0.length : Int) := of_decide_eq_true (by first | (with_reducible assumption) | assumption)
         obtain ⟨ad171, e171, hx171_0⟩ := Kd.at_int HR0.out x13_1 p171 q171
         cases e171
         replace p171 := eq_true p171
         replace q171 := eq_true q171
         have p172 : 0 ≤ (x13_1 : Int) := of_decide_eq_true (by first | (with_reducible assumption) | assumption)
         have q172 : x13_1 < (l1.length : Int) := of_decide_eq_true (by first | (with_reducible assumption) | assumption)
         obtain ⟨ad172, e172, hx172_0⟩ := Kd.at_int HR1.out x13_1 p172 q172
         cases e172
         replace p172 := eq_true p172
         replace q172 := eq_true q172
         go_wp2
         repeat (go_quiet (fail); try go_wp2)
         go_ret
         exact ⟨by first | rfl | (simp; done) | (simp [*]; done), by repeat (first | exact Drawn0.refl _ | apply Drawn0.step)⟩
       ·
        rw [if_neg c7] at H
        exact absurd H (by simp)
      ·
       rw [if_neg c6] at H
       exact absurd H (by simp)
     ·
      rw [if_neg c5] at H
      exact absurd H (by simp)
    ·
     rw [if_neg c4] at H
     have c4b0 : decide (x13_1 < (l0.length : Int)) = false := decide_eq_false c4
     clear c4
     obtain rfl := Option.some.inj H
     go_wp2
     repeat (go_quiet (fail); try go_wp2)
     go_ret
     exact ⟨by first | rfl | (simp; done) | (simp [*]; done), by repeat (first | exact Drawn0.refl _ | apply Drawn0.step)⟩
 ·
  rw [if_neg c3] at H
  have c3b0 : ((l0.length : Int) == (l1.length : Int)) = false := beq_eq_false_iff_ne.mpr c3
  have c3b1 : ((l0.length : Int) != (l1.length : Int)) = true := bne_iff_ne.mpr c3
  have c3b2 : (l0.length == l1.length) = false := by first | simpa using c3 | (simp at c3 ⊢; omega)
  obtain rfl := Option.some.inj H
  go_enter Tryd.func168, Tryd.ntmps168
  go_wp2
  repeat (go_quiet (fail); try go_wp2)
  go_ret
  exact ⟨by first | rfl | (simp; done) | (simp [*]; done), by repeat (first | exact Drawn0.refl _ | apply Drawn0.step)⟩

end Go.Proofs.YtanhnfhpajaolaaDoor.F
-- printed by px2.py, a program of this session, by way of the kit's print; Lean checks it
namespace Go.Proofs.YtanhnfhpajaolaaDoor.F
open Go.RowKit Go.Proofs.YtanhnfhpajaolaaDoorW.PrintWords Go.Proofs.YtanhnfhpajaolaaDoorW.PrintLast Go.Proofs.YtanhnfhpajaolaaDoorW.PrintMore
attribute [local go_sem] max2_int min2_int max_two min_two max_three min_three max_four min_four   -- for this text's walks alone
set_option linter.unusedVariables false
set_option linter.unusedSimpArgs false

/-! ### graph_called: function 141 -/
def graph_called.l0 : Nat → List Int → Int → List Int → Int → Int → ByteArray → List Int → Int → List Int → List (S113) → List (S43) → Option (Bool)
  | 0, _, _, _, _, _, _, _, _, _, _, _ => none
  | k + 1, x2, x3, x24, x25, x26, x177000, x177001, x177002, x177003, x177004, x177005 => if x26 < x25 then (if 0 ≤ x26 then (if x26 < (x24.length : Int) then ((graph_in.f (rd x24 x26) (x177003.length : Int)).bind fun t178 => (if t178 = true then (graph_called.l0 k x2 x3 x24 x25 (wrap64 (x26 + 1)) x177000 x177001 x177002 x177003 x177004 x177005) else (some false))) else (none)) else (none)) else (if x177002 = x3 then ((graph_types.f k x177000 x177001 x177002 x177003 x177004 x177005 x177001).bind fun t179 => ((api_Type_168.f k t179 x2).bind fun t182 => (some t182))) else (some false))
def graph_called.f (k : Nat) (l0 : List (S28)) (a1_0 : Int) (a1_1 : Int) (a1_2 : Int) (l1_3 : List Int) (a1_4 : Int) (a1_5 : Int) (l2 : List Int) (a3 : Int) : Option (Bool) := (graph_in.f a1_5 (l0.length : Int)).bind fun t174 => (if t174 = true then (if 0 ≤ a1_5 then (if a1_5 < (l0.length : Int) then (graph_called.l0 k l2 a3 ((rd_T28 l0 a1_5).f1) (((rd_T28 l0 a1_5).f1).length : Int) 0 ((rd_T28 l0 a1_5).f0) ((rd_T28 l0 a1_5).f1) ((rd_T28 l0 a1_5).f2) ((rd_T28 l0 a1_5).f3) ((rd_T28 l0 a1_5).f4) ((rd_T28 l0 a1_5).f5)) else (none)) else (none)) else (some false))
theorem graph_called.mono_l : ∀ k, (∀ y0 y1 y2 y3 y4 y5 y6 y7 y8 y9 y10, LeO (graph_called.l0 k y0 y1 y2 y3 y4 y5 y6 y7 y8 y9 y10) (graph_called.l0 (k + 1) y0 y1 y2 y3 y4 y5 y6 y7 y8 y9 y10))
  | 0 => fun _ _ _ _ _ _ _ _ _ _ _ r h => by simp [graph_called.l0] at h
  | k + 1 => by
    have ih0 := graph_called.mono_l k
    · intro y0 y1 y2 y3 y4 y5 y6 y7 y8 y9 y10
      unfold graph_called.l0
      repeat' first
      | (with_reducible exact ih0 _ _ _ _ _ _ _ _ _ _ _)
      | (with_reducible exact api_Type_168.mono _ _ _)
      | (with_reducible exact graph_types.mono _ _ _ _ _ _ _ _)
      | (with_reducible exact LeO.refl _)
      | (with_reducible exact LeO.none _)
      | (with_reducible refine LeO.ite ?_ ?_)
      | (with_reducible refine LeO.bind ?_ (fun _ => ?_))
      | exact ih0 _ _ _ _ _ _ _ _ _ _ _
      | exact api_Type_168.mono _ _ _
      | exact graph_types.mono _ _ _ _ _ _ _ _
      | exact LeO.none _
      | refine LeO.ite ?_ ?_
      | refine LeO.bind ?_ (fun _ => ?_)
theorem graph_called.mono : ∀ a0 a1 a2 a3 a4 a5 a6 a7 a8 k, LeO (graph_called.f k a0 a1 a2 a3 a4 a5 a6 a7 a8) (graph_called.f (k + 1) a0 a1 a2 a3 a4 a5 a6 a7 a8) := by
  intro a0 a1 a2 a3 a4 a5 a6 a7 a8 k
  have ih0 := graph_called.mono_l k
  unfold graph_called.f
  repeat' first
      | (with_reducible exact ih0 _ _ _ _ _ _ _ _ _ _ _)
      | (with_reducible exact api_Type_168.mono _ _ _)
      | (with_reducible exact graph_types.mono _ _ _ _ _ _ _ _)
      | (with_reducible exact LeO.refl _)
      | (with_reducible exact LeO.none _)
      | (with_reducible refine LeO.ite ?_ ?_)
      | (with_reducible refine LeO.bind ?_ (fun _ => ?_))
      | exact ih0 _ _ _ _ _ _ _ _ _ _ _
      | exact api_Type_168.mono _ _ _
      | exact graph_types.mono _ _ _ _ _ _ _ _
      | exact LeO.none _
      | refine LeO.ite ?_ ?_
      | refine LeO.bind ?_ (fun _ => ?_)
set_option maxHeartbeats 8000000 in
set_option maxRecDepth 100000 in
theorem graph_called.calls (k : Nat) (A0 : Option Addr) (c0 : Nat) (l0 : List (S28)) (a1_0 : Int) (a1_1 : Int) (a1_2 : Int) (A1_3 : Option Addr) (c1_3 : Nat) (l1_3 : List Int) (a1_4 : Int) (a1_5 : Int) (A2 : Option Addr) (c2 : Nat) (l2 : List Int) (a3 : Int) (r : Bool) (w : World) (hr0 : Kd.C k28 w A0 l0.length l0) (hc0 : l0.length ≤ c0) (hr1_3 : Kd.C (Kd.int .i64) w A1_3 l1_3.length l1_3) (hc1_3 : l1_3.length ≤ c1_3) (hr2 : Kd.C (Kd.int .u8) w A2 l2.length l2) (hc2 : l2.length ≤ c2) (h : graph_called.f k l0 a1_0 a1_1 a1_2 l1_3 a1_4 a1_5 l2 a3 = some r) :
    Calls Tryd.prog 141 #[.slice A0 l0.length c0, .agg #[.int .u8 a1_0, .int .u8 a1_1, .int .i64 a1_2, .slice A1_3 l1_3.length c1_3, .int .u64 a1_4, .int .i64 a1_5], .slice A2 l2.length c2, .int .u8 a3] w fun e w' => e = .returned (.bool r) ∧ Below w.heap.size w w' := by
 have hu49 := Tryd.underlying49
 have hu28 := Tryd.underlying28
 have HR0 := Aside0.mk hr0
 have HC0 := Aside0.mk hc0
 clear hr0 hc0
 have HR1_3 := Aside0.mk hr1_3
 have HC1_3 := Aside0.mk hc1_3
 clear hr1_3 hc1_3
 have HR2 := Aside0.mk hr2
 have HC2 := Aside0.mk hc2
 clear hr2 hc2
 have HB := Aside0.mk (Below.refl w.heap.size w)
 have H : ((graph_in.f a1_5 (l0.length : Int)).bind fun t174 => (if t174 = true then (if 0 ≤ a1_5 then (if a1_5 < (l0.length : Int) then (graph_called.l0 k l2 a3 ((rd_T28 l0 a1_5).f1) (((rd_T28 l0 a1_5).f1).length : Int) 0 ((rd_T28 l0 a1_5).f0) ((rd_T28 l0 a1_5).f1) ((rd_T28 l0 a1_5).f2) ((rd_T28 l0 a1_5).f3) ((rd_T28 l0 a1_5).f4) ((rd_T28 l0 a1_5).f5)) else (none)) else (none)) else (some false))) = some r := h
 clear h
 replace H := Option.bind_eq_some_iff.mp H
 obtain ⟨t174, A50, H⟩ := H
 replace H : (if t174 = true then (if 0 ≤ a1_5 then (if a1_5 < (l0.length : Int) then (graph_called.l0 k l2 a3 ((rd_T28 l0 a1_5).f1) (((rd_T28 l0 a1_5).f1).length : Int) 0 ((rd_T28 l0 a1_5).f0) ((rd_T28 l0 a1_5).f1) ((rd_T28 l0 a1_5).f2) ((rd_T28 l0 a1_5).f3) ((rd_T28 l0 a1_5).f4) ((rd_T28 l0 a1_5).f5)) else (none)) else (none)) else (some false)) = some r := H
 have A5 := Aside0.mk A50
 clear A50
 have HF6 := Aside0.mk H
 clear H
 go_enter Tryd.func141, Tryd.ntmps141
 go_upto_if 17 with (first | ((with_reducible refine gate_dst (N := 5) rfl ?_); refine box_event ?hg (N := 5) ?hd (cs := #[.int .u8 a1_0, .int .u8 a1_1, .int .i64 a1_2, .slice A1_3 l1_3.length c1_3, .int .u64 a1_4, .int .i64 a1_5]) (t := 49) ?hr ?_; (case hd => rfl); (case hg => rfl); (case hr => first | (go_simp; done) | (go_simp; rfl)); intro gb173 hg w7 hbox hb; have n0_ := Aside0.mk (below_step (by repeat (first | (with_reducible first | exact HB.out | apply below_alloc | apply pw_below_drewN | apply below_drew1) | exact HB.out)) hb); have n1_ := Aside0.mk (hbox); have n2_ := Aside0.mk ((by rw [hg]; exact (below_size (by repeat (first | (with_reducible first | exact HB.out | apply below_alloc | apply pw_below_drewN | apply below_drew1) | exact HB.out))) : w.heap.size ≤ gb173)); have n3_ := Aside0.mk ((by rw [hg]; exact (below_size (by repeat (first | (with_reducible first | exact HB.out | apply below_alloc | apply pw_below_drewN | apply below_drew1) | exact HB.out))) : w.heap.size ≤ gb173)); clear HB; have HB := n0_; have BK173 := n1_; have GW173 := n2_; have GE173 := n3_; clear n0_ n1_ n2_ n3_; clear hb hbox hg; have hcz8_0 : w7.cell? ⟨gb173, 0, none⟩ = some (.int .u8 a1_0) := (blk_cell BK173.out 0).trans rfl; have hcz8_1 : w7.cell? ⟨gb173, 1, none⟩ = some (.int .u8 a1_1) := (blk_cell BK173.out 1).trans rfl; have hcz8_2 : w7.cell? ⟨gb173, 2, none⟩ = some (.int .i64 a1_2) := (blk_cell BK173.out 2).trans rfl; have hcz8_3 : w7.cell? ⟨gb173, 3, none⟩ = some (.slice A1_3 l1_3.length c1_3) := (blk_cell BK173.out 3).trans rfl; have hcz8_4 : w7.cell? ⟨gb173, 4, none⟩ = some (.int .u64 a1_4) := (blk_cell BK173.out 4).trans rfl; have hcz8_5 : w7.cell? ⟨gb173, 5, none⟩ = some (.int .i64 a1_5) := (blk_cell BK173.out 5).trans rfl; have hfz8_0 := blk_frozen BK173.out 0; have hfz8_1 := blk_frozen BK173.out 1; have hfz8_2 := blk_frozen BK173.out 2; have hfz8_3 := blk_frozen BK173.out 3; have hfz8_4 := blk_frozen BK173.out 4; have hfz8_5 := blk_frozen BK173.out 5) | ((with_reducible refine gate_callee (f := 55) rfl ?_); refine goesL_ (some 16) rfl rfl Tryd.func55 (by kernel_rfl) rfl #[.int .i64 a1_5, .int .i64 (l0.length : Int)] rfl (by (try simp only [List.map_toArray, List.map_cons, List.map_nil]); first | done | rfl | (simp only [List.length_drop, List.length_take]; rfl)) ?_; (with_reducible refine (graph_in.calls a1_5 (l0.length : Int) t174 _ A5.out).mono ?_); rintro e w' ⟨rfl, ⟨nd, rfl⟩⟩; refine ⟨_, rfl, ?_⟩))
 (try simp only [Act.put, List.setIfInBounds_toArray, List.set_cons_zero, List.set_cons_succ])
 have H := HF6.out
 clear HF6
 by_cases c9 : t174 = true
 ·
  subst c9
  have H1 : (if 0 ≤ a1_5 then (if a1_5 < (l0.length : Int) then (graph_called.l0 k l2 a3 ((rd_T28 l0 a1_5).f1) (((rd_T28 l0 a1_5).f1).length : Int) 0 ((rd_T28 l0 a1_5).f0) ((rd_T28 l0 a1_5).f1) ((rd_T28 l0 a1_5).f2) ((rd_T28 l0 a1_5).f3) ((rd_T28 l0 a1_5).f4) ((rd_T28 l0 a1_5).f5)) else (none)) else (none)) = some r := by rw [if_pos rfl] at H; exact H
  clear H
  have H := H1
  clear H1
  by_cases c10 : 0 ≤ a1_5
  ·
   rw [if_pos c10] at H
   have c10b0 : decide (0 ≤ a1_5) = true := decide_eq_true c10
   clear c10
   by_cases c11 : a1_5 < (l0.length : Int)
   ·
    rw [if_pos c11] at H
    have c11b0 : decide (a1_5 < (l0.length : Int)) = true := decide_eq_true c11
    clear c11
    have H' := Aside0.mk H
    clear H
    have hcz12_0 : w7.cell? ⟨gb173, 0, none⟩ = some (.int .u8 a1_0) := (blk_cell BK173.out 0).trans rfl
    have hcz12_1 : w7.cell? ⟨gb173, 1, none⟩ = some (.int .u8 a1_1) := (blk_cell BK173.out 1).trans rfl
    have hcz12_2 : w7.cell? ⟨gb173, 2, none⟩ = some (.int .i64 a1_2) := (blk_cell BK173.out 2).trans rfl
    have hcz12_3 : w7.cell? ⟨gb173, 3, none⟩ = some (.slice A1_3 l1_3.length c1_3) := (blk_cell BK173.out 3).trans rfl
    have hcz12_4 : w7.cell? ⟨gb173, 4, none⟩ = some (.int .u64 a1_4) := (blk_cell BK173.out 4).trans rfl
    have hcz12_5 : w7.cell? ⟨gb173, 5, none⟩ = some (.int .i64 a1_5) := (blk_cell BK173.out 5).trans rfl
    have hfz12_0 := blk_frozen BK173.out 0
    have hfz12_1 := blk_frozen BK173.out 1
    have hfz12_2 := blk_frozen BK173.out 2
    have hfz12_3 := blk_frozen BK173.out 3
    have hfz12_4 := blk_frozen BK173.out 4
    have hfz12_5 := blk_frozen BK173.out 5
    have p175 : 0 ≤ (a1_5 : Int) := of_decide_eq_true (by first | (with_reducible assumption) | assumption)
    have q175 : a1_5 < (l0.length : Int) := of_decide_eq_true (by first | (with_reducible assumption) | assumption)
    obtain ⟨ad175, A175_1, c175_1, A175_3, c175_3, A175_4, c175_4, A175_5, c175_5, e175, hx175_0, hx175_1, hx175_2, hx175_3, hx175_4, hx175_5, hl175_1, hi175_1, hl175_3, hi175_3, hl175_4, hi175_4, hl175_5, hi175_5⟩ := at_T28 HR0.out a1_5 p175 q175
    cases e175
    replace hx175_0 := (HB.out.cell (World.block_lt_of_cell? w _ hx175_0)).trans hx175_0
    replace hx175_1 := (HB.out.cell (World.block_lt_of_cell? w _ hx175_1)).trans hx175_1
    replace hx175_2 := (HB.out.cell (World.block_lt_of_cell? w _ hx175_2)).trans hx175_2
    replace hx175_3 := (HB.out.cell (World.block_lt_of_cell? w _ hx175_3)).trans hx175_3
    replace hx175_4 := (HB.out.cell (World.block_lt_of_cell? w _ hx175_4)).trans hx175_4
    replace hx175_5 := (HB.out.cell (World.block_lt_of_cell? w _ hx175_5)).trans hx175_5
    have HR175_1 := Aside0.mk hi175_1
    have HC175_1 := Aside0.mk hl175_1
    clear hi175_1 hl175_1
    have HR175_3 := Aside0.mk hi175_3
    have HC175_3 := Aside0.mk hl175_3
    clear hi175_3 hl175_3
    have HR175_4 := Aside0.mk hi175_4
    have HC175_4 := Aside0.mk hl175_4
    clear hi175_4 hl175_4
    have HR175_5 := Aside0.mk hi175_5
    have HC175_5 := Aside0.mk hl175_5
    clear hi175_5 hl175_5
    replace p175 := eq_true p175
    replace q175 := eq_true q175
    go_wp2_with (first | ((with_reducible refine gate_dst (N := 9) rfl ?_); refine box_event ?hg (N := 9) ?hd (cs := #[.string (⟨#[]⟩ : ByteArray), .slice none 0 0, .int .u8 0, .slice none 0 0, .slice none 0 0, .slice none 0 0]) (t := 28) ?hr ?_; (case hd => rfl); (case hg => rfl); (case hr => first | (go_simp; done) | (go_simp; rfl)); intro gb176 hg w13 hbox hb; have n0_ := Aside0.mk (blk_below (g := gb173) (o := .cells #[.int .u8 a1_0, .int .u8 a1_1, .int .i64 a1_2, .slice A1_3 l1_3.length c1_3, .int .u64 a1_4, .int .i64 a1_5] 49 (0, 0)) (by (with_reducible repeat (first | refine blk_drewN ?_ _ | refine blk_drew ?_ | refine blk_alloc ?_ _)); exact BK173.out) hb); have n1_ := Aside0.mk (below_step (by repeat (first | (with_reducible first | exact HB.out | apply below_alloc | apply pw_below_drewN | apply below_drew1 | refine below_set ?_ GE173.out) | exact HB.out)) hb); have n2_ := Aside0.mk (hbox); have n3_ := Aside0.mk ((by rw [hg]; exact (below_size (by repeat (first | (with_reducible first | exact HB.out | apply below_alloc | apply pw_below_drewN | apply below_drew1 | refine below_set ?_ GE173.out) | exact HB.out))) : w.heap.size ≤ gb176)); have n4_ := Aside0.mk ((by rw [hg]; exact (below_size (by repeat (first | (with_reducible first | exact HB.out | apply below_alloc | apply pw_below_drewN | apply below_drew1 | refine below_set ?_ GE173.out) | exact HB.out))) : w.heap.size ≤ gb176)); have n5_ := Aside0.mk ((by rw [hg]; exact Nat.ne_of_lt (blk_lt (g := gb173) (o := .cells #[.int .u8 a1_0, .int .u8 a1_1, .int .i64 a1_2, .slice A1_3 l1_3.length c1_3, .int .u64 a1_4, .int .i64 a1_5] 49 (0, 0)) (by (with_reducible repeat (first | refine blk_drewN ?_ _ | refine blk_drew ?_ | refine blk_alloc ?_ _)); exact BK173.out)) : gb173 ≠ gb176)); have n6_ := Aside0.mk ((by rw [hg]; exact Nat.ne_of_gt (blk_lt (g := gb173) (o := .cells #[.int .u8 a1_0, .int .u8 a1_1, .int .i64 a1_2, .slice A1_3 l1_3.length c1_3, .int .u64 a1_4, .int .i64 a1_5] 49 (0, 0)) (by (with_reducible repeat (first | refine blk_drewN ?_ _ | refine blk_drew ?_ | refine blk_alloc ?_ _)); exact BK173.out)) : gb176 ≠ gb173)); clear BK173; clear HB; have BK173 := n0_; have HB := n1_; have BK176 := n2_; have GW176 := n3_; have GE176 := n4_; have NB173_176 := n5_; have NB176_173 := n6_; clear n0_ n1_ n2_ n3_ n4_ n5_ n6_; clear hb hbox hg; have hnb14 := NB176_173.out; have hnc14 := NB173_176.out; have hcz15_0 : w13.cell? ⟨gb176, 0, none⟩ = some (.string (⟨#[]⟩ : ByteArray)) := (blk_cell BK176.out 0).trans rfl; have hcz15_1 : w13.cell? ⟨gb176, 1, none⟩ = some (.slice none 0 0) := (blk_cell BK176.out 1).trans rfl; have hcz15_2 : w13.cell? ⟨gb176, 2, none⟩ = some (.int .u8 0) := (blk_cell BK176.out 2).trans rfl; have hcz15_3 : w13.cell? ⟨gb176, 3, none⟩ = some (.slice none 0 0) := (blk_cell BK176.out 3).trans rfl; have hcz15_4 : w13.cell? ⟨gb176, 4, none⟩ = some (.slice none 0 0) := (blk_cell BK176.out 4).trans rfl; have hcz15_5 : w13.cell? ⟨gb176, 5, none⟩ = some (.slice none 0 0) := (blk_cell BK176.out 5).trans rfl; have hfz15_0 := blk_frozen BK176.out 0; have hfz15_1 := blk_frozen BK176.out 1; have hfz15_2 := blk_frozen BK176.out 2; have hfz15_3 := blk_frozen BK176.out 3; have hfz15_4 := blk_frozen BK176.out 4; have hfz15_5 := blk_frozen BK176.out 5))
    go_loopg [26] k (fun kq v26 w' => ∃ (x26_1 : Int), v26 = .int .i64 x26_1 ∧ Aside0 (graph_called.l0 kq l2 a3 ((rd_T28 l0 a1_5).f1) (((rd_T28 l0 a1_5).f1).length : Int) x26_1 ((rd_T28 l0 a1_5).f0) ((rd_T28 l0 a1_5).f1) ((rd_T28 l0 a1_5).f2) ((rd_T28 l0 a1_5).f3) ((rd_T28 l0 a1_5).f4) ((rd_T28 l0 a1_5).f5) = some r) ∧ Aside0 (kq ≤ k) ∧ Aside0 (w'.heap[gb173]? = some (.cells #[.int .u8 a1_0, .int .u8 a1_1, .int .i64 a1_2, (.slice A1_3 l1_3.length c1_3), .int .u64 a1_4, .int .i64 a1_5] 49 (0, 0))) ∧ Aside0 (w'.heap[gb176]? = some (.cells #[.string ((rd_T28 l0 a1_5).f0), (.slice A175_1 ((rd_T28 l0 a1_5).f1).length c175_1), .int .u8 ((rd_T28 l0 a1_5).f2), (.slice A175_3 ((rd_T28 l0 a1_5).f3).length c175_3), (.slice A175_4 ((rd_T28 l0 a1_5).f4).length c175_4), (.slice A175_5 ((rd_T28 l0 a1_5).f5).length c175_5)] 28 (0, 0))) ∧ Aside0 (Below w.heap.size w w'))
    case atStart => exact ⟨(0), (by first | rfl | (simp; done) | (simp [*]; done)), H', ⟨Nat.le_refl _⟩, ⟨by (with_reducible repeat (first | refine blk_drewN ?_ _ | refine blk_drew ?_ | refine blk_alloc ?_ _)); refine blk_far ?_ NB173_176.out _; (with_reducible repeat (first | refine blk_drewN ?_ _ | refine blk_drew ?_ | refine blk_alloc ?_ _)); refine blk_far ?_ NB173_176.out _; (with_reducible repeat (first | refine blk_drewN ?_ _ | refine blk_drew ?_ | refine blk_alloc ?_ _)); refine blk_far ?_ NB173_176.out _; (with_reducible repeat (first | refine blk_drewN ?_ _ | refine blk_drew ?_ | refine blk_alloc ?_ _)); refine blk_far ?_ NB173_176.out _; (with_reducible repeat (first | refine blk_drewN ?_ _ | refine blk_drew ?_ | refine blk_alloc ?_ _)); refine blk_far ?_ NB173_176.out _; (with_reducible repeat (first | refine blk_drewN ?_ _ | refine blk_drew ?_ | refine blk_alloc ?_ _)); refine blk_far ?_ NB173_176.out _; (with_reducible repeat (first | refine blk_drewN ?_ _ | refine blk_drew ?_ | refine blk_alloc ?_ _)); exact BK173.out⟩, ⟨by (with_reducible repeat (first | refine blk_drewN ?_ _ | refine blk_drew ?_ | refine blk_alloc ?_ _)); refine blk_put (cs := #[.string ((rd_T28 l0 a1_5).f0), .slice A175_1 ((rd_T28 l0 a1_5).f1).length c175_1, .int .u8 ((rd_T28 l0 a1_5).f2), .slice A175_3 ((rd_T28 l0 a1_5).f3).length c175_3, .slice A175_4 ((rd_T28 l0 a1_5).f4).length c175_4, .slice none 0 0]) ?_ 5 _ rfl; (with_reducible repeat (first | refine blk_drewN ?_ _ | refine blk_drew ?_ | refine blk_alloc ?_ _)); refine blk_put (cs := #[.string ((rd_T28 l0 a1_5).f0), .slice A175_1 ((rd_T28 l0 a1_5).f1).length c175_1, .int .u8 ((rd_T28 l0 a1_5).f2), .slice A175_3 ((rd_T28 l0 a1_5).f3).length c175_3, .slice none 0 0, .slice none 0 0]) ?_ 4 _ rfl; (with_reducible repeat (first | refine blk_drewN ?_ _ | refine blk_drew ?_ | refine blk_alloc ?_ _)); refine blk_put (cs := #[.string ((rd_T28 l0 a1_5).f0), .slice A175_1 ((rd_T28 l0 a1_5).f1).length c175_1, .int .u8 ((rd_T28 l0 a1_5).f2), .slice none 0 0, .slice none 0 0, .slice none 0 0]) ?_ 3 _ rfl; (with_reducible repeat (first | refine blk_drewN ?_ _ | refine blk_drew ?_ | refine blk_alloc ?_ _)); refine blk_put (cs := #[.string ((rd_T28 l0 a1_5).f0), .slice A175_1 ((rd_T28 l0 a1_5).f1).length c175_1, .int .u8 0, .slice none 0 0, .slice none 0 0, .slice none 0 0]) ?_ 2 _ rfl; (with_reducible repeat (first | refine blk_drewN ?_ _ | refine blk_drew ?_ | refine blk_alloc ?_ _)); refine blk_put (cs := #[.string ((rd_T28 l0 a1_5).f0), .slice none 0 0, .int .u8 0, .slice none 0 0, .slice none 0 0, .slice none 0 0]) ?_ 1 _ rfl; (with_reducible repeat (first | refine blk_drewN ?_ _ | refine blk_drew ?_ | refine blk_alloc ?_ _)); refine blk_put (cs := #[.string (⟨#[]⟩ : ByteArray), .slice none 0 0, .int .u8 0, .slice none 0 0, .slice none 0 0, .slice none 0 0]) ?_ 0 _ rfl; (with_reducible repeat (first | refine blk_drewN ?_ _ | refine blk_drew ?_ | refine blk_alloc ?_ _)); exact BK176.out⟩, ⟨by repeat (first | (with_reducible first | exact HB.out | apply below_alloc | apply pw_below_drewN | apply below_drew1 | refine below_set ?_ GE173.out | refine below_set ?_ GE176.out) | exact HB.out)⟩⟩
    case round =>
     clear H'
     try clear c1
     try clear p1
     try clear q1
     try clear hx1
     try clear c2
     try clear p2
     try clear c5
     try clear c9
     try clear c10
     try clear c10b0
     try clear c11
     try clear c11b0
     try clear c14
     try clear hcz12_0
     try clear hcz12_1
     try clear hcz12_2
     try clear hcz12_3
     try clear hcz12_4
     try clear hcz12_5
     try clear hcz15_0
     try clear hcz15_1
     try clear hcz15_2
     try clear hcz15_3
     try clear hcz15_4
     try clear hcz15_5
     try clear hcz8_0
     try clear hcz8_1
     try clear hcz8_2
     try clear hcz8_3
     try clear hcz8_4
     try clear hcz8_5
     try clear hfz12_0
     try clear hfz12_1
     try clear hfz12_2
     try clear hfz12_3
     try clear hfz12_4
     try clear hfz12_5
     try clear hfz15_0
     try clear hfz15_1
     try clear hfz15_2
     try clear hfz15_3
     try clear hfz15_4
     try clear hfz15_5
     try clear hfz8_0
     try clear hfz8_1
     try clear hfz8_2
     try clear hfz8_3
     try clear hfz8_4
     try clear hfz8_5
     try clear hx175_0
     try clear hx175_1
     try clear hx175_2
     try clear hx175_3
     try clear hx175_4
     try clear hx175_5
     try clear p175
     try clear q175
     obtain ⟨x26_1, rfl, HA, HK1, BK173, BK176, HB⟩ := hrel
     cases gk with
     | zero => exact absurd HA.out (by simp [graph_called.l0])
     | succ k1 =>
      have H := HA.out
      clear HA
      simp only [graph_called.l0] at H
      by_cases c16 : x26_1 < (((rd_T28 l0 a1_5).f1).length : Int)
      ·
       rw [if_pos c16] at H
       have c16b0 : decide (x26_1 < (((rd_T28 l0 a1_5).f1).length : Int)) = true := decide_eq_true c16
       clear c16
       by_cases c17 : 0 ≤ x26_1
       ·
        rw [if_pos c17] at H
        have c17b0 : decide (0 ≤ x26_1) = true := decide_eq_true c17
        clear c17
        by_cases c18 : x26_1 < (((rd_T28 l0 a1_5).f1).length : Int)
        ·
         rw [if_pos c18] at H
         have c18b0 : decide (x26_1 < (((rd_T28 l0 a1_5).f1).length : Int)) = true := decide_eq_true c18
         clear c18
         replace H := Option.bind_eq_some_iff.mp H
         obtain ⟨t178, A190, H⟩ := H
         replace H : (if t178 = true then (graph_called.l0 k1 l2 a3 ((rd_T28 l0 a1_5).f1) (((rd_T28 l0 a1_5).f1).length : Int) (wrap64 (x26_1 + 1)) ((rd_T28 l0 a1_5).f0) ((rd_T28 l0 a1_5).f1) ((rd_T28 l0 a1_5).f2) ((rd_T28 l0 a1_5).f3) ((rd_T28 l0 a1_5).f4) ((rd_T28 l0 a1_5).f5)) else (some false)) = some r := H
         have A19 := Aside0.mk A190
         clear A190
         have HF20 := Aside0.mk H
         clear H
         have p177 : 0 ≤ (x26_1 : Int) := of_decide_eq_true (by first | (with_reducible assumption) | assumption)
         have q177 : x26_1 < (((rd_T28 l0 a1_5).f1).length : Int) := of_decide_eq_true (by first | (with_reducible assumption) | assumption)
         obtain ⟨ad177, e177, hx177_0⟩ := Kd.at_int HR175_1.out x26_1 p177 q177
         cases e177
         replace hx177_0 := (HB.out.cell (World.block_lt_of_cell? w _ hx177_0)).trans hx177_0
         replace p177 := eq_true p177
         replace q177 := eq_true q177
         have hnb21 := NB176_173.out
         have hnc21 := NB173_176.out
         have hcz22_0 : wr.cell? ⟨gb176, 0, none⟩ = some (.string ((rd_T28 l0 a1_5).f0)) := (blk_cell BK176.out 0).trans rfl
         have hcz22_1 : wr.cell? ⟨gb176, 1, none⟩ = some (.slice (some ad177) ((rd_T28 l0 a1_5).f1).length c175_1) := (blk_cell BK176.out 1).trans rfl
         have hcz22_2 : wr.cell? ⟨gb176, 2, none⟩ = some (.int .u8 ((rd_T28 l0 a1_5).f2)) := (blk_cell BK176.out 2).trans rfl
         have hcz22_3 : wr.cell? ⟨gb176, 3, none⟩ = some (.slice A175_3 ((rd_T28 l0 a1_5).f3).length c175_3) := (blk_cell BK176.out 3).trans rfl
         have hcz22_4 : wr.cell? ⟨gb176, 4, none⟩ = some (.slice A175_4 ((rd_T28 l0 a1_5).f4).length c175_4) := (blk_cell BK176.out 4).trans rfl
         have hcz22_5 : wr.cell? ⟨gb176, 5, none⟩ = some (.slice A175_5 ((rd_T28 l0 a1_5).f5).length c175_5) := (blk_cell BK176.out 5).trans rfl
         have hfz22_0 := blk_frozen BK176.out 0
         have hfz22_1 := blk_frozen BK176.out 1
         have hfz22_2 := blk_frozen BK176.out 2
         have hfz22_3 := blk_frozen BK176.out 3
         have hfz22_4 := blk_frozen BK176.out 4
         have hfz22_5 := blk_frozen BK176.out 5
         go_upto_if 35 with (first | ((with_reducible refine gate_callee (f := 55) rfl ?_); refine goesL_ (some 34) rfl rfl Tryd.func55 (by kernel_rfl) rfl #[.int .i64 (rd ((rd_T28 l0 a1_5).f1) x26_1), .int .i64 (((rd_T28 l0 a1_5).f3).length : Int)] rfl (by (try simp only [List.map_toArray, List.map_cons, List.map_nil]); first | done | rfl | (simp only [List.length_drop, List.length_take]; rfl)) ?_; (with_reducible refine (graph_in.calls (rd ((rd_T28 l0 a1_5).f1) x26_1) (((rd_T28 l0 a1_5).f3).length : Int) t178 _ A19.out).mono ?_); rintro e w' ⟨rfl, ⟨nd, rfl⟩⟩; refine ⟨_, rfl, ?_⟩))
         (try simp only [Act.put, List.setIfInBounds_toArray, List.set_cons_zero, List.set_cons_succ])
         have H := HF20.out
         clear HF20
         by_cases c23 : t178 = true
         ·
          subst c23
          have H1 : (graph_called.l0 k1 l2 a3 ((rd_T28 l0 a1_5).f1) (((rd_T28 l0 a1_5).f1).length : Int) (wrap64 (x26_1 + 1)) ((rd_T28 l0 a1_5).f0) ((rd_T28 l0 a1_5).f1) ((rd_T28 l0 a1_5).f2) ((rd_T28 l0 a1_5).f3) ((rd_T28 l0 a1_5).f4) ((rd_T28 l0 a1_5).f5)) = some r := by rw [if_pos rfl] at H; exact H
          clear H
          have H := H1
          clear H1
          have H' := Aside0.mk H
          clear H
          go_wp2
          go_roundg k1
          case measure => have := HK1.out; omega
          case rel => exact ⟨(wrap64 (x26_1 + 1)), (by first | rfl | (simp; done) | (simp [*]; done)), H', ⟨by have := HK1.out; omega⟩, ⟨by (with_reducible repeat (first | refine blk_drewN ?_ _ | refine blk_drew ?_ | refine blk_alloc ?_ _)); exact BK173.out⟩, ⟨by (with_reducible repeat (first | refine blk_drewN ?_ _ | refine blk_drew ?_ | refine blk_alloc ?_ _)); exact BK176.out⟩, ⟨by repeat (first | (with_reducible first | exact HB.out | apply below_alloc | apply pw_below_drewN | apply below_drew1 | refine below_set ?_ GE173.out | refine below_set ?_ GE176.out) | exact HB.out)⟩⟩
         ·
          replace c23 := Bool.eq_false_iff.mpr c23
          subst c23
          have H1 : (some false) = some r := by rw [if_neg (show ¬ (false = true) by decide)] at H; exact H
          clear H
          have H := H1
          clear H1
          obtain rfl := Option.some.inj H
          go_wp2
          go_ret
          exact ⟨by first | rfl | (simp <;> rfl) | (simp [*] <;> rfl), by repeat (first | (with_reducible first | exact HB.out | apply below_alloc | apply pw_below_drewN | apply below_drew1 | refine below_set ?_ GE173.out | refine below_set ?_ GE176.out) | exact HB.out)⟩
        ·
         rw [if_neg c18] at H
         exact absurd H (by simp)
       ·
        rw [if_neg c17] at H
        exact absurd H (by simp)
      ·
       rw [if_neg c16] at H
       have c16b0 : decide (x26_1 < (((rd_T28 l0 a1_5).f1).length : Int)) = false := decide_eq_false c16
       clear c16
       by_cases c24 : ((rd_T28 l0 a1_5).f2) = a3
       ·
        rw [if_pos c24] at H
        have c24b0 : (((rd_T28 l0 a1_5).f2) == a3) = true := beq_iff_eq.mpr c24
        have c24b1 : (((rd_T28 l0 a1_5).f2) != a3) = false := bne_eq_false_iff_eq.mpr c24
        clear c24
        replace H := Option.bind_eq_some_iff.mp H
        obtain ⟨t179, A250, H⟩ := H
        replace H : ((api_Type_168.f k1 t179 l2).bind fun t182 => (some t182)) = some r := H
        have A25 := Aside0.mk A250
        clear A250
        replace H := Option.bind_eq_some_iff.mp H
        obtain ⟨t182, A260, H⟩ := H
        replace H : (some t182) = some r := H
        have A26 := Aside0.mk A260
        clear A260
        obtain rfl := Option.some.inj H
        have hnb27 := NB176_173.out
        have hnc27 := NB173_176.out
        have hcz28_0 : wr.cell? ⟨gb176, 0, none⟩ = some (.string ((rd_T28 l0 a1_5).f0)) := (blk_cell BK176.out 0).trans rfl
        have hcz28_1 : wr.cell? ⟨gb176, 1, none⟩ = some (.slice A175_1 ((rd_T28 l0 a1_5).f1).length c175_1) := (blk_cell BK176.out 1).trans rfl
        have hcz28_2 : wr.cell? ⟨gb176, 2, none⟩ = some (.int .u8 ((rd_T28 l0 a1_5).f2)) := (blk_cell BK176.out 2).trans rfl
        have hcz28_3 : wr.cell? ⟨gb176, 3, none⟩ = some (.slice A175_3 ((rd_T28 l0 a1_5).f3).length c175_3) := (blk_cell BK176.out 3).trans rfl
        have hcz28_4 : wr.cell? ⟨gb176, 4, none⟩ = some (.slice A175_4 ((rd_T28 l0 a1_5).f4).length c175_4) := (blk_cell BK176.out 4).trans rfl
        have hcz28_5 : wr.cell? ⟨gb176, 5, none⟩ = some (.slice A175_5 ((rd_T28 l0 a1_5).f5).length c175_5) := (blk_cell BK176.out 5).trans rfl
        have hfz28_0 := blk_frozen BK176.out 0
        have hfz28_1 := blk_frozen BK176.out 1
        have hfz28_2 := blk_frozen BK176.out 2
        have hfz28_3 := blk_frozen BK176.out 3
        have hfz28_4 := blk_frozen BK176.out 4
        have hfz28_5 := blk_frozen BK176.out 5
        go_wp2_with (first | (go_at_call 136; (with_reducible refine (graph_types.calls k1 ((rd_T28 l0 a1_5).f0) _ _ ((rd_T28 l0 a1_5).f1) ((rd_T28 l0 a1_5).f2) _ _ ((rd_T28 l0 a1_5).f3) _ _ ((rd_T28 l0 a1_5).f4) _ _ ((rd_T28 l0 a1_5).f5) _ _ ((rd_T28 l0 a1_5).f1) t179 _ ?side1 ?side2 ?side3 ?side4 ?side5 ?side6 ?side7 ?side8 ?side9 ?side10 A25.out).mono ?_); (case side1 => repeat (first | exact (Kd.C_below HR175_1.out HB.out) | (with_reducible refine Kd.C_alloc ?_ _) | (with_reducible refine Kd.C_drewN ?_ _) | (with_reducible refine Kd.C_drew ?_))); (case side2 => exact HC175_1.out); (case side3 => repeat (first | exact (Kd.C_below HR175_3.out HB.out) | (with_reducible refine Kd.C_alloc ?_ _) | (with_reducible refine Kd.C_drewN ?_ _) | (with_reducible refine Kd.C_drew ?_))); (case side4 => exact HC175_3.out); (case side5 => repeat (first | exact (Kd.C_below HR175_4.out HB.out) | (with_reducible refine Kd.C_alloc ?_ _) | (with_reducible refine Kd.C_drewN ?_ _) | (with_reducible refine Kd.C_drew ?_))); (case side6 => exact HC175_4.out); (case side7 => repeat (first | exact (Kd.C_below HR175_5.out HB.out) | (with_reducible refine Kd.C_alloc ?_ _) | (with_reducible refine Kd.C_drewN ?_ _) | (with_reducible refine Kd.C_drew ?_))); (case side8 => exact HC175_5.out); (case side9 => repeat (first | exact (Kd.C_below HR175_1.out HB.out) | (with_reducible refine Kd.C_alloc ?_ _) | (with_reducible refine Kd.C_drewN ?_ _) | (with_reducible refine Kd.C_drew ?_))); (case side10 => exact HC175_1.out); rintro e w29 ⟨v180, rfl, ho0, hb⟩; have n0_ := Aside0.mk (Kd.R_lower ho0 (below_size (by repeat (first | (with_reducible first | exact HB.out | apply below_alloc | apply pw_below_drewN | apply below_drew1 | refine below_set ?_ GE173.out | refine below_set ?_ GE176.out) | exact HB.out)))); have n1_ := Aside0.mk (blk_below (g := gb173) (o := .cells #[.int .u8 a1_0, .int .u8 a1_1, .int .i64 a1_2, .slice A1_3 l1_3.length c1_3, .int .u64 a1_4, .int .i64 a1_5] 49 (0, 0)) (by (with_reducible repeat (first | refine blk_drewN ?_ _ | refine blk_drew ?_ | refine blk_alloc ?_ _)); exact BK173.out) hb); have n2_ := Aside0.mk (blk_below (g := gb176) (o := .cells #[.string ((rd_T28 l0 a1_5).f0), .slice A175_1 ((rd_T28 l0 a1_5).f1).length c175_1, .int .u8 ((rd_T28 l0 a1_5).f2), .slice A175_3 ((rd_T28 l0 a1_5).f3).length c175_3, .slice A175_4 ((rd_T28 l0 a1_5).f4).length c175_4, .slice A175_5 ((rd_T28 l0 a1_5).f5).length c175_5] 28 (0, 0)) (by (with_reducible repeat (first | refine blk_drewN ?_ _ | refine blk_drew ?_ | refine blk_alloc ?_ _)); exact BK176.out) hb); have n3_ := Aside0.mk (below_step (by repeat (first | (with_reducible first | exact HB.out | apply below_alloc | apply pw_below_drewN | apply below_drew1 | refine below_set ?_ GE173.out | refine below_set ?_ GE176.out) | exact HB.out)) hb); clear BK173; clear BK176; clear HB; have HO181 := n0_; have BK173 := n1_; have BK176 := n2_; have HB := n3_; clear n0_ n1_ n2_ n3_; (try clear hb); (try clear hb2); (try clear hk); (try clear hi); (try clear ho0); obtain ⟨Ao30, co30, eo30⟩ := Kd.R_slice HO181.out; subst eo30) | (go_at_call 168; (with_reducible refine (api_Type_168.calls k1 _ _ t179 _ _ l2 t182 _ ?side1 ?side2 ?side3 ?side4 A26.out).mono ?_); (case side1 => repeat (first | exact (Kd.R_reads' HO181.out).2.2 | (with_reducible refine Kd.C_alloc ?_ _) | (with_reducible refine Kd.C_drewN ?_ _) | (with_reducible refine Kd.C_drew ?_))); (case side2 => exact (Kd.R_reads' HO181.out).2.1); (case side3 => repeat (first | exact (Kd.C_below HR2.out HB.out) | (with_reducible refine Kd.C_alloc ?_ _) | (with_reducible refine Kd.C_drewN ?_ _) | (with_reducible refine Kd.C_drew ?_))); (case side4 => exact HC2.out); rintro e w' ⟨rfl, ⟨nd, rfl⟩⟩))
        go_ret
        exact ⟨by first | rfl | (simp <;> rfl) | (simp [*] <;> rfl), by repeat (first | (with_reducible first | exact HB.out | apply below_alloc | apply pw_below_drewN | apply below_drew1 | refine below_set ?_ GE173.out | refine below_set ?_ GE176.out) | exact HB.out)⟩
       ·
        rw [if_neg c24] at H
        have c24b0 : (((rd_T28 l0 a1_5).f2) == a3) = false := beq_eq_false_iff_ne.mpr c24
        have c24b1 : (((rd_T28 l0 a1_5).f2) != a3) = true := bne_iff_ne.mpr c24
        obtain rfl := Option.some.inj H
        have hnb31 := NB176_173.out
        have hnc31 := NB173_176.out
        have hcz32_0 : wr.cell? ⟨gb176, 0, none⟩ = some (.string ((rd_T28 l0 a1_5).f0)) := (blk_cell BK176.out 0).trans rfl
        have hcz32_1 : wr.cell? ⟨gb176, 1, none⟩ = some (.slice A175_1 ((rd_T28 l0 a1_5).f1).length c175_1) := (blk_cell BK176.out 1).trans rfl
        have hcz32_2 : wr.cell? ⟨gb176, 2, none⟩ = some (.int .u8 ((rd_T28 l0 a1_5).f2)) := (blk_cell BK176.out 2).trans rfl
        have hcz32_3 : wr.cell? ⟨gb176, 3, none⟩ = some (.slice A175_3 ((rd_T28 l0 a1_5).f3).length c175_3) := (blk_cell BK176.out 3).trans rfl
        have hcz32_4 : wr.cell? ⟨gb176, 4, none⟩ = some (.slice A175_4 ((rd_T28 l0 a1_5).f4).length c175_4) := (blk_cell BK176.out 4).trans rfl
        have hcz32_5 : wr.cell? ⟨gb176, 5, none⟩ = some (.slice A175_5 ((rd_T28 l0 a1_5).f5).length c175_5) := (blk_cell BK176.out 5).trans rfl
        have hfz32_0 := blk_frozen BK176.out 0
        have hfz32_1 := blk_frozen BK176.out 1
        have hfz32_2 := blk_frozen BK176.out 2
        have hfz32_3 := blk_frozen BK176.out 3
        have hfz32_4 := blk_frozen BK176.out 4
        have hfz32_5 := blk_frozen BK176.out 5
        go_wp2
        go_ret
        exact ⟨by first | rfl | (simp <;> rfl) | (simp [*] <;> rfl), by repeat (first | (with_reducible first | exact HB.out | apply below_alloc | apply pw_below_drewN | apply below_drew1 | refine below_set ?_ GE173.out | refine below_set ?_ GE176.out) | exact HB.out)⟩
   ·
    rw [if_neg c11] at H
    exact absurd H (by simp)
  ·
   rw [if_neg c10] at H
   exact absurd H (by simp)
 ·
  replace c9 := Bool.eq_false_iff.mpr c9
  subst c9
  have H1 : (some false) = some r := by rw [if_neg (show ¬ (false = true) by decide)] at H; exact H
  clear H
  have H := H1
  clear H1
  obtain rfl := Option.some.inj H
  go_wp2
  go_ret
  exact ⟨by first | rfl | (simp <;> rfl) | (simp [*] <;> rfl), by repeat (first | (with_reducible first | exact HB.out | apply below_alloc | apply pw_below_drewN | apply below_drew1 | refine below_set ?_ GE173.out) | exact HB.out)⟩

end Go.Proofs.YtanhnfhpajaolaaDoor.F
/- slices.IndexFunc and ContainsFunc with the closures of graph.formed and graph.Type. -/
namespace Go.Proofs.YtanhnfhpajaolaaDoor.Cf
open Go Go.RowKit Go.Proofs.YtanhnfhpajaolaaDoorW.PrintWords Go.Proofs.YtanhnfhpajaolaaDoorW.PrintLast Go.Proofs.YtanhnfhpajaolaaDoorW.PrintMore Go.Proofs.YtanhnfhpajaolaaDoor.F
set_option linter.unusedVariables false
set_option linter.unusedSimpArgs false
def outB (n v : Int) : Bool := !(decide (0 ≤ v) && decide (v < n))
theorem any_take {p : Int → Bool} (l : List Int) (k : Nat) (hk : k < l.length) (h : (l.take k).any p = false) (hp : p (rd l k) = false) : (l.take (k + 1)).any p = false := by
  rw [List.take_succ_eq_append_getElem hk, List.any_append, h]
  have : rd l k = l[k] := by unfold rd; rw [Int.toNat_natCast, List.getD_eq_getElem?_getD, List.getElem?_eq_getElem hk]; rfl
  rw [this] at hp
  simp [hp]
theorem any_here {p : Int → Bool} (l : List Int) (k : Nat) (hk : k < l.length) (hp : p (rd l k) = true) : l.any p = true := by
  have : rd l k = l[k] := by unfold rd; rw [Int.toNat_natCast, List.getD_eq_getElem?_getD, List.getElem?_eq_getElem hk]; rfl
  rw [this] at hp
  exact List.any_eq_true.2 ⟨_, List.getElem_mem hk, hp⟩
def anyOut.f (l0 : List Int) (a1 : Int) : Option Bool := some (l0.any (outB a1))
theorem clo_anyOut (B : Nat) (v : Int) (A1 : Option Addr) (n c1 : Nat) (w : World) (hb : w.cell? ⟨B, 3, none⟩ = some (.slice A1 n c1)) (b : Bool) (h : outB (n : Int) v = b) :
    Calls Tryd.prog 164 #[.int .i64 v, .pointer (some ⟨B, 0, none⟩)] w fun e w' => e = .returned (.bool b) ∧ w = w' := by
  unfold outB at h
  by_cases h0 : 0 ≤ v
  · by_cases h1 : v < (n : Int)
    · go_enter Tryd.func164, Tryd.ntmps164
      go_wp2
      go_ret
      exact ⟨by rw [← h]; simp [h0, h1], rfl⟩
    · go_enter Tryd.func164, Tryd.ntmps164
      go_wp2
      go_ret
      exact ⟨by rw [← h]; simp [h1], rfl⟩
  · go_enter Tryd.func164, Tryd.ntmps164
    go_wp2
    go_ret
    exact ⟨by rw [← h]; simp [h0], rfl⟩
set_option maxHeartbeats 4000000 in
set_option maxRecDepth 10000 in
theorem idx_anyOut (B : Nat) (A : Option Addr) (c : Nat) (l : List Int) (A1 : Option Addr) (n c1 : Nat) (w : World) (hr : Kd.C (Kd.int .i64) w A l.length l) (hb : w.cell? ⟨B, 3, none⟩ = some (.slice A1 n c1)) :
    Calls Tryd.prog 159 #[.slice A l.length c, .func (.func 164) #[] #[.pointer (some ⟨B, 0, none⟩)]] w fun e w' => (∃ i : Int, e = .returned (.int .i64 i) ∧ (decide (0 ≤ i) = l.any (outB (n : Int)))) ∧ w = w' := by
  have hlen : l.length ≤ 9223372036854775807 := hr.2.1
  have HR := Aside0.mk hr
  clear hr
  go_enter Tryd.func159, Tryd.ntmps159
  go_wp2
  go_loop [8] (fun v8 => ∃ k : Nat, k ≤ l.length ∧ v8 = .int .i64 k ∧ Aside0 ((l.take k).any (outB (n : Int)) = false)) (fun v8 => l.length - (intOf v8).toNat)
  case atStart => exact ⟨0, Nat.zero_le _, rfl, ⟨by simp⟩⟩
  case round =>
    obtain ⟨k, hk, rfl, HA⟩ := hrel
    by_cases hlt : k < l.length
    · obtain ⟨ad, rfl, hx⟩ := Kd.at_int HR.out (k : Int) (by omega) (by omega)
      simp only [Int.toNat_natCast] at hx
      cases hp : (outB (n : Int)) (rd l k) with
      | true =>
        have HP := Aside0.mk hp
        clear hp
        go_wp2_with fail
        refine (clo_anyOut B _ A1 n c1 _ hb true HP.out).mono ?_
        rintro e w' ⟨rfl, rfl⟩
        go_wp2
        go_ret
        exact ⟨⟨k, rfl, by rw [any_here l k hlt HP.out]; simp⟩, rfl⟩
      | false =>
        have HP := Aside0.mk hp
        clear hp
        go_wp2_with fail
        refine (clo_anyOut B _ A1 n c1 _ hb false HP.out).mono ?_
        rintro e w' ⟨rfl, rfl⟩
        go_wp2
        go_round
        case rel => exact ⟨k + 1, by omega, by go_num, ⟨any_take l k hlt HA.out HP.out⟩⟩
        case measure => simp [intOf]; omega
    · obtain rfl : k = l.length := by omega
      go_wp2
      go_ret
      exact ⟨⟨-1, rfl, by have := HA.out; rw [List.take_length] at this; rw [this]; rfl⟩, rfl⟩
set_option maxRecDepth 10000 in
theorem anyOut.calls (A : Option Addr) (c : Nat) (l : List Int) (a1 : Int) (r : Bool) (w : World) (hr : Kd.C (Kd.int .i64) w A l.length l) (hc : l.length ≤ c) (B : Nat) (cs : Array Value) (t : TypeId) (hx : w.heap[B]? = some (.cells cs t (0, 0))) (A1 : Option Addr) (n c1 : Nat) (hv : cs[3]? = some (.slice A1 n c1)) (hn : a1 = (n : Int)) (h : anyOut.f l a1 = some r) :
    Calls Tryd.prog 113 #[.slice A l.length c, .func (.func 164) #[] #[.pointer (some ⟨B, 0, none⟩)]] w fun e w' => e = .returned (.bool r) ∧ Drawn0 w w' := by
  obtain rfl := Option.some.inj h
  subst hn
  have hb : w.cell? ⟨B, 3, none⟩ = some (.slice A1 n c1) := (blk_cell hx 3).trans hv
  clear hx hv
  have HR := Aside0.mk hr
  clear hr hc h
  go_enter Tryd.func113, Tryd.ntmps113
  go_wp2_with fail
  refine (idx_anyOut B _ _ l A1 n c1 _ HR.out hb).mono ?_
  rintro e w' ⟨⟨i, rfl, hi⟩, rfl⟩
  have HI := Aside0.mk hi
  clear hi
  by_cases h0 : 0 ≤ i
  · go_wp2
    go_ret
    exact ⟨by rw [← HI.out]; simp [h0], Drawn0.refl _⟩
  · go_wp2
    go_ret
    exact ⟨by rw [← HI.out]; simp [h0], Drawn0.refl _⟩
def anyNot.f (l0 : List Int) (a1 : Int) : Option Bool := some (l0.any (fun v => v != a1))
theorem clo_anyNot (B : Nat) (v a : Int) (w : World) (hb : w.cell? ⟨B, 0, none⟩ = some (.int .u8 a)) (b : Bool) (h : (fun v => v != a) v = b) :
    Calls Tryd.prog 138 #[.int .u8 v, .pointer (some ⟨B, 0, none⟩)] w fun e w' => e = .returned (.bool b) ∧ w = w' := by
  have h' : (v != a) = b := h
  clear h
  by_cases h0 : v = a
  · subst h0
    have h1 : b = false := by rw [← h']; simp
    subst h1
    clear h'
    go_enter Tryd.func138, Tryd.ntmps138
    go_wp2
    go_ret
    exact ⟨by simp, rfl⟩
  · have h1 : b = true := by rw [← h']; simpa using h0
    subst h1
    clear h0
    go_enter Tryd.func138, Tryd.ntmps138
    go_wp2
    go_ret
    exact ⟨rfl, rfl⟩
set_option maxHeartbeats 4000000 in
set_option maxRecDepth 10000 in
theorem idx_anyNot (B : Nat) (A : Option Addr) (c : Nat) (l : List Int) (a1 : Int) (w : World) (hr : Kd.C (Kd.int .u8) w A l.length l) (hb : w.cell? ⟨B, 0, none⟩ = some (.int .u8 a1)) :
    Calls Tryd.prog 165 #[.slice A l.length c, .func (.func 138) #[] #[.pointer (some ⟨B, 0, none⟩)]] w fun e w' => (∃ i : Int, e = .returned (.int .i64 i) ∧ (decide (0 ≤ i) = l.any (fun v => v != a1))) ∧ w = w' := by
  have hlen : l.length ≤ 9223372036854775807 := hr.2.1
  have HR := Aside0.mk hr
  clear hr
  go_enter Tryd.func165, Tryd.ntmps165
  go_wp2
  go_loop [8] (fun v8 => ∃ k : Nat, k ≤ l.length ∧ v8 = .int .i64 k ∧ Aside0 ((l.take k).any (fun v => v != a1) = false)) (fun v8 => l.length - (intOf v8).toNat)
  case atStart => exact ⟨0, Nat.zero_le _, rfl, ⟨by simp⟩⟩
  case round =>
    obtain ⟨k, hk, rfl, HA⟩ := hrel
    by_cases hlt : k < l.length
    · obtain ⟨ad, rfl, hx⟩ := Kd.at_int HR.out (k : Int) (by omega) (by omega)
      simp only [Int.toNat_natCast] at hx
      cases hp : (fun v => v != a1) (rd l k) with
      | true =>
        have HP := Aside0.mk hp
        clear hp
        go_wp2_with fail
        refine (clo_anyNot B _ a1 _ hb true HP.out).mono ?_
        rintro e w' ⟨rfl, rfl⟩
        go_wp2
        go_ret
        exact ⟨⟨k, rfl, by rw [any_here l k hlt HP.out]; simp⟩, rfl⟩
      | false =>
        have HP := Aside0.mk hp
        clear hp
        go_wp2_with fail
        refine (clo_anyNot B _ a1 _ hb false HP.out).mono ?_
        rintro e w' ⟨rfl, rfl⟩
        go_wp2
        go_round
        case rel => exact ⟨k + 1, by omega, by go_num, ⟨any_take l k hlt HA.out HP.out⟩⟩
        case measure => simp [intOf]; omega
    · obtain rfl : k = l.length := by omega
      go_wp2
      go_ret
      exact ⟨⟨-1, rfl, by have := HA.out; rw [List.take_length] at this; rw [this]; rfl⟩, rfl⟩
set_option maxRecDepth 10000 in
theorem anyNot.calls (A : Option Addr) (c : Nat) (l : List Int) (a1 : Int) (r : Bool) (w : World) (hr : Kd.C (Kd.int .u8) w A l.length l) (hc : l.length ≤ c) (B : Nat) (cs : Array Value) (t : TypeId) (hx : w.heap[B]? = some (.cells cs t (0, 0))) (hv : cs[0]? = some (.int .u8 a1)) (h : anyNot.f l a1 = some r) :
    Calls Tryd.prog 137 #[.slice A l.length c, .func (.func 138) #[] #[.pointer (some ⟨B, 0, none⟩)]] w fun e w' => e = .returned (.bool r) ∧ Drawn0 w w' := by
  obtain rfl := Option.some.inj h
  have hb : w.cell? ⟨B, 0, none⟩ = some (.int .u8 a1) := (blk_cell hx 0).trans hv
  clear hx hv
  have HR := Aside0.mk hr
  clear hr hc h
  go_enter Tryd.func137, Tryd.ntmps137
  go_wp2_with fail
  refine (idx_anyNot B _ _ l a1 _ HR.out hb).mono ?_
  rintro e w' ⟨⟨i, rfl, hi⟩, rfl⟩
  have HI := Aside0.mk hi
  clear hi
  by_cases h0 : 0 ≤ i
  · go_wp2
    go_ret
    exact ⟨by rw [← HI.out]; simp [h0], Drawn0.refl _⟩
  · go_wp2
    go_ret
    exact ⟨by rw [← HI.out]; simp [h0], Drawn0.refl _⟩
end Go.Proofs.YtanhnfhpajaolaaDoor.Cf
/- graph.formed. -/
namespace Go.Proofs.YtanhnfhpajaolaaDoor.Fo
open Go Go.RowKit Go.Proofs.YtanhnfhpajaolaaDoorW.PrintWords Go.Proofs.YtanhnfhpajaolaaDoorW.PrintLast Go.Proofs.YtanhnfhpajaolaaDoorW.PrintMore Go.Proofs.YtanhnfhpajaolaaDoor.F Go.Proofs.YtanhnfhpajaolaaDoor.Cf
set_option linter.unusedVariables false
set_option linter.unusedSimpArgs false
theorem addr0 (b k : Nat) : (⟨b, 0, none⟩ : Addr).add k = ⟨b, k, none⟩ := by
  unfold Addr.add
  by_cases h : k = 0
  · subst h; simp
  · simp [h]
theorem fcells {w : World} (h : Kd.C k181 w (some ⟨2, 0, none⟩) 11 formsT) (k : Nat) (hk : k < 11) :
    w.cell? ⟨2, k * 5, none⟩ = some (.bool (rd_T181 formsT (k : Int)).f0) ∧ w.cell? ⟨2, k * 5 + 1, none⟩ = some (.bool (rd_T181 formsT (k : Int)).f1) ∧ w.cell? ⟨2, k * 5 + 2, none⟩ = some (.bool (rd_T181 formsT (k : Int)).f2) ∧ w.cell? ⟨2, k * 5 + 3, none⟩ = some (.bool (rd_T181 formsT (k : Int)).f3) ∧ w.cell? ⟨2, k * 5 + 4, none⟩ = some (.int .i64 (rd_T181 formsT (k : Int)).f4) := by
  obtain ⟨ad, e, h0, h1, h2, h3, h4⟩ := at_T181 h (k : Int) (by omega) (by omega)
  injection e with e
  subst e
  simp only [Int.toNat_natCast, addr0] at h0 h1 h2 h3 h4
  exact ⟨h0, h1, h2, h3, h4⟩
def inB (k n : Int) : Bool := decide (0 ≤ k) && decide (k < n)
def formedB (nv na kind op dst : Int) (args : List Int) (bits ref : Int) : Bool :=
  decide (1 ≤ kind) && decide (kind ≤ 10) && (if (rd_T181 formsT kind).f0 then inB dst nv else dst == 0) && ((rd_T181 formsT kind).f1 || op == 0) && ((rd_T181 formsT kind).f2 || bits == 0) && ((rd_T181 formsT kind).f3 || ref == 0) && (decide ((rd_T181 formsT kind).f4 < 0) || (args.length : Int) == (rd_T181 formsT kind).f4) && (!((rd_T181 formsT kind).f3 && kind != 9) || inB ref na) && !(args.any (outB nv))

set_option maxHeartbeats 4000000 in
set_option maxRecDepth 100000 in
theorem formed_low (nm : ByteArray) (A1 A3 A4 A5 : Option Addr) (n1 n3 n4 n5 c1 c3 c4 c5 : Nat) (res : Int) (kind op dst : Int) (Aa : Option Addr) (ca : Nat) (args : List Int) (bits ref : Int) (w : World)
    (hk : kind < 1 ∨ 10 < kind) :
    Calls Tryd.prog 135 #[.agg #[.string nm, .slice A1 n1 c1, .int .u8 res, .slice A3 n3 c3, .slice A4 n4 c4, .slice A5 n5 c5], .agg #[.int .u8 kind, .int .u8 op, .int .i64 dst, .slice Aa args.length ca, .int .u64 bits, .int .i64 ref]] w fun e w' => e = .returned (.bool false) ∧ Below w.heap.size w w' := by
  rcases hk with h | h
  · go_enter Tryd.func135, Tryd.ntmps135
    go_wp2
    go_ret
    exact ⟨rfl, ((Below.refl _ _).alloc (Nat.le_refl _) _).alloc (by simp) _⟩
  · have h' : ¬ (kind < 1) := by omega
    go_enter Tryd.func135, Tryd.ntmps135
    go_wp2
    go_ret
    exact ⟨rfl, ((Below.refl _ _).alloc (Nat.le_refl _) _).alloc (by simp) _⟩
set_option maxHeartbeats 40000000 in
set_option maxRecDepth 100000 in
theorem formed_calls (nm : ByteArray) (A1 A3 A4 A5 : Option Addr) (n1 n3 n4 n5 c1 c3 c4 c5 : Nat) (res : Int) (kind op dst : Int) (Aa : Option Addr) (ca : Nat) (args : List Int) (bits ref : Int) (w : World)
    (hg : Kd.C k181 w (some ⟨2, 0, none⟩) 11 formsT) (hr : Kd.C (Kd.int .i64) w Aa args.length args) (hc : args.length ≤ ca) :
    Calls Tryd.prog 135 #[.agg #[.string nm, .slice A1 n1 c1, .int .u8 res, .slice A3 n3 c3, .slice A4 n4 c4, .slice A5 n5 c5], .agg #[.int .u8 kind, .int .u8 op, .int .i64 dst, .slice Aa args.length ca, .int .u64 bits, .int .i64 ref]] w fun e w' => e = .returned (.bool (formedB n3 n4 kind op dst args bits ref)) ∧ Below w.heap.size w w' := by
  by_cases hk : kind < 1 ∨ 10 < kind
  · have : formedB n3 n4 kind op dst args bits ref = false := by
      unfold formedB
      rcases hk with h | h
      · have : decide (1 ≤ kind) = false := by simp; omega
        simp [this]
      · have : decide (kind ≤ 10) = false := by simp; omega
        simp [this]
    rw [this]
    exact formed_low nm A1 A3 A4 A5 n1 n3 n4 n5 c1 c3 c4 c5 res kind op dst Aa ca args bits ref w hk
  obtain ⟨k, rfl⟩ : ∃ k : Nat, kind = (k : Int) := ⟨kind.toNat, by omega⟩
  have hk1 : k < 11 := by omega
  obtain ⟨f0, f1, f2, f3, f4⟩ := fcells hg k hk1
  have hlt : 2 < w.heap.size := World.block_lt_of_cell? _ _ f0
  have HR := Aside0.mk hr
  have HC := Aside0.mk hc
  clear hg hr hc
  rcases (show k = 1 ∨ k = 2 ∨ k = 3 ∨ k = 4 ∨ k = 5 ∨ k = 6 ∨ k = 7 ∨ k = 8 ∨ k = 9 ∨ k = 10 by omega) with rfl | rfl | rfl | rfl | rfl | rfl | rfl | rfl | rfl | rfl
  all_goals
    clear hk hk1
    simp only [formsT, rd_T181] at f0 f1 f2 f3 f4
    go_enter Tryd.func135, Tryd.ntmps135
    go_wp2_with (first | (go_at_call 55; go_in))
  all_goals first
    | (go_ret; exact ⟨by simp_all [formedB, inB, rd_T181, formsT] <;> (intros; omega), by repeat (first | exact Below.refl _ _ | (with_reducible apply below_alloc) | (with_reducible apply pw_below_drewN))⟩)
    | (refine (anyOut.calls _ _ args n3 _ _ (by repeat (first | exact HR.out | (with_reducible refine Kd.C_alloc ?_ _))) HC.out w.heap.size _ _ (by repeat (first | exact blk_new _ _ | refine blk_alloc ?_ _)) A3 n3 c3 rfl rfl rfl).mono ?_
       rintro e w' ⟨rfl, ⟨nd, rfl⟩⟩
       go_wp2
       go_ret
       exact ⟨by simp_all [formedB, inB, rd_T181, formsT] <;> (intros; omega), by repeat (first | exact Below.refl _ _ | (with_reducible apply below_alloc) | (with_reducible apply pw_below_drewN))⟩)
    | skip
end Go.Proofs.YtanhnfhpajaolaaDoor.Fo
