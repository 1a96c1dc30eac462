-- printed by px2.py, a program of this session, by way of the kit's print; Lean checks it
import Derived.Test.YtcmbpboeilojmaaGreatFx0
namespace Go.Proofs.YtcmbpboeilojmaaGreat.F
open Go.RowKit Go.Proofs.YtcmbpboeilojmaaGreatW.PrintWords Go.Proofs.YtcmbpboeilojmaaGreatW.PrintLast Go.Proofs.YtcmbpboeilojmaaGreatW.PrintMore
attribute [local go_sem] max2_int min2_int max_two min_two max_three min_three max_four min_four   -- for this text's walks alone
set_option linter.unusedVariables false
set_option linter.unusedSimpArgs false

/-! ### smithyref25_Ordered: function 57 -/
mutual
def smithyref25_Ordered.l0 : Nat → List (S36) → Int → Option (Bool)
  | 0, _, _ => none
  | k + 1, x0, x3 => if x3 < (x0.length : Int) then (if 0 ≤ x3 then (if ((rd_T36 x0 x3).f1) < (-1) then (smithyref25_Ordered.j1 k x0 x3 true) else (if ((rd_T36 x0 x3).f2) < ((rd_T36 x0 x3).f1) then (smithyref25_Ordered.j1 k x0 x3 true) else (if ((rd_T36 x0 x3).f2) > 1099511627776 then (smithyref25_Ordered.j1 k x0 x3 true) else (smithyref25_Ordered.j1 k x0 x3 (decide (((rd_T36 x0 x3).f0) < 0)))))) else (none)) else (some true)
def smithyref25_Ordered.j1 : Nat → List (S36) → Int → Bool → Option (Bool)
  | 0, _, _, _ => none
  | k + 1, x0, x3, x45 => if x45 = true then (some false) else (if x3 > 0 then (if 0 ≤ x3 then (if x3 < (x0.length : Int) then (if 0 ≤ (wrap64 (x3 - 1)) then (if (wrap64 (x3 - 1)) < (x0.length : Int) then (if ((rd_T36 x0 x3).f1) < ((rd_T36 x0 (wrap64 (x3 - 1))).f1) then (smithyref25_Ordered.j2 k x0 x3 true) else (if ((rd_T36 x0 x3).f1) = ((rd_T36 x0 (wrap64 (x3 - 1))).f1) then (smithyref25_Ordered.j2 k x0 x3 (decide (((rd_T36 x0 x3).f0) ≤ ((rd_T36 x0 (wrap64 (x3 - 1))).f0)))) else (smithyref25_Ordered.j2 k x0 x3 false))) else (none)) else (none)) else (none)) else (none)) else (smithyref25_Ordered.j2 k x0 x3 false))
def smithyref25_Ordered.j2 : Nat → List (S36) → Int → Bool → Option (Bool)
  | 0, _, _, _ => none
  | k + 1, x0, x3, x89 => if x89 = true then (some false) else (smithyref25_Ordered.l1 k x0 x3 0)
def smithyref25_Ordered.l1 : Nat → List (S36) → Int → Int → Option (Bool)
  | 0, _, _, _ => none
  | k + 1, x0, x3, x4 => if x4 < x3 then (if 0 ≤ x4 then (if x4 < (x0.length : Int) then (if 0 ≤ x3 then (if x3 < (x0.length : Int) then (if ((rd_T36 x0 x4).f0) = ((rd_T36 x0 x3).f0) then (some false) else (smithyref25_Ordered.l1 k x0 x3 (wrap64 (x4 + 1)))) else (none)) else (none)) else (none)) else (none)) else (smithyref25_Ordered.l0 k x0 (wrap64 (x3 + 1)))
end
def smithyref25_Ordered.f (k : Nat) (l0 : List (S36)) : Option (Bool) := smithyref25_Ordered.l0 k l0 0
theorem smithyref25_Ordered.mono_l : ∀ k, (∀ y0 y1, LeO (smithyref25_Ordered.l0 k y0 y1) (smithyref25_Ordered.l0 (k + 1) y0 y1)) ∧ (∀ y0 y1 y2, LeO (smithyref25_Ordered.j1 k y0 y1 y2) (smithyref25_Ordered.j1 (k + 1) y0 y1 y2)) ∧ (∀ y0 y1 y2, LeO (smithyref25_Ordered.j2 k y0 y1 y2) (smithyref25_Ordered.j2 (k + 1) y0 y1 y2)) ∧ (∀ y0 y1 y2, LeO (smithyref25_Ordered.l1 k y0 y1 y2) (smithyref25_Ordered.l1 (k + 1) y0 y1 y2))
  | 0 => ⟨fun _ _ r h => by simp [smithyref25_Ordered.l0] at h, fun _ _ _ r h => by simp [smithyref25_Ordered.j1] at h, fun _ _ _ r h => by simp [smithyref25_Ordered.j2] at h, fun _ _ _ r h => by simp [smithyref25_Ordered.l1] at h⟩
  | k + 1 => by
    obtain ⟨ih0, ih1, ih2, ih3⟩ := smithyref25_Ordered.mono_l k
    refine ⟨?_, ?_, ?_, ?_⟩
    · intro y0 y1
      unfold smithyref25_Ordered.l0
      repeat' first
      | (with_reducible exact ih0 _ _)
      | (with_reducible exact ih1 _ _ _)
      | (with_reducible exact ih2 _ _ _)
      | (with_reducible exact ih3 _ _ _)
      | (with_reducible exact LeO.refl _)
      | (with_reducible exact LeO.none _)
      | (with_reducible refine LeO.ite ?_ ?_)
      | (with_reducible refine LeO.bind ?_ (fun _ => ?_))
      | exact ih0 _ _
      | exact ih1 _ _ _
      | exact ih2 _ _ _
      | exact ih3 _ _ _
      | exact LeO.none _
      | refine LeO.ite ?_ ?_
      | refine LeO.bind ?_ (fun _ => ?_)
    · intro y0 y1 y2
      unfold smithyref25_Ordered.j1
      repeat' first
      | (with_reducible exact ih0 _ _)
      | (with_reducible exact ih1 _ _ _)
      | (with_reducible exact ih2 _ _ _)
      | (with_reducible exact ih3 _ _ _)
      | (with_reducible exact LeO.refl _)
      | (with_reducible exact LeO.none _)
      | (with_reducible refine LeO.ite ?_ ?_)
      | (with_reducible refine LeO.bind ?_ (fun _ => ?_))
      | exact ih0 _ _
      | exact ih1 _ _ _
      | exact ih2 _ _ _
      | exact ih3 _ _ _
      | exact LeO.none _
      | refine LeO.ite ?_ ?_
      | refine LeO.bind ?_ (fun _ => ?_)
    · intro y0 y1 y2
      unfold smithyref25_Ordered.j2
      repeat' first
      | (with_reducible exact ih0 _ _)
      | (with_reducible exact ih1 _ _ _)
      | (with_reducible exact ih2 _ _ _)
      | (with_reducible exact ih3 _ _ _)
      | (with_reducible exact LeO.refl _)
      | (with_reducible exact LeO.none _)
      | (with_reducible refine LeO.ite ?_ ?_)
      | (with_reducible refine LeO.bind ?_ (fun _ => ?_))
      | exact ih0 _ _
      | exact ih1 _ _ _
      | exact ih2 _ _ _
      | exact ih3 _ _ _
      | exact LeO.none _
      | refine LeO.ite ?_ ?_
      | refine LeO.bind ?_ (fun _ => ?_)
    · intro y0 y1 y2
      unfold smithyref25_Ordered.l1
      repeat' first
      | (with_reducible exact ih0 _ _)
      | (with_reducible exact ih1 _ _ _)
      | (with_reducible exact ih2 _ _ _)
      | (with_reducible exact ih3 _ _ _)
      | (with_reducible exact LeO.refl _)
      | (with_reducible exact LeO.none _)
      | (with_reducible refine LeO.ite ?_ ?_)
      | (with_reducible refine LeO.bind ?_ (fun _ => ?_))
      | exact ih0 _ _
      | exact ih1 _ _ _
      | exact ih2 _ _ _
      | exact ih3 _ _ _
      | exact LeO.none _
      | refine LeO.ite ?_ ?_
      | refine LeO.bind ?_ (fun _ => ?_)
theorem smithyref25_Ordered.mono : ∀ a0 k, LeO (smithyref25_Ordered.f k a0) (smithyref25_Ordered.f (k + 1) a0) := by
  intro a0 k
  obtain ⟨ih0, ih1, ih2, ih3⟩ := smithyref25_Ordered.mono_l k
  unfold smithyref25_Ordered.f
  repeat' first
      | (with_reducible exact ih0 _ _)
      | (with_reducible exact ih1 _ _ _)
      | (with_reducible exact ih2 _ _ _)
      | (with_reducible exact ih3 _ _ _)
      | (with_reducible exact LeO.refl _)
      | (with_reducible exact LeO.none _)
      | (with_reducible refine LeO.ite ?_ ?_)
      | (with_reducible refine LeO.bind ?_ (fun _ => ?_))
      | exact ih0 _ _
      | exact ih1 _ _ _
      | exact ih2 _ _ _
      | exact ih3 _ _ _
      | exact LeO.none _
      | refine LeO.ite ?_ ?_
      | refine LeO.bind ?_ (fun _ => ?_)
set_option maxHeartbeats 8000000 in
set_option maxRecDepth 100000 in
theorem smithyref25_Ordered.calls (k : Nat) (A0 : Option Addr) (c0 : Nat) (l0 : List (S36)) (r : Bool) (w : World) (hr0 : Kd.C k36 w A0 l0.length l0) (hc0 : l0.length ≤ c0) (h : smithyref25_Ordered.f k l0 = some r) :
    Calls Tryz.prog 57 #[.slice A0 l0.length c0] w fun e w' => e = .returned (.bool r) ∧ Drawn0 w w' := by
 have HR0 := Aside0.mk hr0
 have HC0 := Aside0.mk hc0
 clear hr0 hc0
 have H : (smithyref25_Ordered.l0 k l0 0) = some r := h
 clear h
 have H' := Aside0.mk H
 clear H
 go_enter Tryz.func57, Tryz.ntmps57
 go_wp2
 repeat (go_quiet (fail); try go_wp2)
 go_loopg [3] k (fun kq v3 w' => ∃ (x3_1 : Int), v3 = .int .i64 x3_1 ∧ Aside0 (smithyref25_Ordered.l0 kq l0 x3_1 = some r) ∧ Aside0 (kq ≤ k) ∧ Drawn0 w w')
 case atStart => exact ⟨(0), (by first | rfl | (simp; done) | (simp [*]; done)), H', ⟨Nat.le_refl _⟩, by repeat (first | exact Drawn0.refl _ | apply Drawn0.step)⟩
 case round =>
  clear H'
  obtain ⟨x3_1, rfl, HA, HK1, ⟨m1, rfl⟩⟩ := hrel
  cases gk with
  | zero => exact absurd HA.out (by simp [smithyref25_Ordered.l0])
  | succ k1 =>
   have H := HA.out
   clear HA
   simp only [smithyref25_Ordered.l0] at H
   by_cases c2 : x3_1 < (l0.length : Int)
   ·
    rw [if_pos c2] at H
    have c2b0 : decide (x3_1 < (l0.length : Int)) = true := decide_eq_true c2
    clear c2
    have HC3 := Aside0.mk H
    clear H
    go_upto_region 4 with (fail)
    repeat (go_quiet (fail); go_upto_region 4 with (fail))
    go_cut [45] (fun v45 wc => ∃ (kq : Nat) (x45_2 : Bool), v45 = .bool x45_2 ∧ Aside0 (smithyref25_Ordered.j1 kq l0 x3_1 x45_2 = some r) ∧ Aside0 (kq ≤ k1) ∧ Drawn0 w wc)
    case first =>
     have H := HC3.out
     clear HC3
     by_cases c4 : 0 ≤ x3_1
     ·
      rw [if_pos c4] at H
      have c4b0 : decide (0 ≤ x3_1) = true := decide_eq_true c4
      clear c4
      (first | rw [c4b0] | (simp only [i64_w, i32_w]; rw [c4b0]) | skip)
      by_cases c5 : ((rd_T36 l0 x3_1).f1) < (-1)
      ·
       rw [if_pos c5] at H
       have c5b0 : decide (((rd_T36 l0 x3_1).f1) < (-1)) = true := decide_eq_true c5
       clear c5
       have H' := Aside0.mk H
       clear H
       have p120 : 0 ≤ (x3_1 : Int) := of_decide_eq_true (by first | (with_reducible assumption) | assumption)
       have q120 : x3_1 < (l0.length : Int) := of_decide_eq_true (by first | (with_reducible assumption) | assumption)
       obtain ⟨ad120, e120, hx120_0, hx120_1, hx120_2⟩ := at_T36 HR0.out x3_1 p120 q120
       cases e120
       replace p120 := eq_true p120
       replace q120 := eq_true q120
       go_wp2
       repeat (go_quiet (fail); try go_wp2)
       go_meet
       case rel => exact ⟨_, (true), (by first | rfl | (simp; done) | (simp [*]; done)), H', ⟨by have := HK1.out; first | omega | exact Nat.le_refl _⟩, by repeat (first | exact Drawn0.refl _ | apply Drawn0.step)⟩
      ·
       rw [if_neg c5] at H
       have c5b0 : decide (((rd_T36 l0 x3_1).f1) < (-1)) = false := decide_eq_false c5
       clear c5
       by_cases c6 : ((rd_T36 l0 x3_1).f2) < ((rd_T36 l0 x3_1).f1)
       ·
        rw [if_pos c6] at H
        have c6b0 : decide (((rd_T36 l0 x3_1).f2) < ((rd_T36 l0 x3_1).f1)) = true := decide_eq_true c6
        clear c6
        have H' := Aside0.mk H
        clear H
        have p120 : 0 ≤ (x3_1 : Int) := of_decide_eq_true (by first | (with_reducible assumption) | assumption)
        have q120 : x3_1 < (l0.length : Int) := of_decide_eq_true (by first | (with_reducible assumption) | assumption)
        obtain ⟨ad120, e120, hx120_0, hx120_1, hx120_2⟩ := at_T36 HR0.out x3_1 p120 q120
        cases e120
        replace p120 := eq_true p120
        replace q120 := eq_true q120
        have p121 : 0 ≤ (x3_1 : Int) := of_decide_eq_true (by first | (with_reducible assumption) | assumption)
        have q121 : x3_1 < (l0.length : Int) := of_decide_eq_true (by first | (with_reducible assumption) | assumption)
        obtain ⟨ad121, e121, hx121_0, hx121_1, hx121_2⟩ := at_T36 HR0.out x3_1 p121 q121
        obtain rfl : ad120 = ad121 := (by injection e121)
        replace p121 := eq_true p121
        replace q121 := eq_true q121
        have p122 : 0 ≤ (x3_1 : Int) := of_decide_eq_true (by first | (with_reducible assumption) | assumption)
        have q122 : x3_1 < (l0.length : Int) := of_decide_eq_true (by first | (with_reducible assumption) | assumption)
        obtain ⟨ad122, e122, hx122_0, hx122_1, hx122_2⟩ := at_T36 HR0.out x3_1 p122 q122
        obtain rfl : ad120 = ad122 := (by injection e122)
        replace p122 := eq_true p122
        replace q122 := eq_true q122
        go_wp2
        repeat (go_quiet (fail); try go_wp2)
        go_meet
        case rel => exact ⟨_, (true), (by first | rfl | (simp; done) | (simp [*]; done)), H', ⟨by have := HK1.out; first | omega | exact Nat.le_refl _⟩, by repeat (first | exact Drawn0.refl _ | apply Drawn0.step)⟩
       ·
        rw [if_neg c6] at H
        have c6b0 : decide (((rd_T36 l0 x3_1).f2) < ((rd_T36 l0 x3_1).f1)) = false := decide_eq_false c6
        clear c6
        by_cases c7 : ((rd_T36 l0 x3_1).f2) > 1099511627776
        ·
         rw [if_pos c7] at H
         have c7b0 : decide (1099511627776 < ((rd_T36 l0 x3_1).f2)) = true := decide_eq_true c7
         clear c7
         have H' := Aside0.mk H
         clear H
         have p120 : 0 ≤ (x3_1 : Int) := of_decide_eq_true (by first | (with_reducible assumption) | assumption)
         have q120 : x3_1 < (l0.length : Int) := of_decide_eq_true (by first | (with_reducible assumption) | assumption)
         obtain ⟨ad120, e120, hx120_0, hx120_1, hx120_2⟩ := at_T36 HR0.out x3_1 p120 q120
         cases e120
         replace p120 := eq_true p120
         replace q120 := eq_true q120
         have p121 : 0 ≤ (x3_1 : Int) := of_decide_eq_true (by first | (with_reducible assumption) | assumption)
         have q121 : x3_1 < (l0.length : Int) := of_decide_eq_true (by first | (with_reducible assumption) | assumption)
         obtain ⟨ad121, e121, hx121_0, hx121_1, hx121_2⟩ := at_T36 HR0.out x3_1 p121 q121
         obtain rfl : ad120 = ad121 := (by injection e121)
         replace p121 := eq_true p121
         replace q121 := eq_true q121
         have p122 : 0 ≤ (x3_1 : Int) := of_decide_eq_true (by first | (with_reducible assumption) | assumption)
         have q122 : x3_1 < (l0.length : Int) := of_decide_eq_true (by first | (with_reducible assumption) | assumption)
         obtain ⟨ad122, e122, hx122_0, hx122_1, hx122_2⟩ := at_T36 HR0.out x3_1 p122 q122
         obtain rfl : ad120 = ad122 := (by injection e122)
         replace p122 := eq_true p122
         replace q122 := eq_true q122
         have p123 : 0 ≤ (x3_1 : Int) := of_decide_eq_true (by first | (with_reducible assumption) | assumption)
         have q123 : x3_1 < (l0.length : Int) := of_decide_eq_true (by first | (with_reducible assumption) | assumption)
         obtain ⟨ad123, e123, hx123_0, hx123_1, hx123_2⟩ := at_T36 HR0.out x3_1 p123 q123
         obtain rfl : ad120 = ad123 := (by injection e123)
         replace p123 := eq_true p123
         replace q123 := eq_true q123
         go_wp2
         repeat (go_quiet (fail); try go_wp2)
         go_meet
         case rel => exact ⟨_, (true), (by first | rfl | (simp; done) | (simp [*]; done)), H', ⟨by have := HK1.out; first | omega | exact Nat.le_refl _⟩, by repeat (first | exact Drawn0.refl _ | apply Drawn0.step)⟩
        ·
         rw [if_neg c7] at H
         have c7b0 : decide (1099511627776 < ((rd_T36 l0 x3_1).f2)) = false := decide_eq_false c7
         clear c7
         have H' := Aside0.mk H
         clear H
         have p120 : 0 ≤ (x3_1 : Int) := of_decide_eq_true (by first | (with_reducible assumption) | assumption)
         have q120 : x3_1 < (l0.length : Int) := of_decide_eq_true (by first | (with_reducible assumption) | assumption)
         obtain ⟨ad120, e120, hx120_0, hx120_1, hx120_2⟩ := at_T36 HR0.out x3_1 p120 q120
         cases e120
         replace p120 := eq_true p120
         replace q120 := eq_true q120
         have p121 : 0 ≤ (x3_1 : Int) := of_decide_eq_true (by first | (with_reducible assumption) | assumption)
         have q121 : x3_1 < (l0.length : Int) := of_decide_eq_true (by first | (with_reducible assumption) | assumption)
         obtain ⟨ad121, e121, hx121_0, hx121_1, hx121_2⟩ := at_T36 HR0.out x3_1 p121 q121
         obtain rfl : ad120 = ad121 := (by injection e121)
         replace p121 := eq_true p121
         replace q121 := eq_true q121
         have p122 : 0 ≤ (x3_1 : Int) := of_decide_eq_true (by first | (with_reducible assumption) | assumption)
         have q122 : x3_1 < (l0.length : Int) := of_decide_eq_true (by first | (with_reducible assumption) | assumption)
         obtain ⟨ad122, e122, hx122_0, hx122_1, hx122_2⟩ := at_T36 HR0.out x3_1 p122 q122
         obtain rfl : ad120 = ad122 := (by injection e122)
         replace p122 := eq_true p122
         replace q122 := eq_true q122
         have p123 : 0 ≤ (x3_1 : Int) := of_decide_eq_true (by first | (with_reducible assumption) | assumption)
         have q123 : x3_1 < (l0.length : Int) := of_decide_eq_true (by first | (with_reducible assumption) | assumption)
         obtain ⟨ad123, e123, hx123_0, hx123_1, hx123_2⟩ := at_T36 HR0.out x3_1 p123 q123
         obtain rfl : ad120 = ad123 := (by injection e123)
         replace p123 := eq_true p123
         replace q123 := eq_true q123
         have p124 : 0 ≤ (x3_1 : Int) := of_decide_eq_true (by first | (with_reducible assumption) | assumption)
         have q124 : x3_1 < (l0.length : Int) := of_decide_eq_true (by first | (with_reducible assumption) | assumption)
         obtain ⟨ad124, e124, hx124_0, hx124_1, hx124_2⟩ := at_T36 HR0.out x3_1 p124 q124
         obtain rfl : ad120 = ad124 := (by injection e124)
         replace p124 := eq_true p124
         replace q124 := eq_true q124
         go_wp2
         repeat (go_quiet (fail); try go_wp2)
         go_meet
         case rel => exact ⟨_, (decide (((rd_T36 l0 x3_1).f0) < 0)), (by first | rfl | (simp; done) | (simp [*]; done)), H', ⟨by have := HK1.out; first | omega | exact Nat.le_refl _⟩, by repeat (first | exact Drawn0.refl _ | apply Drawn0.step)⟩
     ·
      rw [if_neg c4] at H
      exact absurd H (by simp)
    case rest =>
     clear HC3
     try clear p1
     try clear q1
     try clear hx1
     try clear c2
     try clear c2b0
     try clear p2
     try clear c4
     try clear c4b0
     try clear c5
     try clear c5b0
     try clear c6
     try clear c6b0
     try clear c7
     try clear c7b0
     try clear hx120_0
     try clear hx120_1
     try clear hx120_2
     try clear hx121_0
     try clear hx121_1
     try clear hx121_2
     try clear hx122_0
     try clear hx122_1
     try clear hx122_2
     try clear hx123_0
     try clear hx123_1
     try clear hx123_2
     try clear hx124_0
     try clear hx124_1
     try clear hx124_2
     try clear p120
     try clear p121
     try clear p122
     try clear p123
     try clear p124
     try clear q120
     try clear q121
     try clear q122
     try clear q123
     try clear q124
     obtain ⟨kq, x45_2, rfl, HA, HJ2, ⟨mc2, rfl⟩⟩ := hcut
     cases kq with
     | zero => exact absurd HA.out (by simp [smithyref25_Ordered.j1])
     | succ kj2 =>
      have H := HA.out
      clear HA
      simp only [smithyref25_Ordered.j1] at H
      by_cases c8 : x45_2 = true
      ·
       subst c8
       have H1 : (some false) = some r := by rw [if_pos rfl] at H; exact H
       clear H
       have H := H1
       clear H1
       obtain rfl := Option.some.inj H
       go_wp2
       repeat (go_quiet (fail); try go_wp2)
       go_ret
       exact ⟨by first | rfl | (simp; done) | (simp [*]; done), by repeat (first | exact Drawn0.refl _ | apply Drawn0.step)⟩
      ·
       replace c8 := Bool.eq_false_iff.mpr c8
       subst c8
       have H1 : (if x3_1 > 0 then (if 0 ≤ x3_1 then (if x3_1 < (l0.length : Int) then (if 0 ≤ (wrap64 (x3_1 - 1)) then (if (wrap64 (x3_1 - 1)) < (l0.length : Int) then (if ((rd_T36 l0 x3_1).f1) < ((rd_T36 l0 (wrap64 (x3_1 - 1))).f1) then (smithyref25_Ordered.j2 kj2 l0 x3_1 true) else (if ((rd_T36 l0 x3_1).f1) = ((rd_T36 l0 (wrap64 (x3_1 - 1))).f1) then (smithyref25_Ordered.j2 kj2 l0 x3_1 (decide (((rd_T36 l0 x3_1).f0) ≤ ((rd_T36 l0 (wrap64 (x3_1 - 1))).f0)))) else (smithyref25_Ordered.j2 kj2 l0 x3_1 false))) else (none)) else (none)) else (none)) else (none)) else (smithyref25_Ordered.j2 kj2 l0 x3_1 false)) = some r := by rw [if_neg (show ¬ (false = true) by decide)] at H; exact H
       clear H
       have H := H1
       clear H1
       have HC9 := Aside0.mk H
       clear H
       go_upto_region 6 with (fail)
       repeat (go_quiet (fail); go_upto_region 6 with (fail))
       go_cut [89] (fun v89 wc => ∃ (kq : Nat) (x89_8 : Bool), v89 = .bool x89_8 ∧ Aside0 (smithyref25_Ordered.j2 kq l0 x3_1 x89_8 = some r) ∧ Aside0 (kq ≤ kj2) ∧ Drawn0 w wc)
       case first =>
        have H := HC9.out
        clear HC9
        by_cases c10 : x3_1 > 0
        ·
         rw [if_pos c10] at H
         have c10b0 : decide (0 < x3_1) = true := decide_eq_true c10
         clear c10
         (first | rw [c10b0] | (simp only [i64_w, i32_w]; rw [c10b0]) | skip)
         by_cases c11 : 0 ≤ x3_1
         ·
          rw [if_pos c11] at H
          have c11b0 : decide (0 ≤ x3_1) = true := decide_eq_true c11
          clear c11
          by_cases c12 : x3_1 < (l0.length : Int)
          ·
           rw [if_pos c12] at H
           have c12b0 : decide (x3_1 < (l0.length : Int)) = true := decide_eq_true c12
           clear c12
           obtain ⟨ji13, hji13⟩ : ∃ j_ : Int, (wrap64 (x3_1 - 1)) = j_ := ⟨_, rfl⟩
           replace H : (if 0 ≤ (ji13) then (if (ji13) < (l0.length : Int) then (if ((rd_T36 l0 x3_1).f1) < ((rd_T36 l0 (ji13)).f1) then (smithyref25_Ordered.j2 kj2 l0 x3_1 true) else (if ((rd_T36 l0 x3_1).f1) = ((rd_T36 l0 (ji13)).f1) then (smithyref25_Ordered.j2 kj2 l0 x3_1 (decide (((rd_T36 l0 x3_1).f0) ≤ ((rd_T36 l0 (ji13)).f0)))) else (smithyref25_Ordered.j2 kj2 l0 x3_1 false))) else (none)) else (none)) = some r := by first | (rw [hji13] at H; exact H) | (simp only [hji13] at H ⊢; exact H)
           have hji13w : (IntKind.i64.wrap (x3_1 - 1)) = ji13 := (i64_w _).trans hji13
           by_cases c14 : 0 ≤ (ji13)
           ·
            rw [if_pos c14] at H
            have c14b0 : decide (0 ≤ (ji13)) = true := decide_eq_true c14
            clear c14
            by_cases c15 : (ji13) < (l0.length : Int)
            ·
             rw [if_pos c15] at H
             have c15b0 : decide ((ji13) < (l0.length : Int)) = true := decide_eq_true c15
             clear c15
             by_cases c16 : ((rd_T36 l0 x3_1).f1) < ((rd_T36 l0 (ji13)).f1)
             ·
              rw [if_pos c16] at H
              have c16b0 : decide (((rd_T36 l0 x3_1).f1) < ((rd_T36 l0 (ji13)).f1)) = true := decide_eq_true c16
              clear c16
              have H' := Aside0.mk H
              clear H
              have p125 : 0 ≤ (x3_1 : Int) := of_decide_eq_true (by first | (with_reducible assumption) | assumption)
              have q125 : x3_1 < (l0.length : Int) := of_decide_eq_true (by first | (with_reducible assumption) | assumption)
              obtain ⟨ad125, e125, hx125_0, hx125_1, hx125_2⟩ := at_T36 HR0.out x3_1 p125 q125
              cases e125
              replace p125 := eq_true p125
              replace q125 := eq_true q125
              have p126 : 0 ≤ ((ji13) : Int) := of_decide_eq_true (by first | (with_reducible assumption) | assumption)
              have q126 : (ji13) < (l0.length : Int) := of_decide_eq_true (by first | (with_reducible assumption) | assumption)
              obtain ⟨ad126, e126, hx126_0, hx126_1, hx126_2⟩ := at_T36 HR0.out (ji13) p126 q126
              obtain rfl : ad125 = ad126 := (by injection e126)
              replace p126 := eq_true p126
              replace q126 := eq_true q126
              go_wp2
              repeat (go_quiet (fail); try go_wp2)
              go_meet
              case rel => exact ⟨_, (true), (by first | rfl | (simp; done) | (simp [*]; done)), H', ⟨by have := HK1.out; have := HJ2.out; first | omega | exact Nat.le_refl _⟩, by repeat (first | exact Drawn0.refl _ | apply Drawn0.step)⟩
             ·
              rw [if_neg c16] at H
              have c16b0 : decide (((rd_T36 l0 x3_1).f1) < ((rd_T36 l0 (ji13)).f1)) = false := decide_eq_false c16
              clear c16
              by_cases c17 : ((rd_T36 l0 x3_1).f1) = ((rd_T36 l0 (ji13)).f1)
              ·
               rw [if_pos c17] at H
               have c17b0 : (((rd_T36 l0 x3_1).f1) == ((rd_T36 l0 (ji13)).f1)) = true := beq_iff_eq.mpr c17
               have c17b1 : (((rd_T36 l0 x3_1).f1) != ((rd_T36 l0 (ji13)).f1)) = false := bne_eq_false_iff_eq.mpr c17
               clear c17
               have H' := Aside0.mk H
               clear H
               have p125 : 0 ≤ (x3_1 : Int) := of_decide_eq_true (by first | (with_reducible assumption) | assumption)
               have q125 : x3_1 < (l0.length : Int) := of_decide_eq_true (by first | (with_reducible assumption) | assumption)
               obtain ⟨ad125, e125, hx125_0, hx125_1, hx125_2⟩ := at_T36 HR0.out x3_1 p125 q125
               cases e125
               replace p125 := eq_true p125
               replace q125 := eq_true q125
               have p126 : 0 ≤ ((ji13) : Int) := of_decide_eq_true (by first | (with_reducible assumption) | assumption)
               have q126 : (ji13) < (l0.length : Int) := of_decide_eq_true (by first | (with_reducible assumption) | assumption)
               obtain ⟨ad126, e126, hx126_0, hx126_1, hx126_2⟩ := at_T36 HR0.out (ji13) p126 q126
               obtain rfl : ad125 = ad126 := (by injection e126)
               replace p126 := eq_true p126
               replace q126 := eq_true q126
               have p127 : 0 ≤ (x3_1 : Int) := of_decide_eq_true (by first | (with_reducible assumption) | assumption)
               have q127 : x3_1 < (l0.length : Int) := of_decide_eq_true (by first | (with_reducible assumption) | assumption)
               obtain ⟨ad127, e127, hx127_0, hx127_1, hx127_2⟩ := at_T36 HR0.out x3_1 p127 q127
               obtain rfl : ad125 = ad127 := (by injection e127)
               replace p127 := eq_true p127
               replace q127 := eq_true q127
               have p128 : 0 ≤ ((ji13) : Int) := of_decide_eq_true (by first | (with_reducible assumption) | assumption)
               have q128 : (ji13) < (l0.length : Int) := of_decide_eq_true (by first | (with_reducible assumption) | assumption)
               obtain ⟨ad128, e128, hx128_0, hx128_1, hx128_2⟩ := at_T36 HR0.out (ji13) p128 q128
               obtain rfl : ad125 = ad128 := (by injection e128)
               replace p128 := eq_true p128
               replace q128 := eq_true q128
               have p129 : 0 ≤ (x3_1 : Int) := of_decide_eq_true (by first | (with_reducible assumption) | assumption)
               have q129 : x3_1 < (l0.length : Int) := of_decide_eq_true (by first | (with_reducible assumption) | assumption)
               obtain ⟨ad129, e129, hx129_0, hx129_1, hx129_2⟩ := at_T36 HR0.out x3_1 p129 q129
               obtain rfl : ad125 = ad129 := (by injection e129)
               replace p129 := eq_true p129
               replace q129 := eq_true q129
               have p130 : 0 ≤ ((ji13) : Int) := of_decide_eq_true (by first | (with_reducible assumption) | assumption)
               have q130 : (ji13) < (l0.length : Int) := of_decide_eq_true (by first | (with_reducible assumption) | assumption)
               obtain ⟨ad130, e130, hx130_0, hx130_1, hx130_2⟩ := at_T36 HR0.out (ji13) p130 q130
               obtain rfl : ad125 = ad130 := (by injection e130)
               replace p130 := eq_true p130
               replace q130 := eq_true q130
               go_wp2
               repeat (go_quiet (fail); try go_wp2)
               go_meet
               case rel => exact ⟨_, (decide (((rd_T36 l0 x3_1).f0) ≤ ((rd_T36 l0 (ji13)).f0))), (by first | rfl | (simp; done) | (simp only [← hji13] <;> (first | rfl | simp)) | (simp [*]; done)), H', ⟨by have := HK1.out; have := HJ2.out; first | omega | exact Nat.le_refl _⟩, by repeat (first | exact Drawn0.refl _ | apply Drawn0.step)⟩
              ·
               rw [if_neg c17] at H
               have c17b0 : (((rd_T36 l0 x3_1).f1) == ((rd_T36 l0 (ji13)).f1)) = false := beq_eq_false_iff_ne.mpr c17
               have c17b1 : (((rd_T36 l0 x3_1).f1) != ((rd_T36 l0 (ji13)).f1)) = true := bne_iff_ne.mpr c17
               have H' := Aside0.mk H
               clear H
               have p125 : 0 ≤ (x3_1 : Int) := of_decide_eq_true (by first | (with_reducible assumption) | assumption)
               have q125 : x3_1 < (l0.length : Int) := of_decide_eq_true (by first | (with_reducible assumption) | assumption)
               obtain ⟨ad125, e125, hx125_0, hx125_1, hx125_2⟩ := at_T36 HR0.out x3_1 p125 q125
               cases e125
               replace p125 := eq_true p125
               replace q125 := eq_true q125
               have p126 : 0 ≤ ((ji13) : Int) := of_decide_eq_true (by first | (with_reducible assumption) | assumption)
               have q126 : (ji13) < (l0.length : Int) := of_decide_eq_true (by first | (with_reducible assumption) | assumption)
               obtain ⟨ad126, e126, hx126_0, hx126_1, hx126_2⟩ := at_T36 HR0.out (ji13) p126 q126
               obtain rfl : ad125 = ad126 := (by injection e126)
               replace p126 := eq_true p126
               replace q126 := eq_true q126
               have p127 : 0 ≤ (x3_1 : Int) := of_decide_eq_true (by first | (with_reducible assumption) | assumption)
               have q127 : x3_1 < (l0.length : Int) := of_decide_eq_true (by first | (with_reducible assumption) | assumption)
               obtain ⟨ad127, e127, hx127_0, hx127_1, hx127_2⟩ := at_T36 HR0.out x3_1 p127 q127
               obtain rfl : ad125 = ad127 := (by injection e127)
               replace p127 := eq_true p127
               replace q127 := eq_true q127
               have p128 : 0 ≤ ((ji13) : Int) := of_decide_eq_true (by first | (with_reducible assumption) | assumption)
               have q128 : (ji13) < (l0.length : Int) := of_decide_eq_true (by first | (with_reducible assumption) | assumption)
               obtain ⟨ad128, e128, hx128_0, hx128_1, hx128_2⟩ := at_T36 HR0.out (ji13) p128 q128
               obtain rfl : ad125 = ad128 := (by injection e128)
               replace p128 := eq_true p128
               replace q128 := eq_true q128
               go_wp2
               repeat (go_quiet (fail); try go_wp2)
               go_meet
               case rel => exact ⟨_, (false), (by first | rfl | (simp; done) | (simp [*]; done)), H', ⟨by have := HK1.out; have := HJ2.out; first | omega | exact Nat.le_refl _⟩, by repeat (first | exact Drawn0.refl _ | apply Drawn0.step)⟩
            ·
             rw [if_neg c15] at H
             exact absurd H (by simp)
           ·
            rw [if_neg c14] at H
            exact absurd H (by simp)
          ·
           rw [if_neg c12] at H
           exact absurd H (by simp)
         ·
          rw [if_neg c11] at H
          exact absurd H (by simp)
        ·
         rw [if_neg c10] at H
         have c10b0 : decide (0 < x3_1) = false := decide_eq_false c10
         clear c10
         (first | rw [c10b0] | (simp only [i64_w, i32_w]; rw [c10b0]) | skip)
         have H' := Aside0.mk H
         clear H
         go_wp2
         repeat (go_quiet (fail); try go_wp2)
         go_meet
         case rel => exact ⟨_, (false), (by first | rfl | (simp; done) | (simp [*]; done)), H', ⟨by have := HK1.out; have := HJ2.out; first | omega | exact Nat.le_refl _⟩, by repeat (first | exact Drawn0.refl _ | apply Drawn0.step)⟩
       case rest =>
        clear HC9
        try clear c1
        try clear p1
        try clear q1
        try clear hx1
        try clear c2
        try clear c2b0
        try clear p2
        try clear c4
        try clear c4b0
        try clear c5
        try clear c5b0
        try clear c6
        try clear c6b0
        try clear p6
        try clear c7
        try clear c7b0
        try clear c8
        try clear c10
        try clear c10b0
        try clear c11
        try clear c11b0
        try clear c12
        try clear c12b0
        try clear p12
        try clear q12
        try clear hx12
        try clear p13
        try clear q13
        try clear hx13
        try clear c14
        try clear c14b0
        try clear c15
        try clear c15b0
        try clear c16
        try clear c16b0
        try clear c17
        try clear c17b0
        try clear c17b1
        try clear hx120_0
        try clear hx120_1
        try clear hx120_2
        try clear hx121_0
        try clear hx121_1
        try clear hx121_2
        try clear hx122_0
        try clear hx122_1
        try clear hx122_2
        try clear hx123_0
        try clear hx123_1
        try clear hx123_2
        try clear hx124_0
        try clear hx124_1
        try clear hx124_2
        try clear hx125_0
        try clear hx125_1
        try clear hx125_2
        try clear hx126_0
        try clear hx126_1
        try clear hx126_2
        try clear hx127_0
        try clear hx127_1
        try clear hx127_2
        try clear hx128_0
        try clear hx128_1
        try clear hx128_2
        try clear hx129_0
        try clear hx129_1
        try clear hx129_2
        try clear hx130_0
        try clear hx130_1
        try clear hx130_2
        try clear p1
        try clear p120
        try clear p121
        try clear p122
        try clear p123
        try clear p124
        try clear p125
        try clear p126
        try clear p127
        try clear p128
        try clear p129
        try clear p130
        try clear p2
        try clear q1
        try clear q120
        try clear q121
        try clear q122
        try clear q123
        try clear q124
        try clear q125
        try clear q126
        try clear q127
        try clear q128
        try clear q129
        try clear q130
        obtain ⟨kq, x89_8, rfl, HA, HJ8, ⟨mc8, rfl⟩⟩ := hcut
        cases kq with
        | zero => exact absurd HA.out (by simp [smithyref25_Ordered.j2])
        | succ kj8 =>
         have H := HA.out
         clear HA
         simp only [smithyref25_Ordered.j2] at H
         by_cases c18 : x89_8 = true
         ·
          subst c18
          have H1 : (some false) = some r := by rw [if_pos rfl] at H; exact H
          clear H
          have H := H1
          clear H1
          obtain rfl := Option.some.inj H
          go_wp2
          repeat (go_quiet (fail); try go_wp2)
          go_ret
          exact ⟨by first | rfl | (simp; done) | (simp [*]; done), by repeat (first | exact Drawn0.refl _ | apply Drawn0.step)⟩
         ·
          replace c18 := Bool.eq_false_iff.mpr c18
          subst c18
          have H1 : (smithyref25_Ordered.l1 kj8 l0 x3_1 0) = some r := by rw [if_neg (show ¬ (false = true) by decide)] at H; exact H
          clear H
          have H := H1
          clear H1
          have H' := Aside0.mk H
          clear H
          go_wp2
          repeat (go_quiet (fail); try go_wp2)
          go_loopg [4] kj8 (fun kq v4 w' => ∃ (x4_4 : Int), v4 = .int .i64 x4_4 ∧ Aside0 (smithyref25_Ordered.l1 kq l0 x3_1 x4_4 = some r) ∧ Aside0 (kq ≤ kj8) ∧ Drawn0 w w')
          case atStart => exact ⟨(0), (by first | rfl | (simp; done) | (simp [*]; done)), H', ⟨Nat.le_refl _⟩, by repeat (first | exact Drawn0.refl _ | apply Drawn0.step)⟩
          case round =>
           clear H'
           try clear c1
           try clear p1
           try clear q1
           try clear hx1
           try clear c2
           try clear c2b0
           try clear p2
           try clear c4
           try clear c4b0
           try clear c5
           try clear c5b0
           try clear c6
           try clear c6b0
           try clear p6
           try clear c7
           try clear c7b0
           try clear c8
           try clear c10
           try clear c10b0
           try clear c11
           try clear c11b0
           try clear c12
           try clear c12b0
           try clear p12
           try clear q12
           try clear hx12
           try clear p13
           try clear q13
           try clear hx13
           try clear c14
           try clear c14b0
           try clear c15
           try clear c15b0
           try clear c16
           try clear c16b0
           try clear c17
           try clear c17b0
           try clear c17b1
           try clear c18
           try clear hx120_0
           try clear hx120_1
           try clear hx120_2
           try clear hx121_0
           try clear hx121_1
           try clear hx121_2
           try clear hx122_0
           try clear hx122_1
           try clear hx122_2
           try clear hx123_0
           try clear hx123_1
           try clear hx123_2
           try clear hx124_0
           try clear hx124_1
           try clear hx124_2
           try clear hx125_0
           try clear hx125_1
           try clear hx125_2
           try clear hx126_0
           try clear hx126_1
           try clear hx126_2
           try clear hx127_0
           try clear hx127_1
           try clear hx127_2
           try clear hx128_0
           try clear hx128_1
           try clear hx128_2
           try clear hx129_0
           try clear hx129_1
           try clear hx129_2
           try clear hx130_0
           try clear hx130_1
           try clear hx130_2
           try clear p1
           try clear p12
           try clear p120
           try clear p121
           try clear p122
           try clear p123
           try clear p124
           try clear p125
           try clear p126
           try clear p127
           try clear p128
           try clear p129
           try clear p13
           try clear p130
           try clear p2
           try clear p6
           try clear q1
           try clear q12
           try clear q120
           try clear q121
           try clear q122
           try clear q123
           try clear q124
           try clear q125
           try clear q126
           try clear q127
           try clear q128
           try clear q129
           try clear q13
           try clear q130
           obtain ⟨x4_4, rfl, HA, HK4, ⟨m4, rfl⟩⟩ := hrel
           cases gk with
           | zero => exact absurd HA.out (by simp [smithyref25_Ordered.l1])
           | succ k4 =>
            have H := HA.out
            clear HA
            simp only [smithyref25_Ordered.l1] at H
            by_cases c19 : x4_4 < x3_1
            ·
             rw [if_pos c19] at H
             have c19b0 : decide (x4_4 < x3_1) = true := decide_eq_true c19
             clear c19
             by_cases c20 : 0 ≤ x4_4
             ·
              rw [if_pos c20] at H
              have c20b0 : decide (0 ≤ x4_4) = true := decide_eq_true c20
              clear c20
              by_cases c21 : x4_4 < (l0.length : Int)
              ·
               rw [if_pos c21] at H
               have c21b0 : decide (x4_4 < (l0.length : Int)) = true := decide_eq_true c21
               clear c21
               by_cases c22 : 0 ≤ x3_1
               ·
                rw [if_pos c22] at H
                have c22b0 : decide (0 ≤ x3_1) = true := decide_eq_true c22
                clear c22
                by_cases c23 : x3_1 < (l0.length : Int)
                ·
                 rw [if_pos c23] at H
                 have c23b0 : decide (x3_1 < (l0.length : Int)) = true := decide_eq_true c23
                 clear c23
                 by_cases c24 : ((rd_T36 l0 x4_4).f0) = ((rd_T36 l0 x3_1).f0)
                 ·
                  rw [if_pos c24] at H
                  have c24b0 : (((rd_T36 l0 x4_4).f0) == ((rd_T36 l0 x3_1).f0)) = true := beq_iff_eq.mpr c24
                  have c24b1 : (((rd_T36 l0 x4_4).f0) != ((rd_T36 l0 x3_1).f0)) = false := bne_eq_false_iff_eq.mpr c24
                  clear c24
                  obtain rfl := Option.some.inj H
                  have p131 : 0 ≤ (x4_4 : Int) := of_decide_eq_true (by first | (with_reducible assumption) | assumption)
                  have q131 : x4_4 < (l0.length : Int) := of_decide_eq_true (by first | (with_reducible assumption) | assumption)
                  obtain ⟨ad131, e131, hx131_0, hx131_1, hx131_2⟩ := at_T36 HR0.out x4_4 p131 q131
                  cases e131
                  replace p131 := eq_true p131
                  replace q131 := eq_true q131
                  have p132 : 0 ≤ (x3_1 : Int) := of_decide_eq_true (by first | (with_reducible assumption) | assumption)
                  have q132 : x3_1 < (l0.length : Int) := of_decide_eq_true (by first | (with_reducible assumption) | assumption)
                  obtain ⟨ad132, e132, hx132_0, hx132_1, hx132_2⟩ := at_T36 HR0.out x3_1 p132 q132
                  obtain rfl : ad131 = ad132 := (by injection e132)
                  replace p132 := eq_true p132
                  replace q132 := eq_true q132
                  go_wp2
                  repeat (go_quiet (fail); try go_wp2)
                  go_ret
                  exact ⟨by first | rfl | (simp; done) | (simp [*]; done), by repeat (first | exact Drawn0.refl _ | apply Drawn0.step)⟩
                 ·
                  rw [if_neg c24] at H
                  have c24b0 : (((rd_T36 l0 x4_4).f0) == ((rd_T36 l0 x3_1).f0)) = false := beq_eq_false_iff_ne.mpr c24
                  have c24b1 : (((rd_T36 l0 x4_4).f0) != ((rd_T36 l0 x3_1).f0)) = true := bne_iff_ne.mpr c24
                  have H' := Aside0.mk H
                  clear H
                  have p131 : 0 ≤ (x4_4 : Int) := of_decide_eq_true (by first | (with_reducible assumption) | assumption)
                  have q131 : x4_4 < (l0.length : Int) := of_decide_eq_true (by first | (with_reducible assumption) | assumption)
                  obtain ⟨ad131, e131, hx131_0, hx131_1, hx131_2⟩ := at_T36 HR0.out x4_4 p131 q131
                  cases e131
                  replace p131 := eq_true p131
                  replace q131 := eq_true q131
                  have p132 : 0 ≤ (x3_1 : Int) := of_decide_eq_true (by first | (with_reducible assumption) | assumption)
                  have q132 : x3_1 < (l0.length : Int) := of_decide_eq_true (by first | (with_reducible assumption) | assumption)
                  obtain ⟨ad132, e132, hx132_0, hx132_1, hx132_2⟩ := at_T36 HR0.out x3_1 p132 q132
                  obtain rfl : ad131 = ad132 := (by injection e132)
                  replace p132 := eq_true p132
                  replace q132 := eq_true q132
                  go_wp2
                  repeat (go_quiet (fail); try go_wp2)
                  go_roundg k4
                  case measure => have := HK1.out; have := HJ2.out; have := HJ8.out; have := HK4.out; omega
                  case rel => exact ⟨(wrap64 (x4_4 + 1)), (by first | rfl | (simp; done) | (simp [*]; done)), H', ⟨by have := HK1.out; have := HJ2.out; have := HJ8.out; have := HK4.out; omega⟩, by repeat (first | exact Drawn0.refl _ | apply Drawn0.step)⟩
                ·
                 rw [if_neg c23] at H
                 exact absurd H (by simp)
               ·
                rw [if_neg c22] at H
                exact absurd H (by simp)
              ·
               rw [if_neg c21] at H
               exact absurd H (by simp)
             ·
              rw [if_neg c20] at H
              exact absurd H (by simp)
            ·
             rw [if_neg c19] at H
             have c19b0 : decide (x4_4 < x3_1) = false := decide_eq_false c19
             clear c19
             have H' := Aside0.mk H
             clear H
             go_wp2
             repeat (go_quiet (fail); try go_wp2)
             go_roundg k4
             case measure => have := HK1.out; have := HJ2.out; have := HJ8.out; have := HK4.out; omega
             case rel => exact ⟨(wrap64 (x3_1 + 1)), (by first | rfl | (simp; done) | (simp [*]; done)), H', ⟨by have := HK1.out; have := HJ2.out; have := HJ8.out; have := HK4.out; omega⟩, by repeat (first | exact Drawn0.refl _ | apply Drawn0.step)⟩
   ·
    rw [if_neg c2] at H
    have c2b0 : decide (x3_1 < (l0.length : Int)) = false := decide_eq_false c2
    clear c2
    obtain rfl := Option.some.inj H
    go_wp2
    repeat (go_quiet (fail); try go_wp2)
    go_ret
    exact ⟨by first | rfl | (simp; done) | (simp [*]; done), by repeat (first | exact Drawn0.refl _ | apply Drawn0.step)⟩

end Go.Proofs.YtcmbpboeilojmaaGreat.F
