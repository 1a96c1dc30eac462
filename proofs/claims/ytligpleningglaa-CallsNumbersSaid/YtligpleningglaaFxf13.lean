-- printed by px2.py, a program of this session, by way of the kit's print; Lean checks it
import Derived.Test.YtligpleningglaaFx0
namespace Go.Proofs.Ytligpleningglaa.F
open Go.RowKit Go.Proofs.YtligpleningglaaW.PrintWords Go.Proofs.YtligpleningglaaW.PrintLast Go.Proofs.YtligpleningglaaW.PrintMore
attribute [local go_sem] max2_int min2_int max_two min_two max_three min_three max_four min_four   -- for this text's walks alone
set_option linter.unusedVariables false
set_option linter.unusedSimpArgs false

/-! ### smithylaw19_wide: function 13 -/
mutual
def smithylaw19_wide.l0 : Nat → List (S42) → Int → Int → Option (Bool)
  | 0, _, _, _ => none
  | k + 1, x0, x3, x4 => if x4 < (x0.length : Int) then (smithylaw19_wide.j1 k x0 x3 x4 (decide (x3 ≤ 3600))) else (smithylaw19_wide.j1 k x0 x3 x4 false)
def smithylaw19_wide.j1 : Nat → List (S42) → Int → Int → Bool → Option (Bool)
  | 0, _, _, _, _ => none
  | k + 1, x0, x3, x4, x15 => if x15 = true then (if 0 ≤ x4 then (if x4 < (x0.length : Int) then (smithylaw19_wide.l1 k x0 (wrap64 (x3 + (((rd_T42 x0 x4).f5).length : Int))) x4 0) else (none)) else (none)) else (if (x0.length : Int) > 120 then (some true) else (some (decide (x3 > 3600))))
def smithylaw19_wide.l1 : Nat → List (S42) → Int → Int → Int → Option (Bool)
  | 0, _, _, _, _ => none
  | k + 1, x0, x3, x4, x5 => if 0 ≤ x4 then (if x4 < (x0.length : Int) then (if x5 < (((rd_T42 x0 x4).f5).length : Int) then (if x3 ≤ 3600 then (if 0 ≤ x5 then (smithylaw19_wide.l1 k x0 (wrap64 (x3 + (((rd_T64 ((rd_T42 x0 x4).f5) x5).f0).length : Int))) x4 (wrap64 (x5 + 1))) else (none)) else (smithylaw19_wide.l0 k x0 x3 (wrap64 (x4 + 1)))) else (smithylaw19_wide.l0 k x0 x3 (wrap64 (x4 + 1)))) else (none)) else (none)
end
def smithylaw19_wide.f (k : Nat) (l0 : List (S42)) : Option (Bool) := smithylaw19_wide.l0 k l0 (l0.length : Int) 0
theorem smithylaw19_wide.mono_l : ∀ k, (∀ y0 y1 y2, LeO (smithylaw19_wide.l0 k y0 y1 y2) (smithylaw19_wide.l0 (k + 1) y0 y1 y2)) ∧ (∀ y0 y1 y2 y3, LeO (smithylaw19_wide.j1 k y0 y1 y2 y3) (smithylaw19_wide.j1 (k + 1) y0 y1 y2 y3)) ∧ (∀ y0 y1 y2 y3, LeO (smithylaw19_wide.l1 k y0 y1 y2 y3) (smithylaw19_wide.l1 (k + 1) y0 y1 y2 y3))
  | 0 => ⟨fun _ _ _ r h => by simp [smithylaw19_wide.l0] at h, fun _ _ _ _ r h => by simp [smithylaw19_wide.j1] at h, fun _ _ _ _ r h => by simp [smithylaw19_wide.l1] at h⟩
  | k + 1 => by
    obtain ⟨ih0, ih1, ih2⟩ := smithylaw19_wide.mono_l k
    refine ⟨?_, ?_, ?_⟩
    · intro y0 y1 y2
      unfold smithylaw19_wide.l0
      repeat' first
      | (with_reducible exact ih0 _ _ _)
      | (with_reducible exact ih1 _ _ _ _)
      | (with_reducible exact ih2 _ _ _ _)
      | (with_reducible exact LeO.refl _)
      | (with_reducible exact LeO.none _)
      | (with_reducible refine LeO.ite ?_ ?_)
      | (with_reducible refine LeO.bind ?_ (fun _ => ?_))
      | exact ih0 _ _ _
      | exact ih1 _ _ _ _
      | exact ih2 _ _ _ _
      | exact LeO.none _
      | refine LeO.ite ?_ ?_
      | refine LeO.bind ?_ (fun _ => ?_)
    · intro y0 y1 y2 y3
      unfold smithylaw19_wide.j1
      repeat' first
      | (with_reducible exact ih0 _ _ _)
      | (with_reducible exact ih1 _ _ _ _)
      | (with_reducible exact ih2 _ _ _ _)
      | (with_reducible exact LeO.refl _)
      | (with_reducible exact LeO.none _)
      | (with_reducible refine LeO.ite ?_ ?_)
      | (with_reducible refine LeO.bind ?_ (fun _ => ?_))
      | exact ih0 _ _ _
      | exact ih1 _ _ _ _
      | exact ih2 _ _ _ _
      | exact LeO.none _
      | refine LeO.ite ?_ ?_
      | refine LeO.bind ?_ (fun _ => ?_)
    · intro y0 y1 y2 y3
      unfold smithylaw19_wide.l1
      repeat' first
      | (with_reducible exact ih0 _ _ _)
      | (with_reducible exact ih1 _ _ _ _)
      | (with_reducible exact ih2 _ _ _ _)
      | (with_reducible exact LeO.refl _)
      | (with_reducible exact LeO.none _)
      | (with_reducible refine LeO.ite ?_ ?_)
      | (with_reducible refine LeO.bind ?_ (fun _ => ?_))
      | exact ih0 _ _ _
      | exact ih1 _ _ _ _
      | exact ih2 _ _ _ _
      | exact LeO.none _
      | refine LeO.ite ?_ ?_
      | refine LeO.bind ?_ (fun _ => ?_)
theorem smithylaw19_wide.mono : ∀ a0 k, LeO (smithylaw19_wide.f k a0) (smithylaw19_wide.f (k + 1) a0) := by
  intro a0 k
  obtain ⟨ih0, ih1, ih2⟩ := smithylaw19_wide.mono_l k
  unfold smithylaw19_wide.f
  repeat' first
      | (with_reducible exact ih0 _ _ _)
      | (with_reducible exact ih1 _ _ _ _)
      | (with_reducible exact ih2 _ _ _ _)
      | (with_reducible exact LeO.refl _)
      | (with_reducible exact LeO.none _)
      | (with_reducible refine LeO.ite ?_ ?_)
      | (with_reducible refine LeO.bind ?_ (fun _ => ?_))
      | exact ih0 _ _ _
      | exact ih1 _ _ _ _
      | exact ih2 _ _ _ _
      | exact LeO.none _
      | refine LeO.ite ?_ ?_
      | refine LeO.bind ?_ (fun _ => ?_)
set_option maxHeartbeats 8000000 in
set_option maxRecDepth 100000 in
theorem smithylaw19_wide.calls (k : Nat) (A0 : Option Addr) (c0 : Nat) (l0 : List (S42)) (r : Bool) (w : World) (hr0 : Kd.C k42 w A0 l0.length l0) (hc0 : l0.length ≤ c0) (h : smithylaw19_wide.f k l0 = some r) :
    Calls Try.prog 13 #[.slice A0 l0.length c0] w fun e w' => e = .returned (.bool r) ∧ Drawn0 w w' := by
 have HR0 := Aside0.mk hr0
 have HC0 := Aside0.mk hc0
 clear hr0 hc0
 have H : (smithylaw19_wide.l0 k l0 (l0.length : Int) 0) = some r := h
 clear h
 have H' := Aside0.mk H
 clear H
 go_enter Try.func13, Try.ntmps13
 go_wp2
 go_loopg [3, 4] k (fun kq v3 v4 w' => ∃ (x3_1 : Int) (x4_1 : Int), v3 = .int .i64 x3_1 ∧ v4 = .int .i64 x4_1 ∧ Aside0 (smithylaw19_wide.l0 kq l0 x3_1 x4_1 = some r) ∧ Aside0 (kq ≤ k) ∧ Drawn0 w w')
 case atStart => exact ⟨((l0.length : Int)), (0), (by first | rfl | (simp; done) | (simp [*]; done)), (by first | rfl | (simp; done) | (simp [*]; done)), H', ⟨Nat.le_refl _⟩, by repeat (first | exact Drawn0.refl _ | apply Drawn0.step)⟩
 case round =>
  clear H'
  try clear c1
  obtain ⟨x3_1, x4_1, rfl, rfl, HA, HK1, ⟨m1, rfl⟩⟩ := hrel
  cases gk with
  | zero => exact absurd HA.out (by simp [smithylaw19_wide.l0])
  | succ k1 =>
   have H := HA.out
   clear HA
   simp only [smithylaw19_wide.l0] at H
   have HC2 := Aside0.mk H
   clear H
   go_upto_region 3 with (fail)
   go_cut [15] (fun v15 wc => ∃ (kq : Nat) (x15_1 : Bool), v15 = .bool x15_1 ∧ Aside0 (smithylaw19_wide.j1 kq l0 x3_1 x4_1 x15_1 = some r) ∧ Aside0 (kq ≤ k1) ∧ Drawn0 w wc)
   case first =>
    have H := HC2.out
    clear HC2
    by_cases c3 : x4_1 < (l0.length : Int)
    ·
     rw [if_pos c3] at H
     have c3b0 : decide (x4_1 < (l0.length : Int)) = true := decide_eq_true c3
     clear c3
     (first | rw [c3b0] | (simp only [i64_w, i32_w]; rw [c3b0]) | skip)
     have H' := Aside0.mk H
     clear H
     go_wp2
     go_meet
     case rel => exact ⟨_, (decide (x3_1 ≤ 3600)), (by first | rfl | (simp; done) | (simp [*]; done)), H', ⟨by have := HK1.out; first | omega | exact Nat.le_refl _⟩, by repeat (first | exact Drawn0.refl _ | apply Drawn0.step)⟩
    ·
     rw [if_neg c3] at H
     have c3b0 : decide (x4_1 < (l0.length : Int)) = false := decide_eq_false c3
     clear c3
     (first | rw [c3b0] | (simp only [i64_w, i32_w]; rw [c3b0]) | skip)
     have H' := Aside0.mk H
     clear H
     go_wp2
     go_meet
     case rel => exact ⟨_, (false), (by first | rfl | (simp; done) | (simp [*]; done)), H', ⟨by have := HK1.out; first | omega | exact Nat.le_refl _⟩, by repeat (first | exact Drawn0.refl _ | apply Drawn0.step)⟩
   case rest =>
    clear HC2
    try clear c1
    try clear p2
    try clear c3
    try clear c3b0
    obtain ⟨kq, x15_1, rfl, HA, HJ1, ⟨mc1, rfl⟩⟩ := hcut
    cases kq with
    | zero => exact absurd HA.out (by simp [smithylaw19_wide.j1])
    | succ kj1 =>
     have H := HA.out
     clear HA
     simp only [smithylaw19_wide.j1] at H
     by_cases c4 : x15_1 = true
     ·
      subst c4
      have H1 : (if 0 ≤ x4_1 then (if x4_1 < (l0.length : Int) then (smithylaw19_wide.l1 kj1 l0 (wrap64 (x3_1 + (((rd_T42 l0 x4_1).f5).length : Int))) x4_1 0) else (none)) else (none)) = some r := by rw [if_pos rfl] at H; exact H
      clear H
      have H := H1
      clear H1
      by_cases c5 : 0 ≤ x4_1
      ·
       rw [if_pos c5] at H
       have c5b0 : decide (0 ≤ x4_1) = true := decide_eq_true c5
       clear c5
       by_cases c6 : x4_1 < (l0.length : Int)
       ·
        rw [if_pos c6] at H
        have c6b0 : decide (x4_1 < (l0.length : Int)) = true := decide_eq_true c6
        clear c6
        have H' := Aside0.mk H
        clear H
        have p336 : 0 ≤ (x4_1 : Int) := of_decide_eq_true (by first | (with_reducible assumption) | assumption)
        have q336 : x4_1 < (l0.length : Int) := of_decide_eq_true (by first | (with_reducible assumption) | assumption)
        obtain ⟨ad336, A336_1, c336_1, A336_3, c336_3, A336_4, c336_4, A336_5, c336_5, e336, hx336_0, hx336_1, hx336_2, hx336_3, hx336_4, hx336_5, hl336_1, hi336_1, hl336_3, hi336_3, hl336_4, hi336_4, hl336_5, hi336_5⟩ := at_T42 HR0.out x4_1 p336 q336
        cases e336
        have HR336_1 := Aside0.mk hi336_1
        have HC336_1 := Aside0.mk hl336_1
        clear hi336_1 hl336_1
        have HR336_3 := Aside0.mk hi336_3
        have HC336_3 := Aside0.mk hl336_3
        clear hi336_3 hl336_3
        have HR336_4 := Aside0.mk hi336_4
        have HC336_4 := Aside0.mk hl336_4
        clear hi336_4 hl336_4
        have HR336_5 := Aside0.mk hi336_5
        have HC336_5 := Aside0.mk hl336_5
        clear hi336_5 hl336_5
        replace p336 := eq_true p336
        replace q336 := eq_true q336
        go_wp2
        go_loopg [3, 5] kj1 (fun kq v3 v5 w' => ∃ (x3_3 : Int) (x5_3 : Int), v3 = .int .i64 x3_3 ∧ v5 = .int .i64 x5_3 ∧ Aside0 (smithylaw19_wide.l1 kq l0 x3_3 x4_1 x5_3 = some r) ∧ Aside0 (kq ≤ kj1) ∧ Drawn0 w w')
        case atStart => exact ⟨(wrap64 (x3_1 + (((rd_T42 l0 x4_1).f5).length : Int))), (0), (by first | rfl | (simp; done) | (simp [*]; done)), (by first | rfl | (simp; done) | (simp [*]; done)), H', ⟨Nat.le_refl _⟩, by repeat (first | exact Drawn0.refl _ | apply Drawn0.step)⟩
        case round =>
         clear H'
         try clear c1
         try clear p2
         try clear c3
         try clear c3b0
         try clear p3
         try clear q3
         try clear hx3
         try clear c4
         try clear c5
         try clear c5b0
         try clear c6
         try clear c6b0
         try clear p6
         try clear hx336_0
         try clear hx336_1
         try clear hx336_2
         try clear hx336_3
         try clear hx336_4
         try clear hx336_5
         try clear p2
         try clear p336
         try clear q336
         obtain ⟨x3_3, x5_3, rfl, rfl, HA, HK3, ⟨m3, rfl⟩⟩ := hrel
         cases gk with
         | zero => exact absurd HA.out (by simp [smithylaw19_wide.l1])
         | succ k3 =>
          have H := HA.out
          clear HA
          simp only [smithylaw19_wide.l1] at H
          by_cases c7 : 0 ≤ x4_1
          ·
           rw [if_pos c7] at H
           have c7b0 : decide (0 ≤ x4_1) = true := decide_eq_true c7
           clear c7
           by_cases c8 : x4_1 < (l0.length : Int)
           ·
            rw [if_pos c8] at H
            have c8b0 : decide (x4_1 < (l0.length : Int)) = true := decide_eq_true c8
            clear c8
            by_cases c9 : x5_3 < (((rd_T42 l0 x4_1).f5).length : Int)
            ·
             rw [if_pos c9] at H
             have c9b0 : decide (x5_3 < (((rd_T42 l0 x4_1).f5).length : Int)) = true := decide_eq_true c9
             clear c9
             by_cases c10 : x3_3 ≤ 3600
             ·
              rw [if_pos c10] at H
              have c10b0 : decide (x3_3 ≤ 3600) = true := decide_eq_true c10
              clear c10
              by_cases c11 : 0 ≤ x5_3
              ·
               rw [if_pos c11] at H
               have c11b0 : decide (0 ≤ x5_3) = true := decide_eq_true c11
               clear c11
               have H' := Aside0.mk H
               clear H
               have p337 : 0 ≤ (x4_1 : Int) := of_decide_eq_true (by first | (with_reducible assumption) | assumption)
               have q337 : x4_1 < (l0.length : Int) := of_decide_eq_true (by first | (with_reducible assumption) | assumption)
               obtain ⟨ad337, A337_1, c337_1, A337_3, c337_3, A337_4, c337_4, A337_5, c337_5, e337, hx337_0, hx337_1, hx337_2, hx337_3, hx337_4, hx337_5, hl337_1, hi337_1, hl337_3, hi337_3, hl337_4, hi337_4, hl337_5, hi337_5⟩ := at_T42 HR0.out x4_1 p337 q337
               obtain rfl : ad336 = ad337 := (by injection e337)
               have HR337_1 := Aside0.mk hi337_1
               have HC337_1 := Aside0.mk hl337_1
               clear hi337_1 hl337_1
               have HR337_3 := Aside0.mk hi337_3
               have HC337_3 := Aside0.mk hl337_3
               clear hi337_3 hl337_3
               have HR337_4 := Aside0.mk hi337_4
               have HC337_4 := Aside0.mk hl337_4
               clear hi337_4 hl337_4
               have HR337_5 := Aside0.mk hi337_5
               have HC337_5 := Aside0.mk hl337_5
               clear hi337_5 hl337_5
               replace p337 := eq_true p337
               replace q337 := eq_true q337
               have p338 : 0 ≤ (x4_1 : Int) := of_decide_eq_true (by first | (with_reducible assumption) | assumption)
               have q338 : x4_1 < (l0.length : Int) := of_decide_eq_true (by first | (with_reducible assumption) | assumption)
               obtain ⟨ad338, A338_1, c338_1, A338_3, c338_3, A338_4, c338_4, A338_5, c338_5, e338, hx338_0, hx338_1, hx338_2, hx338_3, hx338_4, hx338_5, hl338_1, hi338_1, hl338_3, hi338_3, hl338_4, hi338_4, hl338_5, hi338_5⟩ := at_T42 HR0.out x4_1 p338 q338
               obtain rfl : ad336 = ad338 := (by injection e338)
               have HR338_1 := Aside0.mk hi338_1
               have HC338_1 := Aside0.mk hl338_1
               clear hi338_1 hl338_1
               have HR338_3 := Aside0.mk hi338_3
               have HC338_3 := Aside0.mk hl338_3
               clear hi338_3 hl338_3
               have HR338_4 := Aside0.mk hi338_4
               have HC338_4 := Aside0.mk hl338_4
               clear hi338_4 hl338_4
               have HR338_5 := Aside0.mk hi338_5
               have HC338_5 := Aside0.mk hl338_5
               clear hi338_5 hl338_5
               replace p338 := eq_true p338
               replace q338 := eq_true q338
               have ea_ := Option.some.inj (hx337_1.symm.trans hx338_1)
               injection ea_ with ea_ en_ ec_
               subst ea_
               subst ec_
               clear en_
               have ea_ := Option.some.inj (hx337_3.symm.trans hx338_3)
               injection ea_ with ea_ en_ ec_
               subst ea_
               subst ec_
               clear en_
               have ea_ := Option.some.inj (hx337_4.symm.trans hx338_4)
               injection ea_ with ea_ en_ ec_
               subst ea_
               subst ec_
               clear en_
               have ea_ := Option.some.inj (hx337_5.symm.trans hx338_5)
               injection ea_ with ea_ en_ ec_
               subst ea_
               subst ec_
               clear en_
               have p339 : 0 ≤ (x5_3 : Int) := of_decide_eq_true (by first | (with_reducible assumption) | assumption)
               have q339 : x5_3 < (((rd_T42 l0 x4_1).f5).length : Int) := of_decide_eq_true (by first | (with_reducible assumption) | assumption)
               obtain ⟨ad339, A339_0, c339_0, e339, hx339_0, hx339_1, hx339_2, hx339_3, hx339_4, hx339_5, hl339_0, hi339_0⟩ := at_T64 HR338_5.out x5_3 p339 q339
               cases e339
               have HR339_0 := Aside0.mk hi339_0
               have HC339_0 := Aside0.mk hl339_0
               clear hi339_0 hl339_0
               replace p339 := eq_true p339
               replace q339 := eq_true q339
               go_wp2
               go_roundg k3
               case measure => have := HK1.out; have := HJ1.out; have := HK3.out; omega
               case rel => exact ⟨(wrap64 (x3_3 + (((rd_T64 ((rd_T42 l0 x4_1).f5) x5_3).f0).length : Int))), (wrap64 (x5_3 + 1)), (by first | rfl | (simp; done) | (simp [*]; done)), (by first | rfl | (simp; done) | (simp [*]; done)), H', ⟨by have := HK1.out; have := HJ1.out; have := HK3.out; omega⟩, by repeat (first | exact Drawn0.refl _ | apply Drawn0.step)⟩
              ·
               rw [if_neg c11] at H
               exact absurd H (by simp)
             ·
              rw [if_neg c10] at H
              have c10b0 : decide (x3_3 ≤ 3600) = false := decide_eq_false c10
              clear c10
              have H' := Aside0.mk H
              clear H
              have p337 : 0 ≤ (x4_1 : Int) := of_decide_eq_true (by first | (with_reducible assumption) | assumption)
              have q337 : x4_1 < (l0.length : Int) := of_decide_eq_true (by first | (with_reducible assumption) | assumption)
              obtain ⟨ad337, A337_1, c337_1, A337_3, c337_3, A337_4, c337_4, A337_5, c337_5, e337, hx337_0, hx337_1, hx337_2, hx337_3, hx337_4, hx337_5, hl337_1, hi337_1, hl337_3, hi337_3, hl337_4, hi337_4, hl337_5, hi337_5⟩ := at_T42 HR0.out x4_1 p337 q337
              obtain rfl : ad336 = ad337 := (by injection e337)
              have HR337_1 := Aside0.mk hi337_1
              have HC337_1 := Aside0.mk hl337_1
              clear hi337_1 hl337_1
              have HR337_3 := Aside0.mk hi337_3
              have HC337_3 := Aside0.mk hl337_3
              clear hi337_3 hl337_3
              have HR337_4 := Aside0.mk hi337_4
              have HC337_4 := Aside0.mk hl337_4
              clear hi337_4 hl337_4
              have HR337_5 := Aside0.mk hi337_5
              have HC337_5 := Aside0.mk hl337_5
              clear hi337_5 hl337_5
              replace p337 := eq_true p337
              replace q337 := eq_true q337
              go_wp2
              go_roundg k3
              case measure => have := HK1.out; have := HJ1.out; have := HK3.out; omega
              case rel => exact ⟨(x3_3), (wrap64 (x4_1 + 1)), (by first | rfl | (simp; done) | (simp [*]; done)), (by first | rfl | (simp; done) | (simp [*]; done)), H', ⟨by have := HK1.out; have := HJ1.out; have := HK3.out; omega⟩, by repeat (first | exact Drawn0.refl _ | apply Drawn0.step)⟩
            ·
             rw [if_neg c9] at H
             have c9b0 : decide (x5_3 < (((rd_T42 l0 x4_1).f5).length : Int)) = false := decide_eq_false c9
             clear c9
             have H' := Aside0.mk H
             clear H
             have p337 : 0 ≤ (x4_1 : Int) := of_decide_eq_true (by first | (with_reducible assumption) | assumption)
             have q337 : x4_1 < (l0.length : Int) := of_decide_eq_true (by first | (with_reducible assumption) | assumption)
             obtain ⟨ad337, A337_1, c337_1, A337_3, c337_3, A337_4, c337_4, A337_5, c337_5, e337, hx337_0, hx337_1, hx337_2, hx337_3, hx337_4, hx337_5, hl337_1, hi337_1, hl337_3, hi337_3, hl337_4, hi337_4, hl337_5, hi337_5⟩ := at_T42 HR0.out x4_1 p337 q337
             obtain rfl : ad336 = ad337 := (by injection e337)
             have HR337_1 := Aside0.mk hi337_1
             have HC337_1 := Aside0.mk hl337_1
             clear hi337_1 hl337_1
             have HR337_3 := Aside0.mk hi337_3
             have HC337_3 := Aside0.mk hl337_3
             clear hi337_3 hl337_3
             have HR337_4 := Aside0.mk hi337_4
             have HC337_4 := Aside0.mk hl337_4
             clear hi337_4 hl337_4
             have HR337_5 := Aside0.mk hi337_5
             have HC337_5 := Aside0.mk hl337_5
             clear hi337_5 hl337_5
             replace p337 := eq_true p337
             replace q337 := eq_true q337
             go_wp2
             go_roundg k3
             case measure => have := HK1.out; have := HJ1.out; have := HK3.out; omega
             case rel => exact ⟨(x3_3), (wrap64 (x4_1 + 1)), (by first | rfl | (simp; done) | (simp [*]; done)), (by first | rfl | (simp; done) | (simp [*]; done)), H', ⟨by have := HK1.out; have := HJ1.out; have := HK3.out; omega⟩, by repeat (first | exact Drawn0.refl _ | apply Drawn0.step)⟩
           ·
            rw [if_neg c8] at H
            exact absurd H (by simp)
          ·
           rw [if_neg c7] at H
           exact absurd H (by simp)
       ·
        rw [if_neg c6] at H
        exact absurd H (by simp)
      ·
       rw [if_neg c5] at H
       exact absurd H (by simp)
     ·
      replace c4 := Bool.eq_false_iff.mpr c4
      subst c4
      have H1 : (if (l0.length : Int) > 120 then (some true) else (some (decide (x3_1 > 3600)))) = some r := by rw [if_neg (show ¬ (false = true) by decide)] at H; exact H
      clear H
      have H := H1
      clear H1
      by_cases c12 : (l0.length : Int) > 120
      ·
       rw [if_pos c12] at H
       have c12b0 : decide (120 < (l0.length : Int)) = true := decide_eq_true c12
       have c12b1 : decide (120 < l0.length) = true := decide_eq_true (by omega)
       clear c12
       obtain rfl := Option.some.inj H
       go_wp2
       go_ret
       exact ⟨by first | rfl | (simp; done) | (simp [*]; done), by repeat (first | exact Drawn0.refl _ | apply Drawn0.step)⟩
      ·
       rw [if_neg c12] at H
       have c12b0 : decide (120 < (l0.length : Int)) = false := decide_eq_false c12
       have c12b1 : decide (120 < l0.length) = false := decide_eq_false (by omega)
       clear c12
       obtain rfl := Option.some.inj H
       go_wp2
       go_ret
       exact ⟨by first | rfl | (simp; done) | (simp [*]; done), by repeat (first | exact Drawn0.refl _ | apply Drawn0.step)⟩

end Go.Proofs.Ytligpleningglaa.F
