-- printed by px2.py, a program of this session, by way of the kit's print; Lean checks it
import Derived.Test.YtligpleningglaaFx0
import Derived.Test.YtligpleningglaaFxf10
import Derived.Test.YtligpleningglaaFxf14
import Derived.Test.YtligpleningglaaFxf17
import Derived.Test.YtligpleningglaaFxf9
import Derived.Test.YtligpleningglaaFxf13
namespace Go.Proofs.Ytligpleningglaa.F
open Go.RowKit Go.Proofs.YtligpleningglaaW.PrintWords Go.Proofs.YtligpleningglaaW.PrintLast Go.Proofs.YtligpleningglaaW.PrintMore
attribute [local go_sem] max2_int min2_int max_two min_two max_three min_three max_four min_four   -- for this text's walks alone
set_option linter.unusedVariables false
set_option linter.unusedSimpArgs false

/-! ### smithylaw19_CallsRound: function 7 -/
mutual
def smithylaw19_CallsRound.j0 : Nat → List (S42) → List (List Int) → List Bool → List (List Int) → Bool → Option (Bool)
  | 0, _, _, _, _, _ => none
  | k + 1, x0, x3, x4, x5, x40 => if x40 = true then (some false) else (smithylaw19_CallsRound.l0 k x0 x3 x4 x5 0)
def smithylaw19_CallsRound.l0 : Nat → List (S42) → List (List Int) → List Bool → List (List Int) → Int → Option (Bool)
  | 0, _, _, _, _, _ => none
  | k + 1, x0, x3, x4, x5, x7 => if x7 < (x5.length : Int) then (smithylaw19_CallsRound.l1 k x0 x3 x4 x5 x7 0) else (some true)
def smithylaw19_CallsRound.l1 : Nat → List (S42) → List (List Int) → List Bool → List (List Int) → Int → Int → Option (Bool)
  | 0, _, _, _, _, _, _ => none
  | k + 1, x0, x3, x4, x5, x7, x8 => if 0 ≤ x7 then (if x7 < (x5.length : Int) then (if x8 < ((rd_L1 x5 x7).length : Int) then (if 0 ≤ x8 then (if (rd (rd_L1 x5 x7) x8) < 0 then (smithylaw19_CallsRound.j3 k x0 x3 x4 x5 x7 x8 (rd (rd_L1 x5 x7) x8) true) else (smithylaw19_CallsRound.j3 k x0 x3 x4 x5 x7 x8 (rd (rd_L1 x5 x7) x8) (decide ((rd (rd_L1 x5 x7) x8) ≥ (x0.length : Int))))) else (none)) else (smithylaw19_CallsRound.l0 k x0 x3 x4 x5 (wrap64 (x7 + 1)))) else (none)) else (none)
def smithylaw19_CallsRound.j3 : Nat → List (S42) → List (List Int) → List Bool → List (List Int) → Int → Int → Int → Bool → Option (Bool)
  | 0, _, _, _, _, _, _, _, _ => none
  | k + 1, x0, x3, x4, x5, x7, x8, x9, x70 => if x70 = true then (some false) else (smithylaw19_CallsRound.l2 k x0 x3 x4 x5 x7 x8 x9 false 0)
def smithylaw19_CallsRound.l2 : Nat → List (S42) → List (List Int) → List Bool → List (List Int) → Int → Int → Int → Bool → Int → Option (Bool)
  | 0, _, _, _, _, _, _, _, _, _ => none
  | k + 1, x0, x3, x4, x5, x7, x8, x9, x10, x11 => if 0 ≤ x9 then (if x9 < (x3.length : Int) then (if x11 < ((rd_L1 x3 x9).length : Int) then (if x10 = true then (smithylaw19_CallsRound.l2 k x0 x3 x4 x5 x7 x8 x9 true (wrap64 (x11 + 1))) else (if 0 ≤ x11 then (smithylaw19_CallsRound.l2 k x0 x3 x4 x5 x7 x8 x9 ((rd (rd_L1 x3 x9) x11) == x9) (wrap64 (x11 + 1))) else (none))) else (if x9 < (x4.length : Int) then (if 0 ≤ x7 then (if x7 < (x5.length : Int) then (if ((rd_L1 x5 x7).length : Int) > 1 then (if ((rdOf false x4 x9) != true) = true then (some false) else (smithylaw19_CallsRound.l1 k x0 x3 x4 x5 x7 (wrap64 (x8 + 1)))) else (if ((rdOf false x4 x9) != x10) = true then (some false) else (smithylaw19_CallsRound.l1 k x0 x3 x4 x5 x7 (wrap64 (x8 + 1))))) else (none)) else (none)) else (none))) else (none)) else (none)
end
def smithylaw19_CallsRound.f (k : Nat) (l0 : List (S42)) : Option (Bool) := (smithylaw19_awake.f).bind fun t509 => (if t509 = true then ((smithylaw19_wide.f k l0).bind fun t510 => (if t510 = true then (some true) else ((calls_Called.f l0).bind fun t511 => ((calls_Round.f l0).bind fun t514 => ((calls_Parts.f t511).bind fun bt517 => (if bt517.2 = 0 then (if (t511.length : Int) = (l0.length : Int) then (smithylaw19_CallsRound.j0 k l0 t511 t514 bt517.1 ((t514.length : Int) != (l0.length : Int))) else (smithylaw19_CallsRound.j0 k l0 t511 t514 bt517.1 true)) else (smithylaw19_CallsRound.j0 k l0 t511 t514 bt517.1 true))))))) else (some false))
theorem smithylaw19_CallsRound.mono_l : ∀ k, (∀ y0 y1 y2 y3 y4, LeO (smithylaw19_CallsRound.j0 k y0 y1 y2 y3 y4) (smithylaw19_CallsRound.j0 (k + 1) y0 y1 y2 y3 y4)) ∧ (∀ y0 y1 y2 y3 y4, LeO (smithylaw19_CallsRound.l0 k y0 y1 y2 y3 y4) (smithylaw19_CallsRound.l0 (k + 1) y0 y1 y2 y3 y4)) ∧ (∀ y0 y1 y2 y3 y4 y5, LeO (smithylaw19_CallsRound.l1 k y0 y1 y2 y3 y4 y5) (smithylaw19_CallsRound.l1 (k + 1) y0 y1 y2 y3 y4 y5)) ∧ (∀ y0 y1 y2 y3 y4 y5 y6 y7, LeO (smithylaw19_CallsRound.j3 k y0 y1 y2 y3 y4 y5 y6 y7) (smithylaw19_CallsRound.j3 (k + 1) y0 y1 y2 y3 y4 y5 y6 y7)) ∧ (∀ y0 y1 y2 y3 y4 y5 y6 y7 y8, LeO (smithylaw19_CallsRound.l2 k y0 y1 y2 y3 y4 y5 y6 y7 y8) (smithylaw19_CallsRound.l2 (k + 1) y0 y1 y2 y3 y4 y5 y6 y7 y8))
  | 0 => ⟨fun _ _ _ _ _ r h => by simp [smithylaw19_CallsRound.j0] at h, fun _ _ _ _ _ r h => by simp [smithylaw19_CallsRound.l0] at h, fun _ _ _ _ _ _ r h => by simp [smithylaw19_CallsRound.l1] at h, fun _ _ _ _ _ _ _ _ r h => by simp [smithylaw19_CallsRound.j3] at h, fun _ _ _ _ _ _ _ _ _ r h => by simp [smithylaw19_CallsRound.l2] at h⟩
  | k + 1 => by
    obtain ⟨ih0, ih1, ih2, ih3, ih4⟩ := smithylaw19_CallsRound.mono_l k
    refine ⟨?_, ?_, ?_, ?_, ?_⟩
    · intro y0 y1 y2 y3 y4
      unfold smithylaw19_CallsRound.j0
      repeat' first
      | (with_reducible exact ih0 _ _ _ _ _)
      | (with_reducible exact ih1 _ _ _ _ _)
      | (with_reducible exact ih2 _ _ _ _ _ _)
      | (with_reducible exact ih3 _ _ _ _ _ _ _ _)
      | (with_reducible exact ih4 _ _ _ _ _ _ _ _ _)
      | (with_reducible exact smithylaw19_wide.mono _ _)
      | (with_reducible exact LeO.refl _)
      | (with_reducible exact LeO.none _)
      | (with_reducible refine LeO.ite ?_ ?_)
      | (with_reducible refine LeO.bind ?_ (fun _ => ?_))
      | exact ih0 _ _ _ _ _
      | exact ih1 _ _ _ _ _
      | exact ih2 _ _ _ _ _ _
      | exact ih3 _ _ _ _ _ _ _ _
      | exact ih4 _ _ _ _ _ _ _ _ _
      | exact smithylaw19_wide.mono _ _
      | exact LeO.none _
      | refine LeO.ite ?_ ?_
      | refine LeO.bind ?_ (fun _ => ?_)
    · intro y0 y1 y2 y3 y4
      unfold smithylaw19_CallsRound.l0
      repeat' first
      | (with_reducible exact ih0 _ _ _ _ _)
      | (with_reducible exact ih1 _ _ _ _ _)
      | (with_reducible exact ih2 _ _ _ _ _ _)
      | (with_reducible exact ih3 _ _ _ _ _ _ _ _)
      | (with_reducible exact ih4 _ _ _ _ _ _ _ _ _)
      | (with_reducible exact smithylaw19_wide.mono _ _)
      | (with_reducible exact LeO.refl _)
      | (with_reducible exact LeO.none _)
      | (with_reducible refine LeO.ite ?_ ?_)
      | (with_reducible refine LeO.bind ?_ (fun _ => ?_))
      | exact ih0 _ _ _ _ _
      | exact ih1 _ _ _ _ _
      | exact ih2 _ _ _ _ _ _
      | exact ih3 _ _ _ _ _ _ _ _
      | exact ih4 _ _ _ _ _ _ _ _ _
      | exact smithylaw19_wide.mono _ _
      | exact LeO.none _
      | refine LeO.ite ?_ ?_
      | refine LeO.bind ?_ (fun _ => ?_)
    · intro y0 y1 y2 y3 y4 y5
      unfold smithylaw19_CallsRound.l1
      repeat' first
      | (with_reducible exact ih0 _ _ _ _ _)
      | (with_reducible exact ih1 _ _ _ _ _)
      | (with_reducible exact ih2 _ _ _ _ _ _)
      | (with_reducible exact ih3 _ _ _ _ _ _ _ _)
      | (with_reducible exact ih4 _ _ _ _ _ _ _ _ _)
      | (with_reducible exact smithylaw19_wide.mono _ _)
      | (with_reducible exact LeO.refl _)
      | (with_reducible exact LeO.none _)
      | (with_reducible refine LeO.ite ?_ ?_)
      | (with_reducible refine LeO.bind ?_ (fun _ => ?_))
      | exact ih0 _ _ _ _ _
      | exact ih1 _ _ _ _ _
      | exact ih2 _ _ _ _ _ _
      | exact ih3 _ _ _ _ _ _ _ _
      | exact ih4 _ _ _ _ _ _ _ _ _
      | exact smithylaw19_wide.mono _ _
      | exact LeO.none _
      | refine LeO.ite ?_ ?_
      | refine LeO.bind ?_ (fun _ => ?_)
    · intro y0 y1 y2 y3 y4 y5 y6 y7
      unfold smithylaw19_CallsRound.j3
      repeat' first
      | (with_reducible exact ih0 _ _ _ _ _)
      | (with_reducible exact ih1 _ _ _ _ _)
      | (with_reducible exact ih2 _ _ _ _ _ _)
      | (with_reducible exact ih3 _ _ _ _ _ _ _ _)
      | (with_reducible exact ih4 _ _ _ _ _ _ _ _ _)
      | (with_reducible exact smithylaw19_wide.mono _ _)
      | (with_reducible exact LeO.refl _)
      | (with_reducible exact LeO.none _)
      | (with_reducible refine LeO.ite ?_ ?_)
      | (with_reducible refine LeO.bind ?_ (fun _ => ?_))
      | exact ih0 _ _ _ _ _
      | exact ih1 _ _ _ _ _
      | exact ih2 _ _ _ _ _ _
      | exact ih3 _ _ _ _ _ _ _ _
      | exact ih4 _ _ _ _ _ _ _ _ _
      | exact smithylaw19_wide.mono _ _
      | exact LeO.none _
      | refine LeO.ite ?_ ?_
      | refine LeO.bind ?_ (fun _ => ?_)
    · intro y0 y1 y2 y3 y4 y5 y6 y7 y8
      unfold smithylaw19_CallsRound.l2
      repeat' first
      | (with_reducible exact ih0 _ _ _ _ _)
      | (with_reducible exact ih1 _ _ _ _ _)
      | (with_reducible exact ih2 _ _ _ _ _ _)
      | (with_reducible exact ih3 _ _ _ _ _ _ _ _)
      | (with_reducible exact ih4 _ _ _ _ _ _ _ _ _)
      | (with_reducible exact smithylaw19_wide.mono _ _)
      | (with_reducible exact LeO.refl _)
      | (with_reducible exact LeO.none _)
      | (with_reducible refine LeO.ite ?_ ?_)
      | (with_reducible refine LeO.bind ?_ (fun _ => ?_))
      | exact ih0 _ _ _ _ _
      | exact ih1 _ _ _ _ _
      | exact ih2 _ _ _ _ _ _
      | exact ih3 _ _ _ _ _ _ _ _
      | exact ih4 _ _ _ _ _ _ _ _ _
      | exact smithylaw19_wide.mono _ _
      | exact LeO.none _
      | refine LeO.ite ?_ ?_
      | refine LeO.bind ?_ (fun _ => ?_)
theorem smithylaw19_CallsRound.mono : ∀ a0 k, LeO (smithylaw19_CallsRound.f k a0) (smithylaw19_CallsRound.f (k + 1) a0) := by
  intro a0 k
  obtain ⟨ih0, ih1, ih2, ih3, ih4⟩ := smithylaw19_CallsRound.mono_l k
  unfold smithylaw19_CallsRound.f
  repeat' first
      | (with_reducible exact ih0 _ _ _ _ _)
      | (with_reducible exact ih1 _ _ _ _ _)
      | (with_reducible exact ih2 _ _ _ _ _ _)
      | (with_reducible exact ih3 _ _ _ _ _ _ _ _)
      | (with_reducible exact ih4 _ _ _ _ _ _ _ _ _)
      | (with_reducible exact smithylaw19_wide.mono _ _)
      | (with_reducible exact LeO.refl _)
      | (with_reducible exact LeO.none _)
      | (with_reducible refine LeO.ite ?_ ?_)
      | (with_reducible refine LeO.bind ?_ (fun _ => ?_))
      | exact ih0 _ _ _ _ _
      | exact ih1 _ _ _ _ _
      | exact ih2 _ _ _ _ _ _
      | exact ih3 _ _ _ _ _ _ _ _
      | exact ih4 _ _ _ _ _ _ _ _ _
      | exact smithylaw19_wide.mono _ _
      | exact LeO.none _
      | refine LeO.ite ?_ ?_
      | refine LeO.bind ?_ (fun _ => ?_)
set_option maxHeartbeats 8000000 in
set_option maxRecDepth 100000 in
theorem smithylaw19_CallsRound.calls (k : Nat) (A0 : Option Addr) (c0 : Nat) (l0 : List (S42)) (r : Bool) (w : World) (hr0 : Kd.C k42 w A0 l0.length l0) (hc0 : l0.length ≤ c0) (h : smithylaw19_CallsRound.f k l0 = some r) :
    Calls Try.prog 7 #[.slice A0 l0.length c0] w fun e w' => e = .returned (.bool r) ∧ Below w.heap.size w w' := by
 have HR0 := Aside0.mk hr0
 have HC0 := Aside0.mk hc0
 clear hr0 hc0
 have HB := Aside0.mk (Below.refl w.heap.size w)
 have H : ((smithylaw19_awake.f).bind fun t509 => (if t509 = true then ((smithylaw19_wide.f k l0).bind fun t510 => (if t510 = true then (some true) else ((calls_Called.f l0).bind fun t511 => ((calls_Round.f l0).bind fun t514 => ((calls_Parts.f t511).bind fun bt517 => (if bt517.2 = 0 then (if (t511.length : Int) = (l0.length : Int) then (smithylaw19_CallsRound.j0 k l0 t511 t514 bt517.1 ((t514.length : Int) != (l0.length : Int))) else (smithylaw19_CallsRound.j0 k l0 t511 t514 bt517.1 true)) else (smithylaw19_CallsRound.j0 k l0 t511 t514 bt517.1 true))))))) else (some false))) = some r := h
 clear h
 replace H := Option.bind_eq_some_iff.mp H
 obtain ⟨t509, A20, H⟩ := H
 replace H : (if t509 = true then ((smithylaw19_wide.f k l0).bind fun t510 => (if t510 = true then (some true) else ((calls_Called.f l0).bind fun t511 => ((calls_Round.f l0).bind fun t514 => ((calls_Parts.f t511).bind fun bt517 => (if bt517.2 = 0 then (if (t511.length : Int) = (l0.length : Int) then (smithylaw19_CallsRound.j0 k l0 t511 t514 bt517.1 ((t514.length : Int) != (l0.length : Int))) else (smithylaw19_CallsRound.j0 k l0 t511 t514 bt517.1 true)) else (smithylaw19_CallsRound.j0 k l0 t511 t514 bt517.1 true))))))) else (some false)) = some r := H
 have A2 := Aside0.mk A20
 clear A20
 have HF3 := Aside0.mk H
 clear H
 go_enter Try.func7, Try.ntmps7
 go_upto_if 13 with (first | (go_at_call 9; (with_reducible refine (smithylaw19_awake.calls  t509 _ A2.out).mono ?_); rintro e w4 ⟨rfl, hb⟩; have n0_ := Aside0.mk (below_step (by repeat (first | (with_reducible first | exact HB.out | apply below_alloc | apply pw_below_drewN | apply below_drew1) | exact HB.out)) hb); clear HB; have HB := n0_; clear n0_; (try clear hb); (try clear hb2); (try clear hk); (try clear hi)))
 repeat (go_quiet (first | (go_at_call 9; (with_reducible refine (smithylaw19_awake.calls  t509 _ A2.out).mono ?_); rintro e w4 ⟨rfl, hb⟩; have n0_ := Aside0.mk (below_step (by repeat (first | (with_reducible first | exact HB.out | apply below_alloc | apply pw_below_drewN | apply below_drew1) | exact HB.out)) hb); clear HB; have HB := n0_; clear n0_; (try clear hb); (try clear hb2); (try clear hk); (try clear hi))); go_upto_if 13 with (first | (go_at_call 9; (with_reducible refine (smithylaw19_awake.calls  t509 _ A2.out).mono ?_); rintro e w4 ⟨rfl, hb⟩; have n0_ := Aside0.mk (below_step (by repeat (first | (with_reducible first | exact HB.out | apply below_alloc | apply pw_below_drewN | apply below_drew1) | exact HB.out)) hb); clear HB; have HB := n0_; clear n0_; (try clear hb); (try clear hb2); (try clear hk); (try clear hi))))
 (try simp only [Act.put, List.setIfInBounds_toArray, List.set_cons_zero, List.set_cons_succ])
 have H := HF3.out
 clear HF3
 by_cases c5 : t509 = true
 ·
  subst c5
  have H1 : ((smithylaw19_wide.f k l0).bind fun t510 => (if t510 = true then (some true) else ((calls_Called.f l0).bind fun t511 => ((calls_Round.f l0).bind fun t514 => ((calls_Parts.f t511).bind fun bt517 => (if bt517.2 = 0 then (if (t511.length : Int) = (l0.length : Int) then (smithylaw19_CallsRound.j0 k l0 t511 t514 bt517.1 ((t514.length : Int) != (l0.length : Int))) else (smithylaw19_CallsRound.j0 k l0 t511 t514 bt517.1 true)) else (smithylaw19_CallsRound.j0 k l0 t511 t514 bt517.1 true))))))) = some r := by rw [if_pos rfl] at H; exact H
  clear H
  have H := H1
  clear H1
  replace H := Option.bind_eq_some_iff.mp H
  obtain ⟨t510, A60, H⟩ := H
  replace H : (if t510 = true then (some true) else ((calls_Called.f l0).bind fun t511 => ((calls_Round.f l0).bind fun t514 => ((calls_Parts.f t511).bind fun bt517 => (if bt517.2 = 0 then (if (t511.length : Int) = (l0.length : Int) then (smithylaw19_CallsRound.j0 k l0 t511 t514 bt517.1 ((t514.length : Int) != (l0.length : Int))) else (smithylaw19_CallsRound.j0 k l0 t511 t514 bt517.1 true)) else (smithylaw19_CallsRound.j0 k l0 t511 t514 bt517.1 true)))))) = some r := H
  have A6 := Aside0.mk A60
  clear A60
  have HF7 := Aside0.mk H
  clear H
  go_upto_if 15 with (first | (go_at_call 13; (with_reducible refine (smithylaw19_wide.calls k _ _ l0 t510 _ ?side1 ?side2 A6.out).mono ?_); (case side1 => repeat (first | exact (Kd.C_below HR0.out HB.out) | (with_reducible refine Kd.C_alloc ?_ _) | (with_reducible refine Kd.C_drewN ?_ _) | (with_reducible refine Kd.C_drew ?_))); (case side2 => exact HC0.out); rintro e w' ⟨rfl, ⟨nd, rfl⟩⟩; (try first | exact ⟨rfl, _, World.drewN_drewN _ _ _⟩ | exact ⟨rfl, _, Eq.trans (World.drewN_drewN _ _ _) (congrArg (World.drewN _) (Nat.add_assoc _ _ _))⟩)))
  repeat (go_quiet (first | (go_at_call 13; (with_reducible refine (smithylaw19_wide.calls k _ _ l0 t510 _ ?side1 ?side2 A6.out).mono ?_); (case side1 => repeat (first | exact (Kd.C_below HR0.out HB.out) | (with_reducible refine Kd.C_alloc ?_ _) | (with_reducible refine Kd.C_drewN ?_ _) | (with_reducible refine Kd.C_drew ?_))); (case side2 => exact HC0.out); rintro e w' ⟨rfl, ⟨nd, rfl⟩⟩; (try first | exact ⟨rfl, _, World.drewN_drewN _ _ _⟩ | exact ⟨rfl, _, Eq.trans (World.drewN_drewN _ _ _) (congrArg (World.drewN _) (Nat.add_assoc _ _ _))⟩))); go_upto_if 15 with (first | (go_at_call 13; (with_reducible refine (smithylaw19_wide.calls k _ _ l0 t510 _ ?side1 ?side2 A6.out).mono ?_); (case side1 => repeat (first | exact (Kd.C_below HR0.out HB.out) | (with_reducible refine Kd.C_alloc ?_ _) | (with_reducible refine Kd.C_drewN ?_ _) | (with_reducible refine Kd.C_drew ?_))); (case side2 => exact HC0.out); rintro e w' ⟨rfl, ⟨nd, rfl⟩⟩; (try first | exact ⟨rfl, _, World.drewN_drewN _ _ _⟩ | exact ⟨rfl, _, Eq.trans (World.drewN_drewN _ _ _) (congrArg (World.drewN _) (Nat.add_assoc _ _ _))⟩))))
  (try simp only [Act.put, List.setIfInBounds_toArray, List.set_cons_zero, List.set_cons_succ])
  have H := HF7.out
  clear HF7
  by_cases c8 : t510 = true
  ·
   subst c8
   have H1 : (some true) = some r := by rw [if_pos rfl] at H; exact H
   clear H
   have H := H1
   clear H1
   obtain rfl := Option.some.inj H
   go_wp2
   repeat (go_quiet (fail); try go_wp2)
   go_ret
   exact ⟨by first | rfl | (simp <;> rfl) | (simp [*] <;> rfl), by repeat (first | (with_reducible first | exact HB.out | apply below_alloc | apply pw_below_drewN | apply below_drew1) | exact HB.out)⟩
  ·
   replace c8 := Bool.eq_false_iff.mpr c8
   subst c8
   have H1 : ((calls_Called.f l0).bind fun t511 => ((calls_Round.f l0).bind fun t514 => ((calls_Parts.f t511).bind fun bt517 => (if bt517.2 = 0 then (if (t511.length : Int) = (l0.length : Int) then (smithylaw19_CallsRound.j0 k l0 t511 t514 bt517.1 ((t514.length : Int) != (l0.length : Int))) else (smithylaw19_CallsRound.j0 k l0 t511 t514 bt517.1 true)) else (smithylaw19_CallsRound.j0 k l0 t511 t514 bt517.1 true))))) = some r := by rw [if_neg (show ¬ (false = true) by decide)] at H; exact H
   clear H
   have H := H1
   clear H1
   replace H := Option.bind_eq_some_iff.mp H
   obtain ⟨t511, A90, H⟩ := H
   replace H : ((calls_Round.f l0).bind fun t514 => ((calls_Parts.f t511).bind fun bt517 => (if bt517.2 = 0 then (if (t511.length : Int) = (l0.length : Int) then (smithylaw19_CallsRound.j0 k l0 t511 t514 bt517.1 ((t514.length : Int) != (l0.length : Int))) else (smithylaw19_CallsRound.j0 k l0 t511 t514 bt517.1 true)) else (smithylaw19_CallsRound.j0 k l0 t511 t514 bt517.1 true)))) = some r := H
   have A9 := Aside0.mk A90
   clear A90
   replace H := Option.bind_eq_some_iff.mp H
   obtain ⟨t514, A100, H⟩ := H
   replace H : ((calls_Parts.f t511).bind fun bt517 => (if bt517.2 = 0 then (if (t511.length : Int) = (l0.length : Int) then (smithylaw19_CallsRound.j0 k l0 t511 t514 bt517.1 ((t514.length : Int) != (l0.length : Int))) else (smithylaw19_CallsRound.j0 k l0 t511 t514 bt517.1 true)) else (smithylaw19_CallsRound.j0 k l0 t511 t514 bt517.1 true))) = some r := H
   have A10 := Aside0.mk A100
   clear A100
   replace H := Option.bind_eq_some_iff.mp H
   obtain ⟨⟨t517, t518⟩, A110, H⟩ := H
   replace H : (if t518 = 0 then (if (t511.length : Int) = (l0.length : Int) then (smithylaw19_CallsRound.j0 k l0 t511 t514 t517 ((t514.length : Int) != (l0.length : Int))) else (smithylaw19_CallsRound.j0 k l0 t511 t514 t517 true)) else (smithylaw19_CallsRound.j0 k l0 t511 t514 t517 true)) = some r := H
   have A11 := Aside0.mk A110
   clear A110
   have HC12 := Aside0.mk H
   clear H
   go_upto_region 8 with (first | (go_at_call 14; (with_reducible refine (calls_Called.calls _ _ l0 t511 _ ?side1 ?side2 A9.out).mono ?_); (case side1 => repeat (first | exact (Kd.C_below HR0.out HB.out) | (with_reducible refine Kd.C_alloc ?_ _) | (with_reducible refine Kd.C_drewN ?_ _) | (with_reducible refine Kd.C_drew ?_))); (case side2 => exact HC0.out); rintro e w13 ⟨v512, rfl, ho0, hb⟩; have n0_ := Aside0.mk (Kd.S_lower ho0 (below_size (by repeat (first | (with_reducible first | exact HB.out | apply below_alloc | apply pw_below_drewN | apply below_drew1) | exact HB.out)))); have n1_ := Aside0.mk (below_step (by repeat (first | (with_reducible first | exact HB.out | apply below_alloc | apply pw_below_drewN | apply below_drew1) | exact HB.out)) hb); clear HB; have HO513 := n0_; have HB := n1_; clear n0_ n1_; (try clear hb); (try clear hb2); (try clear hk); (try clear hi); (try clear ho0)) | (go_at_call 17; (with_reducible refine (calls_Round.calls _ _ l0 t514 _ ?side1 ?side2 A10.out).mono ?_); (case side1 => repeat (first | exact (Kd.C_below HR0.out HB.out) | (with_reducible refine Kd.C_alloc ?_ _) | (with_reducible refine Kd.C_drewN ?_ _) | (with_reducible refine Kd.C_drew ?_))); (case side2 => exact HC0.out); rintro e w14 ⟨v515, rfl, ho0, hb⟩; have n0_ := Aside0.mk (Kd.S_below (by (with_reducible repeat (first | apply Kd.S_alloc | apply Kd.S_drewN | apply Kd.S_drew)); exact HO513.out) hb); have n1_ := Aside0.mk (Kd.R_lower ho0 (below_size (by repeat (first | (with_reducible first | exact HB.out | apply below_alloc | apply pw_below_drewN | apply below_drew1) | exact HB.out)))); have n2_ := Aside0.mk (below_step (by repeat (first | (with_reducible first | exact HB.out | apply below_alloc | apply pw_below_drewN | apply below_drew1) | exact HB.out)) hb); clear HO513; clear HB; have HO513 := n0_; have HO516 := n1_; have HB := n2_; clear n0_ n1_ n2_; (try clear hb); (try clear hb2); (try clear hk); (try clear hi); (try clear ho0); obtain ⟨Ao15, co15, eo15⟩ := Kd.S_slice HO513.out; subst eo15) | (go_at_call 10; (with_reducible refine (calls_Parts.calls _ _ t511 t517 t518 _ ?side1 ?side2 A11.out).mono ?_); (case side1 => repeat (first | exact (Kd.S_reads' HO513.out).2.2 | (with_reducible refine Kd.C_alloc ?_ _) | (with_reducible refine Kd.C_drewN ?_ _) | (with_reducible refine Kd.C_drew ?_))); (case side2 => exact (Kd.S_reads' HO513.out).2.1); rintro e w16 ⟨v519, rfl, ho0, hb⟩; have n0_ := Aside0.mk (Kd.S_elder' (by (with_reducible repeat (first | apply Kd.S_alloc | apply Kd.S_drewN | apply Kd.S_drew)); exact HO513.out) (Kd.S_base ho0) hb); have n1_ := Aside0.mk (Kd.R_below (by (with_reducible repeat (first | apply Kd.R_alloc | apply Kd.R_drewN | apply Kd.R_drew)); exact HO516.out) hb); have n2_ := Aside0.mk (Kd.S_lower (Kd.S_new' ho0 (Kd.S_lt (by (with_reducible repeat (first | apply Kd.S_alloc | apply Kd.S_drewN | apply Kd.S_drew)); exact HO513.out))) (below_size (by repeat (first | (with_reducible first | exact HB.out | apply below_alloc | apply pw_below_drewN | apply below_drew1) | exact HB.out)))); have n3_ := Aside0.mk (below_step (by repeat (first | (with_reducible first | exact HB.out | apply below_alloc | apply pw_below_drewN | apply below_drew1) | exact HB.out)) hb); clear HO513; clear HO516; clear HB; have HO513 := n0_; have HO516 := n1_; have HO520 := n2_; have HB := n3_; clear n0_ n1_ n2_ n3_; (try clear hb); (try clear hb2); (try clear hk); (try clear hi); (try clear ho0)))
   repeat (go_quiet (first | (go_at_call 14; (with_reducible refine (calls_Called.calls _ _ l0 t511 _ ?side1 ?side2 A9.out).mono ?_); (case side1 => repeat (first | exact (Kd.C_below HR0.out HB.out) | (with_reducible refine Kd.C_alloc ?_ _) | (with_reducible refine Kd.C_drewN ?_ _) | (with_reducible refine Kd.C_drew ?_))); (case side2 => exact HC0.out); rintro e w13 ⟨v512, rfl, ho0, hb⟩; have n0_ := Aside0.mk (Kd.S_lower ho0 (below_size (by repeat (first | (with_reducible first | exact HB.out | apply below_alloc | apply pw_below_drewN | apply below_drew1) | exact HB.out)))); have n1_ := Aside0.mk (below_step (by repeat (first | (with_reducible first | exact HB.out | apply below_alloc | apply pw_below_drewN | apply below_drew1) | exact HB.out)) hb); clear HB; have HO513 := n0_; have HB := n1_; clear n0_ n1_; (try clear hb); (try clear hb2); (try clear hk); (try clear hi); (try clear ho0)) | (go_at_call 17; (with_reducible refine (calls_Round.calls _ _ l0 t514 _ ?side1 ?side2 A10.out).mono ?_); (case side1 => repeat (first | exact (Kd.C_below HR0.out HB.out) | (with_reducible refine Kd.C_alloc ?_ _) | (with_reducible refine Kd.C_drewN ?_ _) | (with_reducible refine Kd.C_drew ?_))); (case side2 => exact HC0.out); rintro e w14 ⟨v515, rfl, ho0, hb⟩; have n0_ := Aside0.mk (Kd.S_below (by (with_reducible repeat (first | apply Kd.S_alloc | apply Kd.S_drewN | apply Kd.S_drew)); exact HO513.out) hb); have n1_ := Aside0.mk (Kd.R_lower ho0 (below_size (by repeat (first | (with_reducible first | exact HB.out | apply below_alloc | apply pw_below_drewN | apply below_drew1) | exact HB.out)))); have n2_ := Aside0.mk (below_step (by repeat (first | (with_reducible first | exact HB.out | apply below_alloc | apply pw_below_drewN | apply below_drew1) | exact HB.out)) hb); clear HO513; clear HB; have HO513 := n0_; have HO516 := n1_; have HB := n2_; clear n0_ n1_ n2_; (try clear hb); (try clear hb2); (try clear hk); (try clear hi); (try clear ho0); obtain ⟨Ao15, co15, eo15⟩ := Kd.S_slice HO513.out; subst eo15) | (go_at_call 10; (with_reducible refine (calls_Parts.calls _ _ t511 t517 t518 _ ?side1 ?side2 A11.out).mono ?_); (case side1 => repeat (first | exact (Kd.S_reads' HO513.out).2.2 | (with_reducible refine Kd.C_alloc ?_ _) | (with_reducible refine Kd.C_drewN ?_ _) | (with_reducible refine Kd.C_drew ?_))); (case side2 => exact (Kd.S_reads' HO513.out).2.1); rintro e w16 ⟨v519, rfl, ho0, hb⟩; have n0_ := Aside0.mk (Kd.S_elder' (by (with_reducible repeat (first | apply Kd.S_alloc | apply Kd.S_drewN | apply Kd.S_drew)); exact HO513.out) (Kd.S_base ho0) hb); have n1_ := Aside0.mk (Kd.R_below (by (with_reducible repeat (first | apply Kd.R_alloc | apply Kd.R_drewN | apply Kd.R_drew)); exact HO516.out) hb); have n2_ := Aside0.mk (Kd.S_lower (Kd.S_new' ho0 (Kd.S_lt (by (with_reducible repeat (first | apply Kd.S_alloc | apply Kd.S_drewN | apply Kd.S_drew)); exact HO513.out))) (below_size (by repeat (first | (with_reducible first | exact HB.out | apply below_alloc | apply pw_below_drewN | apply below_drew1) | exact HB.out)))); have n3_ := Aside0.mk (below_step (by repeat (first | (with_reducible first | exact HB.out | apply below_alloc | apply pw_below_drewN | apply below_drew1) | exact HB.out)) hb); clear HO513; clear HO516; clear HB; have HO513 := n0_; have HO516 := n1_; have HO520 := n2_; have HB := n3_; clear n0_ n1_ n2_ n3_; (try clear hb); (try clear hb2); (try clear hk); (try clear hi); (try clear ho0))); go_upto_region 8 with (first | (go_at_call 14; (with_reducible refine (calls_Called.calls _ _ l0 t511 _ ?side1 ?side2 A9.out).mono ?_); (case side1 => repeat (first | exact (Kd.C_below HR0.out HB.out) | (with_reducible refine Kd.C_alloc ?_ _) | (with_reducible refine Kd.C_drewN ?_ _) | (with_reducible refine Kd.C_drew ?_))); (case side2 => exact HC0.out); rintro e w13 ⟨v512, rfl, ho0, hb⟩; have n0_ := Aside0.mk (Kd.S_lower ho0 (below_size (by repeat (first | (with_reducible first | exact HB.out | apply below_alloc | apply pw_below_drewN | apply below_drew1) | exact HB.out)))); have n1_ := Aside0.mk (below_step (by repeat (first | (with_reducible first | exact HB.out | apply below_alloc | apply pw_below_drewN | apply below_drew1) | exact HB.out)) hb); clear HB; have HO513 := n0_; have HB := n1_; clear n0_ n1_; (try clear hb); (try clear hb2); (try clear hk); (try clear hi); (try clear ho0)) | (go_at_call 17; (with_reducible refine (calls_Round.calls _ _ l0 t514 _ ?side1 ?side2 A10.out).mono ?_); (case side1 => repeat (first | exact (Kd.C_below HR0.out HB.out) | (with_reducible refine Kd.C_alloc ?_ _) | (with_reducible refine Kd.C_drewN ?_ _) | (with_reducible refine Kd.C_drew ?_))); (case side2 => exact HC0.out); rintro e w14 ⟨v515, rfl, ho0, hb⟩; have n0_ := Aside0.mk (Kd.S_below (by (with_reducible repeat (first | apply Kd.S_alloc | apply Kd.S_drewN | apply Kd.S_drew)); exact HO513.out) hb); have n1_ := Aside0.mk (Kd.R_lower ho0 (below_size (by repeat (first | (with_reducible first | exact HB.out | apply below_alloc | apply pw_below_drewN | apply below_drew1) | exact HB.out)))); have n2_ := Aside0.mk (below_step (by repeat (first | (with_reducible first | exact HB.out | apply below_alloc | apply pw_below_drewN | apply below_drew1) | exact HB.out)) hb); clear HO513; clear HB; have HO513 := n0_; have HO516 := n1_; have HB := n2_; clear n0_ n1_ n2_; (try clear hb); (try clear hb2); (try clear hk); (try clear hi); (try clear ho0); obtain ⟨Ao15, co15, eo15⟩ := Kd.S_slice HO513.out; subst eo15) | (go_at_call 10; (with_reducible refine (calls_Parts.calls _ _ t511 t517 t518 _ ?side1 ?side2 A11.out).mono ?_); (case side1 => repeat (first | exact (Kd.S_reads' HO513.out).2.2 | (with_reducible refine Kd.C_alloc ?_ _) | (with_reducible refine Kd.C_drewN ?_ _) | (with_reducible refine Kd.C_drew ?_))); (case side2 => exact (Kd.S_reads' HO513.out).2.1); rintro e w16 ⟨v519, rfl, ho0, hb⟩; have n0_ := Aside0.mk (Kd.S_elder' (by (with_reducible repeat (first | apply Kd.S_alloc | apply Kd.S_drewN | apply Kd.S_drew)); exact HO513.out) (Kd.S_base ho0) hb); have n1_ := Aside0.mk (Kd.R_below (by (with_reducible repeat (first | apply Kd.R_alloc | apply Kd.R_drewN | apply Kd.R_drew)); exact HO516.out) hb); have n2_ := Aside0.mk (Kd.S_lower (Kd.S_new' ho0 (Kd.S_lt (by (with_reducible repeat (first | apply Kd.S_alloc | apply Kd.S_drewN | apply Kd.S_drew)); exact HO513.out))) (below_size (by repeat (first | (with_reducible first | exact HB.out | apply below_alloc | apply pw_below_drewN | apply below_drew1) | exact HB.out)))); have n3_ := Aside0.mk (below_step (by repeat (first | (with_reducible first | exact HB.out | apply below_alloc | apply pw_below_drewN | apply below_drew1) | exact HB.out)) hb); clear HO513; clear HO516; clear HB; have HO513 := n0_; have HO516 := n1_; have HO520 := n2_; have HB := n3_; clear n0_ n1_ n2_ n3_; (try clear hb); (try clear hb2); (try clear hk); (try clear hi); (try clear ho0))))
   (try simp only [Act.put, List.setIfInBounds_toArray, List.set_cons_zero, List.set_cons_succ])
   go_cut [40] (fun v40 wc => ∃ (kq : Nat) (x40_11 : Bool), v40 = .bool x40_11 ∧ Aside0 (smithylaw19_CallsRound.j0 kq l0 t511 t514 t517 x40_11 = some r) ∧ Aside0 (kq ≤ k) ∧ Aside0 (Kd.S (Kd.slice 3 (Kd.int .i64)) 35 wc w.heap.size (fun k_ => some k_ ≠ (v519 : Value).ownBlock) (.slice Ao15 t511.length co15) t511) ∧ Aside0 (Kd.R Kd.bool 4 wc w.heap.size (fun _ => True) v515 t514) ∧ Aside0 (Kd.S (Kd.slice 3 (Kd.int .i64)) 35 wc w.heap.size (fun k_ => some k_ ≠ ((.slice Ao15 t511.length co15) : Value).ownBlock) v519 t517) ∧ Aside0 (Below w.heap.size w wc))
   case first =>
    have H := HC12.out
    clear HC12
    by_cases c17 : t518 = 0
    ·
     rw [if_pos c17] at H
     have c17b0 : (t518 == 0) = true := beq_iff_eq.mpr c17
     have c17b1 : (t518 != 0) = false := bne_eq_false_iff_eq.mpr c17
     clear c17
     (first | rw [c17b0] | (simp only [i64_w, i32_w]; rw [c17b0]) | skip)
     by_cases c18 : (t511.length : Int) = (l0.length : Int)
     ·
      rw [if_pos c18] at H
      have c18b0 : ((t511.length : Int) == (l0.length : Int)) = true := beq_iff_eq.mpr c18
      have c18b1 : ((t511.length : Int) != (l0.length : Int)) = false := bne_eq_false_iff_eq.mpr c18
      have c18b2 : (t511.length == l0.length) = true := by first | simpa using c18 | (simp at c18 ⊢; omega)
      clear c18
      have H' := Aside0.mk H
      clear H
      obtain ⟨Ao19, co19, eo19⟩ := Kd.R_slice HO516.out
      subst eo19
      go_wp2
      repeat (go_quiet (fail); try go_wp2)
      go_meet
      case rel => exact ⟨_, (((t514.length : Int) != (l0.length : Int))), (by first | rfl | (simp; done) | (simp [*]; done)), H', ⟨by first | omega | exact Nat.le_refl _⟩, ⟨by (with_reducible repeat (first | apply Kd.S_alloc | apply Kd.S_drewN | apply Kd.S_drew)); exact Kd.S_mono HO513.out (fun _ hk => hk.2)⟩, ⟨by (with_reducible repeat (first | apply Kd.R_alloc | apply Kd.R_drewN | apply Kd.R_drew)); exact HO516.out⟩, ⟨by (with_reducible repeat (first | apply Kd.S_alloc | apply Kd.S_drewN | apply Kd.S_drew)); exact Kd.S_mono HO520.out (fun _ hk => hk.2)⟩, ⟨by repeat (first | (with_reducible first | exact HB.out | apply below_alloc | apply pw_below_drewN | apply below_drew1) | exact HB.out)⟩⟩
     ·
      rw [if_neg c18] at H
      have c18b0 : ((t511.length : Int) == (l0.length : Int)) = false := beq_eq_false_iff_ne.mpr c18
      have c18b1 : ((t511.length : Int) != (l0.length : Int)) = true := bne_iff_ne.mpr c18
      have c18b2 : (t511.length == l0.length) = false := by first | simpa using c18 | (simp at c18 ⊢; omega)
      have H' := Aside0.mk H
      clear H
      go_wp2
      repeat (go_quiet (fail); try go_wp2)
      go_meet
      case rel => exact ⟨_, (true), (by first | rfl | (simp; done) | (simp [*]; done)), H', ⟨by first | omega | exact Nat.le_refl _⟩, ⟨by (with_reducible repeat (first | apply Kd.S_alloc | apply Kd.S_drewN | apply Kd.S_drew)); exact Kd.S_mono HO513.out (fun _ hk => hk.2)⟩, ⟨by (with_reducible repeat (first | apply Kd.R_alloc | apply Kd.R_drewN | apply Kd.R_drew)); exact HO516.out⟩, ⟨by (with_reducible repeat (first | apply Kd.S_alloc | apply Kd.S_drewN | apply Kd.S_drew)); exact Kd.S_mono HO520.out (fun _ hk => hk.2)⟩, ⟨by repeat (first | (with_reducible first | exact HB.out | apply below_alloc | apply pw_below_drewN | apply below_drew1) | exact HB.out)⟩⟩
    ·
     rw [if_neg c17] at H
     have c17b0 : (t518 == 0) = false := beq_eq_false_iff_ne.mpr c17
     have c17b1 : (t518 != 0) = true := bne_iff_ne.mpr c17
     (first | rw [c17b0] | (simp only [i64_w, i32_w]; rw [c17b0]) | skip)
     have H' := Aside0.mk H
     clear H
     go_wp2
     repeat (go_quiet (fail); try go_wp2)
     go_meet
     case rel => exact ⟨_, (true), (by first | rfl | (simp; done) | (simp [*]; done)), H', ⟨by first | omega | exact Nat.le_refl _⟩, ⟨by (with_reducible repeat (first | apply Kd.S_alloc | apply Kd.S_drewN | apply Kd.S_drew)); exact Kd.S_mono HO513.out (fun _ hk => hk.2)⟩, ⟨by (with_reducible repeat (first | apply Kd.R_alloc | apply Kd.R_drewN | apply Kd.R_drew)); exact HO516.out⟩, ⟨by (with_reducible repeat (first | apply Kd.S_alloc | apply Kd.S_drewN | apply Kd.S_drew)); exact Kd.S_mono HO520.out (fun _ hk => hk.2)⟩, ⟨by repeat (first | (with_reducible first | exact HB.out | apply below_alloc | apply pw_below_drewN | apply below_drew1) | exact HB.out)⟩⟩
   case rest =>
    clear HC12
    try clear c1
    try clear p2
    try clear c5
    try clear c7
    try clear c8
    try clear c17
    try clear c17b0
    try clear c17b1
    try clear c18
    try clear c18b0
    try clear c18b1
    try clear c18b2
    obtain ⟨kq, x40_11, rfl, HA, HJ11, HO_3, HO_4, HO_5, HB⟩ := hcut
    cases kq with
    | zero => exact absurd HA.out (by simp [smithylaw19_CallsRound.j0])
    | succ kj11 =>
     have H := HA.out
     clear HA
     simp only [smithylaw19_CallsRound.j0] at H
     by_cases c20 : x40_11 = true
     ·
      subst c20
      have H1 : (some false) = some r := by rw [if_pos rfl] at H; exact H
      clear H
      have H := H1
      clear H1
      obtain rfl := Option.some.inj H
      go_wp2
      repeat (go_quiet (fail); try go_wp2)
      go_ret
      exact ⟨by first | rfl | (simp <;> rfl) | (simp [*] <;> rfl), by repeat (first | (with_reducible first | exact HB.out | apply below_alloc | apply pw_below_drewN | apply below_drew1) | exact HB.out)⟩
     ·
      replace c20 := Bool.eq_false_iff.mpr c20
      subst c20
      have H1 : (smithylaw19_CallsRound.l0 kj11 l0 t511 t514 t517 0) = some r := by rw [if_neg (show ¬ (false = true) by decide)] at H; exact H
      clear H
      have H := H1
      clear H1
      have H' := Aside0.mk H
      clear H
      go_wp2
      repeat (go_quiet (fail); try go_wp2)
      go_loopg [7] kj11 (fun kq v7 w' => ∃ (x7_2 : Int), v7 = .int .i64 x7_2 ∧ Aside0 (smithylaw19_CallsRound.l0 kq l0 t511 t514 t517 x7_2 = some r) ∧ Aside0 (kq ≤ kj11) ∧ Aside0 (Kd.S (Kd.slice 3 (Kd.int .i64)) 35 w' w.heap.size (fun k_ => some k_ ≠ (v519 : Value).ownBlock) (.slice Ao15 t511.length co15) t511) ∧ Aside0 (Kd.R Kd.bool 4 w' w.heap.size (fun _ => True) v515 t514) ∧ Aside0 (Kd.S (Kd.slice 3 (Kd.int .i64)) 35 w' w.heap.size (fun k_ => some k_ ≠ ((.slice Ao15 t511.length co15) : Value).ownBlock) v519 t517) ∧ Aside0 (Below w.heap.size w w'))
      case atStart => exact ⟨(0), (by first | rfl | (simp; done) | (simp [*]; done)), H', ⟨Nat.le_refl _⟩, ⟨by (with_reducible repeat (first | apply Kd.S_alloc | apply Kd.S_drewN | apply Kd.S_drew)); exact HO_3.out⟩, ⟨by (with_reducible repeat (first | apply Kd.R_alloc | apply Kd.R_drewN | apply Kd.R_drew)); exact HO_4.out⟩, ⟨by (with_reducible repeat (first | apply Kd.S_alloc | apply Kd.S_drewN | apply Kd.S_drew)); exact HO_5.out⟩, ⟨by repeat (first | (with_reducible first | exact HB.out | apply below_alloc | apply pw_below_drewN | apply below_drew1) | exact HB.out)⟩⟩
      case round =>
       clear H'
       try clear c1
       try clear c2
       try clear p2
       try clear c5
       try clear c7
       try clear c8
       try clear c17
       try clear c17b0
       try clear c17b1
       try clear c18
       try clear c18b0
       try clear c18b1
       try clear c18b2
       try clear c20
       try clear p2
       obtain ⟨x7_2, rfl, HA, HK2, HO_3, HO_4, HO_5, HB⟩ := hrel
       cases gk with
       | zero => exact absurd HA.out (by simp [smithylaw19_CallsRound.l0])
       | succ k2 =>
        have H := HA.out
        clear HA
        simp only [smithylaw19_CallsRound.l0] at H
        by_cases c21 : x7_2 < (t517.length : Int)
        ·
         rw [if_pos c21] at H
         have c21b0 : decide (x7_2 < (t517.length : Int)) = true := decide_eq_true c21
         clear c21
         have H' := Aside0.mk H
         clear H
         obtain ⟨Ao22, co22, eo22⟩ := Kd.S_slice HO_5.out
         subst eo22
         go_wp2
         repeat (go_quiet (fail); try go_wp2)
         go_loopg [8] k2 (fun kq v8 w' => ∃ (x8_3 : Int), v8 = .int .i64 x8_3 ∧ Aside0 (smithylaw19_CallsRound.l1 kq l0 t511 t514 t517 x7_2 x8_3 = some r) ∧ Aside0 (kq ≤ k2) ∧ Aside0 (Kd.S (Kd.slice 3 (Kd.int .i64)) 35 w' w.heap.size (fun k_ => some k_ ≠ ((.slice Ao22 t517.length co22) : Value).ownBlock) (.slice Ao15 t511.length co15) t511) ∧ Aside0 (Kd.R Kd.bool 4 w' w.heap.size (fun _ => True) v515 t514) ∧ Aside0 (Kd.S (Kd.slice 3 (Kd.int .i64)) 35 w' w.heap.size (fun k_ => some k_ ≠ ((.slice Ao15 t511.length co15) : Value).ownBlock) (.slice Ao22 t517.length co22) t517) ∧ Aside0 (Below w.heap.size w w'))
         case atStart => exact ⟨(0), (by first | rfl | (simp; done) | (simp [*]; done)), H', ⟨Nat.le_refl _⟩, ⟨by (with_reducible repeat (first | apply Kd.S_alloc | apply Kd.S_drewN | apply Kd.S_drew)); exact HO_3.out⟩, ⟨by (with_reducible repeat (first | apply Kd.R_alloc | apply Kd.R_drewN | apply Kd.R_drew)); exact HO_4.out⟩, ⟨by (with_reducible repeat (first | apply Kd.S_alloc | apply Kd.S_drewN | apply Kd.S_drew)); exact HO_5.out⟩, ⟨by repeat (first | (with_reducible first | exact HB.out | apply below_alloc | apply pw_below_drewN | apply below_drew1) | exact HB.out)⟩⟩
         case round =>
          clear H'
          try clear c1
          try clear c2
          try clear p2
          try clear c5
          try clear c7
          try clear c8
          try clear c17
          try clear c17b0
          try clear c17b1
          try clear c18
          try clear c18b0
          try clear c18b1
          try clear c18b2
          try clear c20
          try clear c21
          try clear c21b0
          try clear p2
          obtain ⟨x8_3, rfl, HA, HK3, HO_3, HO_4, HO_5, HB⟩ := hrel
          cases gk with
          | zero => exact absurd HA.out (by simp [smithylaw19_CallsRound.l1])
          | succ k3 =>
           have H := HA.out
           clear HA
           simp only [smithylaw19_CallsRound.l1] at H
           by_cases c23 : 0 ≤ x7_2
           ·
            rw [if_pos c23] at H
            have c23b0 : decide (0 ≤ x7_2) = true := decide_eq_true c23
            clear c23
            by_cases c24 : x7_2 < (t517.length : Int)
            ·
             rw [if_pos c24] at H
             have c24b0 : decide (x7_2 < (t517.length : Int)) = true := decide_eq_true c24
             clear c24
             by_cases c25 : x8_3 < ((rd_L1 t517 x7_2).length : Int)
             ·
              rw [if_pos c25] at H
              have c25b0 : decide (x8_3 < ((rd_L1 t517 x7_2).length : Int)) = true := decide_eq_true c25
              clear c25
              by_cases c26 : 0 ≤ x8_3
              ·
               rw [if_pos c26] at H
               have c26b0 : decide (0 ≤ x8_3) = true := decide_eq_true c26
               clear c26
               have HC27 := Aside0.mk H
               clear H
               have p521 : 0 ≤ (x7_2 : Int) := of_decide_eq_true (by first | (with_reducible assumption) | assumption)
               have q521 : x7_2 < (t517.length : Int) := of_decide_eq_true (by first | (with_reducible assumption) | assumption)
               obtain ⟨ad521, A521_0, c521_0, e521, hx521_0, hl521_0, hi521_0⟩ := at_L1 (Kd.S_reads' HO_5.out).2.2 x7_2 p521 q521
               cases e521
               obtain ⟨ce521, hce521, hMe521, hcc521⟩ := Kd.S_get HO_5.out [] x7_2 p521 (by first | exact q521 | exact of_decide_eq_true (by first | (with_reducible assumption) | assumption) | (have e_ := (Kd.S_reads' HO_5.out).1; omega))
               obtain ⟨ve521_0, rfl, ge521_0⟩ := hMe521
               have hv521_0 := hcc521 0 _ rfl
               rw [Nat.add_zero, show ((Kd.slice 3 (Kd.int .i64))).sz = 1 from rfl, Nat.mul_one] at hv521_0
               replace hv521_0 := Option.some.inj (hv521_0.symm.trans hx521_0)
               rw [hv521_0] at ge521_0
               have HL521_0 := Aside0.mk (show Kd.R (Kd.int .i64) 3 _ _ _ _ (rd_L1 t517 x7_2) from ge521_0)
               clear hv521_0 ge521_0
               clear hcc521 hce521
               have HR521_0 := Aside0.mk hi521_0
               have HC521_0 := Aside0.mk hl521_0
               clear hi521_0 hl521_0
               replace p521 := eq_true p521
               replace q521 := eq_true q521
               have p522 : 0 ≤ (x7_2 : Int) := of_decide_eq_true (by first | (with_reducible assumption) | assumption)
               have q522 : x7_2 < (t517.length : Int) := of_decide_eq_true (by first | (with_reducible assumption) | assumption)
               obtain ⟨ad522, A522_0, c522_0, e522, hx522_0, hl522_0, hi522_0⟩ := at_L1 (Kd.S_reads' HO_5.out).2.2 x7_2 p522 q522
               obtain rfl : ad521 = ad522 := (by injection e522)
               obtain ⟨ce522, hce522, hMe522, hcc522⟩ := Kd.S_get HO_5.out [] x7_2 p522 (by first | exact q522 | exact of_decide_eq_true (by first | (with_reducible assumption) | assumption) | (have e_ := (Kd.S_reads' HO_5.out).1; omega))
               obtain ⟨ve522_0, rfl, ge522_0⟩ := hMe522
               have hv522_0 := hcc522 0 _ rfl
               rw [Nat.add_zero, show ((Kd.slice 3 (Kd.int .i64))).sz = 1 from rfl, Nat.mul_one] at hv522_0
               replace hv522_0 := Option.some.inj (hv522_0.symm.trans hx522_0)
               rw [hv522_0] at ge522_0
               have HL522_0 := Aside0.mk (show Kd.R (Kd.int .i64) 3 _ _ _ _ (rd_L1 t517 x7_2) from ge522_0)
               clear hv522_0 ge522_0
               clear hcc522 hce522
               have HR522_0 := Aside0.mk hi522_0
               have HC522_0 := Aside0.mk hl522_0
               clear hi522_0 hl522_0
               replace p522 := eq_true p522
               replace q522 := eq_true q522
               have ea_ := Option.some.inj (hx521_0.symm.trans hx522_0)
               injection ea_ with ea_ en_ ec_
               subst ea_
               subst ec_
               clear en_
               have p523 : 0 ≤ (x8_3 : Int) := of_decide_eq_true (by first | (with_reducible assumption) | assumption)
               have q523 : x8_3 < ((rd_L1 t517 x7_2).length : Int) := of_decide_eq_true (by first | (with_reducible assumption) | assumption)
               obtain ⟨ad523, e523, hx523_0⟩ := Kd.at_int (by repeat (first | (with_reducible exact HR522_0.out) | (with_reducible refine Kd.C_alloc ?_ _) | (with_reducible refine Kd.C_drewN ?_ _) | (with_reducible refine Kd.C_drew ?_) | exact HR522_0.out)) x8_3 p523 q523
               cases e523
               replace p523 := eq_true p523
               replace q523 := eq_true q523
               go_upto_region 17 with (fail)
               repeat (go_quiet (fail); go_upto_region 17 with (fail))
               go_cut [70] (fun v70 wc => ∃ (kq : Nat) (x70_26 : Bool), v70 = .bool x70_26 ∧ Aside0 (smithylaw19_CallsRound.j3 kq l0 t511 t514 t517 x7_2 x8_3 (rd (rd_L1 t517 x7_2) x8_3) x70_26 = some r) ∧ Aside0 (kq ≤ k3) ∧ Aside0 (Kd.S (Kd.slice 3 (Kd.int .i64)) 35 wc w.heap.size (fun k_ => some k_ ≠ ((.slice (some ad521) t517.length co22) : Value).ownBlock) (.slice Ao15 t511.length co15) t511) ∧ Aside0 (Kd.R Kd.bool 4 wc w.heap.size (fun _ => True) v515 t514) ∧ Aside0 (Kd.S (Kd.slice 3 (Kd.int .i64)) 35 wc w.heap.size (fun k_ => some k_ ≠ ((.slice Ao15 t511.length co15) : Value).ownBlock) (.slice (some ad521) t517.length co22) t517) ∧ Aside0 (Kd.C (Kd.int .i64) wc (some ad523) (rd_L1 t517 x7_2).length (rd_L1 t517 x7_2)) ∧ Aside0 (Kd.C (Kd.int .i64) wc (some ad523) (rd_L1 t517 x7_2).length (rd_L1 t517 x7_2)) ∧ Aside0 (Below w.heap.size w wc))
               case first =>
                have H := HC27.out
                clear HC27
                by_cases c28 : (rd (rd_L1 t517 x7_2) x8_3) < 0
                ·
                 rw [if_pos c28] at H
                 have c28b0 : decide ((rd (rd_L1 t517 x7_2) x8_3) < 0) = true := decide_eq_true c28
                 clear c28
                 (first | rw [c28b0] | (simp only [i64_w, i32_w]; rw [c28b0]) | skip)
                 have H' := Aside0.mk H
                 clear H
                 go_wp2
                 repeat (go_quiet (fail); try go_wp2)
                 go_meet
                 case rel => exact ⟨_, (true), (by first | rfl | (simp; done) | (simp [*]; done)), H', ⟨by have := HJ11.out; have := HK2.out; have := HK3.out; first | omega | exact Nat.le_refl _⟩, ⟨by (with_reducible repeat (first | apply Kd.S_alloc | apply Kd.S_drewN | apply Kd.S_drew)); exact HO_3.out⟩, ⟨by (with_reducible repeat (first | apply Kd.R_alloc | apply Kd.R_drewN | apply Kd.R_drew)); exact HO_4.out⟩, ⟨by (with_reducible repeat (first | apply Kd.S_alloc | apply Kd.S_drewN | apply Kd.S_drew)); exact HO_5.out⟩, ⟨by repeat (first | (with_reducible exact HR521_0.out) | (with_reducible refine Kd.C_alloc ?_ _) | (with_reducible refine Kd.C_drewN ?_ _) | (with_reducible refine Kd.C_drew ?_) | exact HR521_0.out)⟩, ⟨by repeat (first | (with_reducible exact HR522_0.out) | (with_reducible refine Kd.C_alloc ?_ _) | (with_reducible refine Kd.C_drewN ?_ _) | (with_reducible refine Kd.C_drew ?_) | exact HR522_0.out)⟩, ⟨by repeat (first | (with_reducible first | exact HB.out | apply below_alloc | apply pw_below_drewN | apply below_drew1) | exact HB.out)⟩⟩
                ·
                 rw [if_neg c28] at H
                 have c28b0 : decide ((rd (rd_L1 t517 x7_2) x8_3) < 0) = false := decide_eq_false c28
                 clear c28
                 (first | rw [c28b0] | (simp only [i64_w, i32_w]; rw [c28b0]) | skip)
                 have H' := Aside0.mk H
                 clear H
                 go_wp2
                 repeat (go_quiet (fail); try go_wp2)
                 go_meet
                 case rel => exact ⟨_, (decide ((rd (rd_L1 t517 x7_2) x8_3) ≥ (l0.length : Int))), (by first | rfl | (simp; done) | (simp [*]; done)), H', ⟨by have := HJ11.out; have := HK2.out; have := HK3.out; first | omega | exact Nat.le_refl _⟩, ⟨by (with_reducible repeat (first | apply Kd.S_alloc | apply Kd.S_drewN | apply Kd.S_drew)); exact HO_3.out⟩, ⟨by (with_reducible repeat (first | apply Kd.R_alloc | apply Kd.R_drewN | apply Kd.R_drew)); exact HO_4.out⟩, ⟨by (with_reducible repeat (first | apply Kd.S_alloc | apply Kd.S_drewN | apply Kd.S_drew)); exact HO_5.out⟩, ⟨by repeat (first | (with_reducible exact HR521_0.out) | (with_reducible refine Kd.C_alloc ?_ _) | (with_reducible refine Kd.C_drewN ?_ _) | (with_reducible refine Kd.C_drew ?_) | exact HR521_0.out)⟩, ⟨by repeat (first | (with_reducible exact HR522_0.out) | (with_reducible refine Kd.C_alloc ?_ _) | (with_reducible refine Kd.C_drewN ?_ _) | (with_reducible refine Kd.C_drew ?_) | exact HR522_0.out)⟩, ⟨by repeat (first | (with_reducible first | exact HB.out | apply below_alloc | apply pw_below_drewN | apply below_drew1) | exact HB.out)⟩⟩
               case rest =>
                clear HC27
                try clear c1
                try clear c2
                try clear p2
                try clear c5
                try clear p5
                try clear q5
                try clear hx5
                try clear c7
                try clear c8
                try clear c17
                try clear c17b0
                try clear c17b1
                try clear c18
                try clear c18b0
                try clear c18b1
                try clear c18b2
                try clear c20
                try clear c21
                try clear c21b0
                try clear c23
                try clear c23b0
                try clear c24
                try clear c24b0
                try clear c25
                try clear c25b0
                try clear c26
                try clear c26b0
                try clear c28
                try clear c28b0
                try clear hx521_0
                try clear hx522_0
                try clear hx523_0
                try clear p2
                try clear p521
                try clear p522
                try clear p523
                try clear q521
                try clear q522
                try clear q523
                obtain ⟨kq, x70_26, rfl, HA, HJ26, HO_3, HO_4, HO_5, HR521_0, HR522_0, HB⟩ := hcut
                cases kq with
                | zero => exact absurd HA.out (by simp [smithylaw19_CallsRound.j3])
                | succ kj26 =>
                 have H := HA.out
                 clear HA
                 simp only [smithylaw19_CallsRound.j3] at H
                 by_cases c29 : x70_26 = true
                 ·
                  subst c29
                  have H1 : (some false) = some r := by rw [if_pos rfl] at H; exact H
                  clear H
                  have H := H1
                  clear H1
                  obtain rfl := Option.some.inj H
                  go_wp2
                  repeat (go_quiet (fail); try go_wp2)
                  go_ret
                  exact ⟨by first | rfl | (simp <;> rfl) | (simp [*] <;> rfl), by repeat (first | (with_reducible first | exact HB.out | apply below_alloc | apply pw_below_drewN | apply below_drew1) | exact HB.out)⟩
                 ·
                  replace c29 := Bool.eq_false_iff.mpr c29
                  subst c29
                  have H1 : (smithylaw19_CallsRound.l2 kj26 l0 t511 t514 t517 x7_2 x8_3 (rd (rd_L1 t517 x7_2) x8_3) false 0) = some r := by rw [if_neg (show ¬ (false = true) by decide)] at H; exact H
                  clear H
                  have H := H1
                  clear H1
                  have H' := Aside0.mk H
                  clear H
                  go_wp2
                  repeat (go_quiet (fail); try go_wp2)
                  go_loopg [10, 11] kj26 (fun kq v10 v11 w' => ∃ (x10_5 : Bool) (x11_5 : Int), v10 = .bool x10_5 ∧ v11 = .int .i64 x11_5 ∧ Aside0 (smithylaw19_CallsRound.l2 kq l0 t511 t514 t517 x7_2 x8_3 (rd (rd_L1 t517 x7_2) x8_3) x10_5 x11_5 = some r) ∧ Aside0 (kq ≤ kj26) ∧ Aside0 (Kd.S (Kd.slice 3 (Kd.int .i64)) 35 w' w.heap.size (fun k_ => some k_ ≠ ((.slice (some ad521) t517.length co22) : Value).ownBlock) (.slice Ao15 t511.length co15) t511) ∧ Aside0 (Kd.R Kd.bool 4 w' w.heap.size (fun _ => True) v515 t514) ∧ Aside0 (Kd.S (Kd.slice 3 (Kd.int .i64)) 35 w' w.heap.size (fun k_ => some k_ ≠ ((.slice Ao15 t511.length co15) : Value).ownBlock) (.slice (some ad521) t517.length co22) t517) ∧ Aside0 (Kd.C (Kd.int .i64) w' (some ad523) (rd_L1 t517 x7_2).length (rd_L1 t517 x7_2)) ∧ Aside0 (Kd.C (Kd.int .i64) w' (some ad523) (rd_L1 t517 x7_2).length (rd_L1 t517 x7_2)) ∧ Aside0 (Below w.heap.size w w'))
                  case atStart => exact ⟨(false), (0), (by first | rfl | (simp; done) | (simp [*]; done)), (by first | rfl | (simp; done) | (simp [*]; done)), H', ⟨Nat.le_refl _⟩, ⟨by (with_reducible repeat (first | apply Kd.S_alloc | apply Kd.S_drewN | apply Kd.S_drew)); exact HO_3.out⟩, ⟨by (with_reducible repeat (first | apply Kd.R_alloc | apply Kd.R_drewN | apply Kd.R_drew)); exact HO_4.out⟩, ⟨by (with_reducible repeat (first | apply Kd.S_alloc | apply Kd.S_drewN | apply Kd.S_drew)); exact HO_5.out⟩, ⟨by repeat (first | (with_reducible exact HR521_0.out) | (with_reducible refine Kd.C_alloc ?_ _) | (with_reducible refine Kd.C_drewN ?_ _) | (with_reducible refine Kd.C_drew ?_) | exact HR521_0.out)⟩, ⟨by repeat (first | (with_reducible exact HR522_0.out) | (with_reducible refine Kd.C_alloc ?_ _) | (with_reducible refine Kd.C_drewN ?_ _) | (with_reducible refine Kd.C_drew ?_) | exact HR522_0.out)⟩, ⟨by repeat (first | (with_reducible first | exact HB.out | apply below_alloc | apply pw_below_drewN | apply below_drew1) | exact HB.out)⟩⟩
                  case round =>
                   clear H'
                   try clear c1
                   try clear c2
                   try clear p2
                   try clear c5
                   try clear p5
                   try clear q5
                   try clear hx5
                   try clear c7
                   try clear c8
                   try clear c17
                   try clear c17b0
                   try clear c17b1
                   try clear c18
                   try clear c18b0
                   try clear c18b1
                   try clear c18b2
                   try clear c20
                   try clear c21
                   try clear c21b0
                   try clear c23
                   try clear c23b0
                   try clear c24
                   try clear c24b0
                   try clear c25
                   try clear c25b0
                   try clear c26
                   try clear c26b0
                   try clear c28
                   try clear c28b0
                   try clear c29
                   try clear hx521_0
                   try clear hx522_0
                   try clear hx523_0
                   try clear p2
                   try clear p5
                   try clear p521
                   try clear p522
                   try clear p523
                   try clear q5
                   try clear q521
                   try clear q522
                   try clear q523
                   obtain ⟨x10_5, x11_5, rfl, rfl, HA, HK5, HO_3, HO_4, HO_5, HR521_0, HR522_0, HB⟩ := hrel
                   cases gk with
                   | zero => exact absurd HA.out (by simp [smithylaw19_CallsRound.l2])
                   | succ k5 =>
                    have H := HA.out
                    clear HA
                    simp only [smithylaw19_CallsRound.l2] at H
                    by_cases c30 : 0 ≤ (rd (rd_L1 t517 x7_2) x8_3)
                    ·
                     rw [if_pos c30] at H
                     have c30b0 : decide (0 ≤ (rd (rd_L1 t517 x7_2) x8_3)) = true := decide_eq_true c30
                     clear c30
                     by_cases c31 : (rd (rd_L1 t517 x7_2) x8_3) < (t511.length : Int)
                     ·
                      rw [if_pos c31] at H
                      have c31b0 : decide ((rd (rd_L1 t517 x7_2) x8_3) < (t511.length : Int)) = true := decide_eq_true c31
                      clear c31
                      by_cases c32 : x11_5 < ((rd_L1 t511 (rd (rd_L1 t517 x7_2) x8_3)).length : Int)
                      ·
                       rw [if_pos c32] at H
                       have c32b0 : decide (x11_5 < ((rd_L1 t511 (rd (rd_L1 t517 x7_2) x8_3)).length : Int)) = true := decide_eq_true c32
                       clear c32
                       by_cases c33 : x10_5 = true
                       ·
                        subst c33
                        have H1 : (smithylaw19_CallsRound.l2 k5 l0 t511 t514 t517 x7_2 x8_3 (rd (rd_L1 t517 x7_2) x8_3) true (wrap64 (x11_5 + 1))) = some r := by rw [if_pos rfl] at H; exact H
                        clear H
                        have H := H1
                        clear H1
                        have H' := Aside0.mk H
                        clear H
                        have p524 : 0 ≤ ((rd (rd_L1 t517 x7_2) x8_3) : Int) := of_decide_eq_true (by first | (with_reducible assumption) | assumption)
                        have q524 : (rd (rd_L1 t517 x7_2) x8_3) < (t511.length : Int) := of_decide_eq_true (by first | (with_reducible assumption) | assumption)
                        obtain ⟨ad524, A524_0, c524_0, e524, hx524_0, hl524_0, hi524_0⟩ := at_L1 (Kd.S_reads' HO_3.out).2.2 (rd (rd_L1 t517 x7_2) x8_3) p524 q524
                        cases e524
                        obtain ⟨ce524, hce524, hMe524, hcc524⟩ := Kd.S_get HO_3.out [] (rd (rd_L1 t517 x7_2) x8_3) p524 (by first | exact q524 | exact of_decide_eq_true (by first | (with_reducible assumption) | assumption) | (have e_ := (Kd.S_reads' HO_3.out).1; omega))
                        obtain ⟨ve524_0, rfl, ge524_0⟩ := hMe524
                        have hv524_0 := hcc524 0 _ rfl
                        rw [Nat.add_zero, show ((Kd.slice 3 (Kd.int .i64))).sz = 1 from rfl, Nat.mul_one] at hv524_0
                        replace hv524_0 := Option.some.inj (hv524_0.symm.trans hx524_0)
                        rw [hv524_0] at ge524_0
                        have HL524_0 := Aside0.mk (show Kd.R (Kd.int .i64) 3 _ _ _ _ (rd_L1 t511 (rd (rd_L1 t517 x7_2) x8_3)) from ge524_0)
                        clear hv524_0 ge524_0
                        clear hcc524 hce524
                        have HR524_0 := Aside0.mk hi524_0
                        have HC524_0 := Aside0.mk hl524_0
                        clear hi524_0 hl524_0
                        replace p524 := eq_true p524
                        replace q524 := eq_true q524
                        go_wp2
                        repeat (go_quiet (fail); try go_wp2)
                        go_roundg k5
                        case measure => have := HJ11.out; have := HK2.out; have := HK3.out; have := HJ26.out; have := HK5.out; omega
                        case rel => exact ⟨(true), (wrap64 (x11_5 + 1)), (by first | rfl | (simp; done) | (simp [*]; done)), (by first | rfl | (simp; done) | (simp [*]; done)), H', ⟨by have := HJ11.out; have := HK2.out; have := HK3.out; have := HJ26.out; have := HK5.out; omega⟩, ⟨by (with_reducible repeat (first | apply Kd.S_alloc | apply Kd.S_drewN | apply Kd.S_drew)); exact HO_3.out⟩, ⟨by (with_reducible repeat (first | apply Kd.R_alloc | apply Kd.R_drewN | apply Kd.R_drew)); exact HO_4.out⟩, ⟨by (with_reducible repeat (first | apply Kd.S_alloc | apply Kd.S_drewN | apply Kd.S_drew)); exact HO_5.out⟩, ⟨by repeat (first | (with_reducible exact HR521_0.out) | (with_reducible refine Kd.C_alloc ?_ _) | (with_reducible refine Kd.C_drewN ?_ _) | (with_reducible refine Kd.C_drew ?_) | exact HR521_0.out)⟩, ⟨by repeat (first | (with_reducible exact HR522_0.out) | (with_reducible refine Kd.C_alloc ?_ _) | (with_reducible refine Kd.C_drewN ?_ _) | (with_reducible refine Kd.C_drew ?_) | exact HR522_0.out)⟩, ⟨by repeat (first | (with_reducible first | exact HB.out | apply below_alloc | apply pw_below_drewN | apply below_drew1) | exact HB.out)⟩⟩
                       ·
                        replace c33 := Bool.eq_false_iff.mpr c33
                        subst c33
                        have H1 : (if 0 ≤ x11_5 then (smithylaw19_CallsRound.l2 k5 l0 t511 t514 t517 x7_2 x8_3 (rd (rd_L1 t517 x7_2) x8_3) ((rd (rd_L1 t511 (rd (rd_L1 t517 x7_2) x8_3)) x11_5) == (rd (rd_L1 t517 x7_2) x8_3)) (wrap64 (x11_5 + 1))) else (none)) = some r := by rw [if_neg (show ¬ (false = true) by decide)] at H; exact H
                        clear H
                        have H := H1
                        clear H1
                        by_cases c34 : 0 ≤ x11_5
                        ·
                         rw [if_pos c34] at H
                         have c34b0 : decide (0 ≤ x11_5) = true := decide_eq_true c34
                         clear c34
                         have H' := Aside0.mk H
                         clear H
                         have p524 : 0 ≤ ((rd (rd_L1 t517 x7_2) x8_3) : Int) := of_decide_eq_true (by first | (with_reducible assumption) | assumption)
                         have q524 : (rd (rd_L1 t517 x7_2) x8_3) < (t511.length : Int) := of_decide_eq_true (by first | (with_reducible assumption) | assumption)
                         obtain ⟨ad524, A524_0, c524_0, e524, hx524_0, hl524_0, hi524_0⟩ := at_L1 (Kd.S_reads' HO_3.out).2.2 (rd (rd_L1 t517 x7_2) x8_3) p524 q524
                         cases e524
                         obtain ⟨ce524, hce524, hMe524, hcc524⟩ := Kd.S_get HO_3.out [] (rd (rd_L1 t517 x7_2) x8_3) p524 (by first | exact q524 | exact of_decide_eq_true (by first | (with_reducible assumption) | assumption) | (have e_ := (Kd.S_reads' HO_3.out).1; omega))
                         obtain ⟨ve524_0, rfl, ge524_0⟩ := hMe524
                         have hv524_0 := hcc524 0 _ rfl
                         rw [Nat.add_zero, show ((Kd.slice 3 (Kd.int .i64))).sz = 1 from rfl, Nat.mul_one] at hv524_0
                         replace hv524_0 := Option.some.inj (hv524_0.symm.trans hx524_0)
                         rw [hv524_0] at ge524_0
                         have HL524_0 := Aside0.mk (show Kd.R (Kd.int .i64) 3 _ _ _ _ (rd_L1 t511 (rd (rd_L1 t517 x7_2) x8_3)) from ge524_0)
                         clear hv524_0 ge524_0
                         clear hcc524 hce524
                         have HR524_0 := Aside0.mk hi524_0
                         have HC524_0 := Aside0.mk hl524_0
                         clear hi524_0 hl524_0
                         replace p524 := eq_true p524
                         replace q524 := eq_true q524
                         have p525 : 0 ≤ ((rd (rd_L1 t517 x7_2) x8_3) : Int) := of_decide_eq_true (by first | (with_reducible assumption) | assumption)
                         have q525 : (rd (rd_L1 t517 x7_2) x8_3) < (t511.length : Int) := of_decide_eq_true (by first | (with_reducible assumption) | assumption)
                         obtain ⟨ad525, A525_0, c525_0, e525, hx525_0, hl525_0, hi525_0⟩ := at_L1 (Kd.S_reads' HO_3.out).2.2 (rd (rd_L1 t517 x7_2) x8_3) p525 q525
                         obtain rfl : ad524 = ad525 := (by injection e525)
                         obtain ⟨ce525, hce525, hMe525, hcc525⟩ := Kd.S_get HO_3.out [] (rd (rd_L1 t517 x7_2) x8_3) p525 (by first | exact q525 | exact of_decide_eq_true (by first | (with_reducible assumption) | assumption) | (have e_ := (Kd.S_reads' HO_3.out).1; omega))
                         obtain ⟨ve525_0, rfl, ge525_0⟩ := hMe525
                         have hv525_0 := hcc525 0 _ rfl
                         rw [Nat.add_zero, show ((Kd.slice 3 (Kd.int .i64))).sz = 1 from rfl, Nat.mul_one] at hv525_0
                         replace hv525_0 := Option.some.inj (hv525_0.symm.trans hx525_0)
                         rw [hv525_0] at ge525_0
                         have HL525_0 := Aside0.mk (show Kd.R (Kd.int .i64) 3 _ _ _ _ (rd_L1 t511 (rd (rd_L1 t517 x7_2) x8_3)) from ge525_0)
                         clear hv525_0 ge525_0
                         clear hcc525 hce525
                         have HR525_0 := Aside0.mk hi525_0
                         have HC525_0 := Aside0.mk hl525_0
                         clear hi525_0 hl525_0
                         replace p525 := eq_true p525
                         replace q525 := eq_true q525
                         have ea_ := Option.some.inj (hx524_0.symm.trans hx525_0)
                         injection ea_ with ea_ en_ ec_
                         subst ea_
                         subst ec_
                         clear en_
                         have p526 : 0 ≤ (x11_5 : Int) := of_decide_eq_true (by first | (with_reducible assumption) | assumption)
                         have q526 : x11_5 < ((rd_L1 t511 (rd (rd_L1 t517 x7_2) x8_3)).length : Int) := of_decide_eq_true (by first | (with_reducible assumption) | assumption)
                         obtain ⟨ad526, e526, hx526_0⟩ := Kd.at_int (by repeat (first | (with_reducible exact HR525_0.out) | (with_reducible refine Kd.C_alloc ?_ _) | (with_reducible refine Kd.C_drewN ?_ _) | (with_reducible refine Kd.C_drew ?_) | exact HR525_0.out)) x11_5 p526 q526
                         cases e526
                         replace p526 := eq_true p526
                         replace q526 := eq_true q526
                         go_wp2
                         repeat (go_quiet (fail); try go_wp2)
                         go_roundg k5
                         case measure => have := HJ11.out; have := HK2.out; have := HK3.out; have := HJ26.out; have := HK5.out; omega
                         case rel => exact ⟨(((rd (rd_L1 t511 (rd (rd_L1 t517 x7_2) x8_3)) x11_5) == (rd (rd_L1 t517 x7_2) x8_3))), (wrap64 (x11_5 + 1)), (by first | rfl | (simp; done) | (simp [*]; done)), (by first | rfl | (simp; done) | (simp [*]; done)), H', ⟨by have := HJ11.out; have := HK2.out; have := HK3.out; have := HJ26.out; have := HK5.out; omega⟩, ⟨by (with_reducible repeat (first | apply Kd.S_alloc | apply Kd.S_drewN | apply Kd.S_drew)); exact HO_3.out⟩, ⟨by (with_reducible repeat (first | apply Kd.R_alloc | apply Kd.R_drewN | apply Kd.R_drew)); exact HO_4.out⟩, ⟨by (with_reducible repeat (first | apply Kd.S_alloc | apply Kd.S_drewN | apply Kd.S_drew)); exact HO_5.out⟩, ⟨by repeat (first | (with_reducible exact HR521_0.out) | (with_reducible refine Kd.C_alloc ?_ _) | (with_reducible refine Kd.C_drewN ?_ _) | (with_reducible refine Kd.C_drew ?_) | exact HR521_0.out)⟩, ⟨by repeat (first | (with_reducible exact HR522_0.out) | (with_reducible refine Kd.C_alloc ?_ _) | (with_reducible refine Kd.C_drewN ?_ _) | (with_reducible refine Kd.C_drew ?_) | exact HR522_0.out)⟩, ⟨by repeat (first | (with_reducible first | exact HB.out | apply below_alloc | apply pw_below_drewN | apply below_drew1) | exact HB.out)⟩⟩
                        ·
                         rw [if_neg c34] at H
                         exact absurd H (by simp)
                      ·
                       rw [if_neg c32] at H
                       have c32b0 : decide (x11_5 < ((rd_L1 t511 (rd (rd_L1 t517 x7_2) x8_3)).length : Int)) = false := decide_eq_false c32
                       clear c32
                       by_cases c35 : (rd (rd_L1 t517 x7_2) x8_3) < (t514.length : Int)
                       ·
                        rw [if_pos c35] at H
                        have c35b0 : decide ((rd (rd_L1 t517 x7_2) x8_3) < (t514.length : Int)) = true := decide_eq_true c35
                        clear c35
                        by_cases c36 : 0 ≤ x7_2
                        ·
                         rw [if_pos c36] at H
                         have c36b0 : decide (0 ≤ x7_2) = true := decide_eq_true c36
                         clear c36
                         by_cases c37 : x7_2 < (t517.length : Int)
                         ·
                          rw [if_pos c37] at H
                          have c37b0 : decide (x7_2 < (t517.length : Int)) = true := decide_eq_true c37
                          clear c37
                          by_cases c38 : ((rd_L1 t517 x7_2).length : Int) > 1
                          ·
                           rw [if_pos c38] at H
                           have c38b0 : decide (1 < ((rd_L1 t517 x7_2).length : Int)) = true := decide_eq_true c38
                           have c38b1 : decide (1 < (rd_L1 t517 x7_2).length) = true := decide_eq_true (by omega)
                           clear c38
                           by_cases c39 : ((rdOf false t514 (rd (rd_L1 t517 x7_2) x8_3)) != true) = true
                           ·
                            rw [if_pos c39] at H
                            have c39b0 : ((rdOf false t514 (rd (rd_L1 t517 x7_2) x8_3)) != true) = true := c39
                            (try (have c39b1 : decide ((rdOf false t514 (rd (rd_L1 t517 x7_2) x8_3)) = true) = false := by simpa using c39))
                            (try (have c39b2 : ((rdOf false t514 (rd (rd_L1 t517 x7_2) x8_3)) == true) = false := by simpa using c39))
                            (try (have c39b3 : ¬ ((rdOf false t514 (rd (rd_L1 t517 x7_2) x8_3)) = true) := by simpa using c39))
                            clear c39
                            obtain rfl := Option.some.inj H
                            have p524 : 0 ≤ ((rd (rd_L1 t517 x7_2) x8_3) : Int) := of_decide_eq_true (by first | (with_reducible assumption) | assumption)
                            have q524 : (rd (rd_L1 t517 x7_2) x8_3) < (t511.length : Int) := of_decide_eq_true (by first | (with_reducible assumption) | assumption)
                            obtain ⟨ad524, A524_0, c524_0, e524, hx524_0, hl524_0, hi524_0⟩ := at_L1 (Kd.S_reads' HO_3.out).2.2 (rd (rd_L1 t517 x7_2) x8_3) p524 q524
                            cases e524
                            obtain ⟨ce524, hce524, hMe524, hcc524⟩ := Kd.S_get HO_3.out [] (rd (rd_L1 t517 x7_2) x8_3) p524 (by first | exact q524 | exact of_decide_eq_true (by first | (with_reducible assumption) | assumption) | (have e_ := (Kd.S_reads' HO_3.out).1; omega))
                            obtain ⟨ve524_0, rfl, ge524_0⟩ := hMe524
                            have hv524_0 := hcc524 0 _ rfl
                            rw [Nat.add_zero, show ((Kd.slice 3 (Kd.int .i64))).sz = 1 from rfl, Nat.mul_one] at hv524_0
                            replace hv524_0 := Option.some.inj (hv524_0.symm.trans hx524_0)
                            rw [hv524_0] at ge524_0
                            have HL524_0 := Aside0.mk (show Kd.R (Kd.int .i64) 3 _ _ _ _ (rd_L1 t511 (rd (rd_L1 t517 x7_2) x8_3)) from ge524_0)
                            clear hv524_0 ge524_0
                            clear hcc524 hce524
                            have HR524_0 := Aside0.mk hi524_0
                            have HC524_0 := Aside0.mk hl524_0
                            clear hi524_0 hl524_0
                            replace p524 := eq_true p524
                            replace q524 := eq_true q524
                            obtain ⟨Ao40, co40, eo40⟩ := Kd.R_slice HO_4.out
                            subst eo40
                            have p527 : 0 ≤ ((rd (rd_L1 t517 x7_2) x8_3) : Int) := of_decide_eq_true (by first | (with_reducible assumption) | assumption)
                            have q527 : (rd (rd_L1 t517 x7_2) x8_3) < (t514.length : Int) := of_decide_eq_true (by first | (with_reducible assumption) | assumption)
                            obtain ⟨ad527, e527, hx527_0⟩ := Kd.at_bool (Kd.R_reads' HO_4.out).2.2 (rd (rd_L1 t517 x7_2) x8_3) p527 q527
                            cases e527
                            replace p527 := eq_true p527
                            replace q527 := eq_true q527
                            have p528 : 0 ≤ (x7_2 : Int) := of_decide_eq_true (by first | (with_reducible assumption) | assumption)
                            have q528 : x7_2 < (t517.length : Int) := of_decide_eq_true (by first | (with_reducible assumption) | assumption)
                            obtain ⟨ad528, A528_0, c528_0, e528, hx528_0, hl528_0, hi528_0⟩ := at_L1 (Kd.S_reads' HO_5.out).2.2 x7_2 p528 q528
                            obtain rfl : ad521 = ad528 := (by injection e528)
                            obtain ⟨ce528, hce528, hMe528, hcc528⟩ := Kd.S_get HO_5.out [] x7_2 p528 (by first | exact q528 | exact of_decide_eq_true (by first | (with_reducible assumption) | assumption) | (have e_ := (Kd.S_reads' HO_5.out).1; omega))
                            obtain ⟨ve528_0, rfl, ge528_0⟩ := hMe528
                            have hv528_0 := hcc528 0 _ rfl
                            rw [Nat.add_zero, show ((Kd.slice 3 (Kd.int .i64))).sz = 1 from rfl, Nat.mul_one] at hv528_0
                            replace hv528_0 := Option.some.inj (hv528_0.symm.trans hx528_0)
                            rw [hv528_0] at ge528_0
                            have HL528_0 := Aside0.mk (show Kd.R (Kd.int .i64) 3 _ _ _ _ (rd_L1 t517 x7_2) from ge528_0)
                            clear hv528_0 ge528_0
                            clear hcc528 hce528
                            have HR528_0 := Aside0.mk hi528_0
                            have HC528_0 := Aside0.mk hl528_0
                            clear hi528_0 hl528_0
                            replace p528 := eq_true p528
                            replace q528 := eq_true q528
                            go_wp2
                            repeat (go_quiet (fail); try go_wp2)
                            go_ret
                            exact ⟨by first | rfl | (simp <;> rfl) | (simp [*] <;> rfl), by repeat (first | (with_reducible first | exact HB.out | apply below_alloc | apply pw_below_drewN | apply below_drew1) | exact HB.out)⟩
                           ·
                            rw [if_neg c39] at H
                            have c39b0 : ((rdOf false t514 (rd (rd_L1 t517 x7_2) x8_3)) != true) = false := by simpa using c39
                            (try (have c39b1 : decide ((rdOf false t514 (rd (rd_L1 t517 x7_2) x8_3)) = true) = true := by simpa using c39))
                            (try (have c39b2 : ((rdOf false t514 (rd (rd_L1 t517 x7_2) x8_3)) == true) = true := by simpa using c39))
                            clear c39
                            have H' := Aside0.mk H
                            clear H
                            have p524 : 0 ≤ ((rd (rd_L1 t517 x7_2) x8_3) : Int) := of_decide_eq_true (by first | (with_reducible assumption) | assumption)
                            have q524 : (rd (rd_L1 t517 x7_2) x8_3) < (t511.length : Int) := of_decide_eq_true (by first | (with_reducible assumption) | assumption)
                            obtain ⟨ad524, A524_0, c524_0, e524, hx524_0, hl524_0, hi524_0⟩ := at_L1 (Kd.S_reads' HO_3.out).2.2 (rd (rd_L1 t517 x7_2) x8_3) p524 q524
                            cases e524
                            obtain ⟨ce524, hce524, hMe524, hcc524⟩ := Kd.S_get HO_3.out [] (rd (rd_L1 t517 x7_2) x8_3) p524 (by first | exact q524 | exact of_decide_eq_true (by first | (with_reducible assumption) | assumption) | (have e_ := (Kd.S_reads' HO_3.out).1; omega))
                            obtain ⟨ve524_0, rfl, ge524_0⟩ := hMe524
                            have hv524_0 := hcc524 0 _ rfl
                            rw [Nat.add_zero, show ((Kd.slice 3 (Kd.int .i64))).sz = 1 from rfl, Nat.mul_one] at hv524_0
                            replace hv524_0 := Option.some.inj (hv524_0.symm.trans hx524_0)
                            rw [hv524_0] at ge524_0
                            have HL524_0 := Aside0.mk (show Kd.R (Kd.int .i64) 3 _ _ _ _ (rd_L1 t511 (rd (rd_L1 t517 x7_2) x8_3)) from ge524_0)
                            clear hv524_0 ge524_0
                            clear hcc524 hce524
                            have HR524_0 := Aside0.mk hi524_0
                            have HC524_0 := Aside0.mk hl524_0
                            clear hi524_0 hl524_0
                            replace p524 := eq_true p524
                            replace q524 := eq_true q524
                            obtain ⟨Ao41, co41, eo41⟩ := Kd.R_slice HO_4.out
                            subst eo41
                            have p527 : 0 ≤ ((rd (rd_L1 t517 x7_2) x8_3) : Int) := of_decide_eq_true (by first | (with_reducible assumption) | assumption)
                            have q527 : (rd (rd_L1 t517 x7_2) x8_3) < (t514.length : Int) := of_decide_eq_true (by first | (with_reducible assumption) | assumption)
                            obtain ⟨ad527, e527, hx527_0⟩ := Kd.at_bool (Kd.R_reads' HO_4.out).2.2 (rd (rd_L1 t517 x7_2) x8_3) p527 q527
                            cases e527
                            replace p527 := eq_true p527
                            replace q527 := eq_true q527
                            have p528 : 0 ≤ (x7_2 : Int) := of_decide_eq_true (by first | (with_reducible assumption) | assumption)
                            have q528 : x7_2 < (t517.length : Int) := of_decide_eq_true (by first | (with_reducible assumption) | assumption)
                            obtain ⟨ad528, A528_0, c528_0, e528, hx528_0, hl528_0, hi528_0⟩ := at_L1 (Kd.S_reads' HO_5.out).2.2 x7_2 p528 q528
                            obtain rfl : ad521 = ad528 := (by injection e528)
                            obtain ⟨ce528, hce528, hMe528, hcc528⟩ := Kd.S_get HO_5.out [] x7_2 p528 (by first | exact q528 | exact of_decide_eq_true (by first | (with_reducible assumption) | assumption) | (have e_ := (Kd.S_reads' HO_5.out).1; omega))
                            obtain ⟨ve528_0, rfl, ge528_0⟩ := hMe528
                            have hv528_0 := hcc528 0 _ rfl
                            rw [Nat.add_zero, show ((Kd.slice 3 (Kd.int .i64))).sz = 1 from rfl, Nat.mul_one] at hv528_0
                            replace hv528_0 := Option.some.inj (hv528_0.symm.trans hx528_0)
                            rw [hv528_0] at ge528_0
                            have HL528_0 := Aside0.mk (show Kd.R (Kd.int .i64) 3 _ _ _ _ (rd_L1 t517 x7_2) from ge528_0)
                            clear hv528_0 ge528_0
                            clear hcc528 hce528
                            have HR528_0 := Aside0.mk hi528_0
                            have HC528_0 := Aside0.mk hl528_0
                            clear hi528_0 hl528_0
                            replace p528 := eq_true p528
                            replace q528 := eq_true q528
                            go_wp2
                            repeat (go_quiet (fail); try go_wp2)
                            go_roundg k5
                            case measure => have := HJ11.out; have := HK2.out; have := HK3.out; have := HJ26.out; have := HK5.out; omega
                            case rel => exact ⟨(wrap64 (x8_3 + 1)), (by first | rfl | (simp; done) | (simp [*]; done)), H', ⟨by have := HJ11.out; have := HK2.out; have := HK3.out; have := HJ26.out; have := HK5.out; omega⟩, ⟨by (with_reducible repeat (first | apply Kd.S_alloc | apply Kd.S_drewN | apply Kd.S_drew)); exact HO_3.out⟩, ⟨by (with_reducible repeat (first | apply Kd.R_alloc | apply Kd.R_drewN | apply Kd.R_drew)); exact HO_4.out⟩, ⟨by (with_reducible repeat (first | apply Kd.S_alloc | apply Kd.S_drewN | apply Kd.S_drew)); exact HO_5.out⟩, ⟨by repeat (first | (with_reducible first | exact HB.out | apply below_alloc | apply pw_below_drewN | apply below_drew1) | exact HB.out)⟩⟩
                          ·
                           rw [if_neg c38] at H
                           have c38b0 : decide (1 < ((rd_L1 t517 x7_2).length : Int)) = false := decide_eq_false c38
                           have c38b1 : decide (1 < (rd_L1 t517 x7_2).length) = false := decide_eq_false (by omega)
                           clear c38
                           by_cases c42 : ((rdOf false t514 (rd (rd_L1 t517 x7_2) x8_3)) != x10_5) = true
                           ·
                            rw [if_pos c42] at H
                            have c42b0 : ((rdOf false t514 (rd (rd_L1 t517 x7_2) x8_3)) != x10_5) = true := c42
                            (try (have c42b1 : decide ((rdOf false t514 (rd (rd_L1 t517 x7_2) x8_3)) = x10_5) = false := by simpa using c42))
                            (try (have c42b2 : ((rdOf false t514 (rd (rd_L1 t517 x7_2) x8_3)) == x10_5) = false := by simpa using c42))
                            (try (have c42b3 : ¬ ((rdOf false t514 (rd (rd_L1 t517 x7_2) x8_3)) = x10_5) := by simpa using c42))
                            clear c42
                            obtain rfl := Option.some.inj H
                            have p524 : 0 ≤ ((rd (rd_L1 t517 x7_2) x8_3) : Int) := of_decide_eq_true (by first | (with_reducible assumption) | assumption)
                            have q524 : (rd (rd_L1 t517 x7_2) x8_3) < (t511.length : Int) := of_decide_eq_true (by first | (with_reducible assumption) | assumption)
                            obtain ⟨ad524, A524_0, c524_0, e524, hx524_0, hl524_0, hi524_0⟩ := at_L1 (Kd.S_reads' HO_3.out).2.2 (rd (rd_L1 t517 x7_2) x8_3) p524 q524
                            cases e524
                            obtain ⟨ce524, hce524, hMe524, hcc524⟩ := Kd.S_get HO_3.out [] (rd (rd_L1 t517 x7_2) x8_3) p524 (by first | exact q524 | exact of_decide_eq_true (by first | (with_reducible assumption) | assumption) | (have e_ := (Kd.S_reads' HO_3.out).1; omega))
                            obtain ⟨ve524_0, rfl, ge524_0⟩ := hMe524
                            have hv524_0 := hcc524 0 _ rfl
                            rw [Nat.add_zero, show ((Kd.slice 3 (Kd.int .i64))).sz = 1 from rfl, Nat.mul_one] at hv524_0
                            replace hv524_0 := Option.some.inj (hv524_0.symm.trans hx524_0)
                            rw [hv524_0] at ge524_0
                            have HL524_0 := Aside0.mk (show Kd.R (Kd.int .i64) 3 _ _ _ _ (rd_L1 t511 (rd (rd_L1 t517 x7_2) x8_3)) from ge524_0)
                            clear hv524_0 ge524_0
                            clear hcc524 hce524
                            have HR524_0 := Aside0.mk hi524_0
                            have HC524_0 := Aside0.mk hl524_0
                            clear hi524_0 hl524_0
                            replace p524 := eq_true p524
                            replace q524 := eq_true q524
                            obtain ⟨Ao43, co43, eo43⟩ := Kd.R_slice HO_4.out
                            subst eo43
                            have p527 : 0 ≤ ((rd (rd_L1 t517 x7_2) x8_3) : Int) := of_decide_eq_true (by first | (with_reducible assumption) | assumption)
                            have q527 : (rd (rd_L1 t517 x7_2) x8_3) < (t514.length : Int) := of_decide_eq_true (by first | (with_reducible assumption) | assumption)
                            obtain ⟨ad527, e527, hx527_0⟩ := Kd.at_bool (Kd.R_reads' HO_4.out).2.2 (rd (rd_L1 t517 x7_2) x8_3) p527 q527
                            cases e527
                            replace p527 := eq_true p527
                            replace q527 := eq_true q527
                            have p528 : 0 ≤ (x7_2 : Int) := of_decide_eq_true (by first | (with_reducible assumption) | assumption)
                            have q528 : x7_2 < (t517.length : Int) := of_decide_eq_true (by first | (with_reducible assumption) | assumption)
                            obtain ⟨ad528, A528_0, c528_0, e528, hx528_0, hl528_0, hi528_0⟩ := at_L1 (Kd.S_reads' HO_5.out).2.2 x7_2 p528 q528
                            obtain rfl : ad521 = ad528 := (by injection e528)
                            obtain ⟨ce528, hce528, hMe528, hcc528⟩ := Kd.S_get HO_5.out [] x7_2 p528 (by first | exact q528 | exact of_decide_eq_true (by first | (with_reducible assumption) | assumption) | (have e_ := (Kd.S_reads' HO_5.out).1; omega))
                            obtain ⟨ve528_0, rfl, ge528_0⟩ := hMe528
                            have hv528_0 := hcc528 0 _ rfl
                            rw [Nat.add_zero, show ((Kd.slice 3 (Kd.int .i64))).sz = 1 from rfl, Nat.mul_one] at hv528_0
                            replace hv528_0 := Option.some.inj (hv528_0.symm.trans hx528_0)
                            rw [hv528_0] at ge528_0
                            have HL528_0 := Aside0.mk (show Kd.R (Kd.int .i64) 3 _ _ _ _ (rd_L1 t517 x7_2) from ge528_0)
                            clear hv528_0 ge528_0
                            clear hcc528 hce528
                            have HR528_0 := Aside0.mk hi528_0
                            have HC528_0 := Aside0.mk hl528_0
                            clear hi528_0 hl528_0
                            replace p528 := eq_true p528
                            replace q528 := eq_true q528
                            go_wp2
                            repeat (go_quiet (fail); try go_wp2)
                            go_ret
                            exact ⟨by first | rfl | (simp <;> rfl) | (simp [*] <;> rfl), by repeat (first | (with_reducible first | exact HB.out | apply below_alloc | apply pw_below_drewN | apply below_drew1) | exact HB.out)⟩
                           ·
                            rw [if_neg c42] at H
                            have c42b0 : ((rdOf false t514 (rd (rd_L1 t517 x7_2) x8_3)) != x10_5) = false := by simpa using c42
                            (try (have c42b1 : decide ((rdOf false t514 (rd (rd_L1 t517 x7_2) x8_3)) = x10_5) = true := by simpa using c42))
                            (try (have c42b2 : ((rdOf false t514 (rd (rd_L1 t517 x7_2) x8_3)) == x10_5) = true := by simpa using c42))
                            clear c42
                            have H' := Aside0.mk H
                            clear H
                            have p524 : 0 ≤ ((rd (rd_L1 t517 x7_2) x8_3) : Int) := of_decide_eq_true (by first | (with_reducible assumption) | assumption)
                            have q524 : (rd (rd_L1 t517 x7_2) x8_3) < (t511.length : Int) := of_decide_eq_true (by first | (with_reducible assumption) | assumption)
                            obtain ⟨ad524, A524_0, c524_0, e524, hx524_0, hl524_0, hi524_0⟩ := at_L1 (Kd.S_reads' HO_3.out).2.2 (rd (rd_L1 t517 x7_2) x8_3) p524 q524
                            cases e524
                            obtain ⟨ce524, hce524, hMe524, hcc524⟩ := Kd.S_get HO_3.out [] (rd (rd_L1 t517 x7_2) x8_3) p524 (by first | exact q524 | exact of_decide_eq_true (by first | (with_reducible assumption) | assumption) | (have e_ := (Kd.S_reads' HO_3.out).1; omega))
                            obtain ⟨ve524_0, rfl, ge524_0⟩ := hMe524
                            have hv524_0 := hcc524 0 _ rfl
                            rw [Nat.add_zero, show ((Kd.slice 3 (Kd.int .i64))).sz = 1 from rfl, Nat.mul_one] at hv524_0
                            replace hv524_0 := Option.some.inj (hv524_0.symm.trans hx524_0)
                            rw [hv524_0] at ge524_0
                            have HL524_0 := Aside0.mk (show Kd.R (Kd.int .i64) 3 _ _ _ _ (rd_L1 t511 (rd (rd_L1 t517 x7_2) x8_3)) from ge524_0)
                            clear hv524_0 ge524_0
                            clear hcc524 hce524
                            have HR524_0 := Aside0.mk hi524_0
                            have HC524_0 := Aside0.mk hl524_0
                            clear hi524_0 hl524_0
                            replace p524 := eq_true p524
                            replace q524 := eq_true q524
                            obtain ⟨Ao44, co44, eo44⟩ := Kd.R_slice HO_4.out
                            subst eo44
                            have p527 : 0 ≤ ((rd (rd_L1 t517 x7_2) x8_3) : Int) := of_decide_eq_true (by first | (with_reducible assumption) | assumption)
                            have q527 : (rd (rd_L1 t517 x7_2) x8_3) < (t514.length : Int) := of_decide_eq_true (by first | (with_reducible assumption) | assumption)
                            obtain ⟨ad527, e527, hx527_0⟩ := Kd.at_bool (Kd.R_reads' HO_4.out).2.2 (rd (rd_L1 t517 x7_2) x8_3) p527 q527
                            cases e527
                            replace p527 := eq_true p527
                            replace q527 := eq_true q527
                            have p528 : 0 ≤ (x7_2 : Int) := of_decide_eq_true (by first | (with_reducible assumption) | assumption)
                            have q528 : x7_2 < (t517.length : Int) := of_decide_eq_true (by first | (with_reducible assumption) | assumption)
                            obtain ⟨ad528, A528_0, c528_0, e528, hx528_0, hl528_0, hi528_0⟩ := at_L1 (Kd.S_reads' HO_5.out).2.2 x7_2 p528 q528
                            obtain rfl : ad521 = ad528 := (by injection e528)
                            obtain ⟨ce528, hce528, hMe528, hcc528⟩ := Kd.S_get HO_5.out [] x7_2 p528 (by first | exact q528 | exact of_decide_eq_true (by first | (with_reducible assumption) | assumption) | (have e_ := (Kd.S_reads' HO_5.out).1; omega))
                            obtain ⟨ve528_0, rfl, ge528_0⟩ := hMe528
                            have hv528_0 := hcc528 0 _ rfl
                            rw [Nat.add_zero, show ((Kd.slice 3 (Kd.int .i64))).sz = 1 from rfl, Nat.mul_one] at hv528_0
                            replace hv528_0 := Option.some.inj (hv528_0.symm.trans hx528_0)
                            rw [hv528_0] at ge528_0
                            have HL528_0 := Aside0.mk (show Kd.R (Kd.int .i64) 3 _ _ _ _ (rd_L1 t517 x7_2) from ge528_0)
                            clear hv528_0 ge528_0
                            clear hcc528 hce528
                            have HR528_0 := Aside0.mk hi528_0
                            have HC528_0 := Aside0.mk hl528_0
                            clear hi528_0 hl528_0
                            replace p528 := eq_true p528
                            replace q528 := eq_true q528
                            go_wp2
                            repeat (go_quiet (fail); try go_wp2)
                            go_roundg k5
                            case measure => have := HJ11.out; have := HK2.out; have := HK3.out; have := HJ26.out; have := HK5.out; omega
                            case rel => exact ⟨(wrap64 (x8_3 + 1)), (by first | rfl | (simp; done) | (simp [*]; done)), H', ⟨by have := HJ11.out; have := HK2.out; have := HK3.out; have := HJ26.out; have := HK5.out; omega⟩, ⟨by (with_reducible repeat (first | apply Kd.S_alloc | apply Kd.S_drewN | apply Kd.S_drew)); exact HO_3.out⟩, ⟨by (with_reducible repeat (first | apply Kd.R_alloc | apply Kd.R_drewN | apply Kd.R_drew)); exact HO_4.out⟩, ⟨by (with_reducible repeat (first | apply Kd.S_alloc | apply Kd.S_drewN | apply Kd.S_drew)); exact HO_5.out⟩, ⟨by repeat (first | (with_reducible first | exact HB.out | apply below_alloc | apply pw_below_drewN | apply below_drew1) | exact HB.out)⟩⟩
                         ·
                          rw [if_neg c37] at H
                          exact absurd H (by simp)
                        ·
                         rw [if_neg c36] at H
                         exact absurd H (by simp)
                       ·
                        rw [if_neg c35] at H
                        exact absurd H (by simp)
                     ·
                      rw [if_neg c31] at H
                      exact absurd H (by simp)
                    ·
                     rw [if_neg c30] at H
                     exact absurd H (by simp)
              ·
               rw [if_neg c26] at H
               exact absurd H (by simp)
             ·
              rw [if_neg c25] at H
              have c25b0 : decide (x8_3 < ((rd_L1 t517 x7_2).length : Int)) = false := decide_eq_false c25
              clear c25
              have H' := Aside0.mk H
              clear H
              have p521 : 0 ≤ (x7_2 : Int) := of_decide_eq_true (by first | (with_reducible assumption) | assumption)
              have q521 : x7_2 < (t517.length : Int) := of_decide_eq_true (by first | (with_reducible assumption) | assumption)
              obtain ⟨ad521, A521_0, c521_0, e521, hx521_0, hl521_0, hi521_0⟩ := at_L1 (Kd.S_reads' HO_5.out).2.2 x7_2 p521 q521
              cases e521
              obtain ⟨ce521, hce521, hMe521, hcc521⟩ := Kd.S_get HO_5.out [] x7_2 p521 (by first | exact q521 | exact of_decide_eq_true (by first | (with_reducible assumption) | assumption) | (have e_ := (Kd.S_reads' HO_5.out).1; omega))
              obtain ⟨ve521_0, rfl, ge521_0⟩ := hMe521
              have hv521_0 := hcc521 0 _ rfl
              rw [Nat.add_zero, show ((Kd.slice 3 (Kd.int .i64))).sz = 1 from rfl, Nat.mul_one] at hv521_0
              replace hv521_0 := Option.some.inj (hv521_0.symm.trans hx521_0)
              rw [hv521_0] at ge521_0
              have HL521_0 := Aside0.mk (show Kd.R (Kd.int .i64) 3 _ _ _ _ (rd_L1 t517 x7_2) from ge521_0)
              clear hv521_0 ge521_0
              clear hcc521 hce521
              have HR521_0 := Aside0.mk hi521_0
              have HC521_0 := Aside0.mk hl521_0
              clear hi521_0 hl521_0
              replace p521 := eq_true p521
              replace q521 := eq_true q521
              go_wp2
              repeat (go_quiet (fail); try go_wp2)
              go_roundg k3
              case measure => have := HJ11.out; have := HK2.out; have := HK3.out; omega
              case rel => exact ⟨(wrap64 (x7_2 + 1)), (by first | rfl | (simp; done) | (simp [*]; done)), H', ⟨by have := HJ11.out; have := HK2.out; have := HK3.out; omega⟩, ⟨by (with_reducible repeat (first | apply Kd.S_alloc | apply Kd.S_drewN | apply Kd.S_drew)); exact HO_3.out⟩, ⟨by (with_reducible repeat (first | apply Kd.R_alloc | apply Kd.R_drewN | apply Kd.R_drew)); exact HO_4.out⟩, ⟨by (with_reducible repeat (first | apply Kd.S_alloc | apply Kd.S_drewN | apply Kd.S_drew)); exact HO_5.out⟩, ⟨by repeat (first | (with_reducible first | exact HB.out | apply below_alloc | apply pw_below_drewN | apply below_drew1) | exact HB.out)⟩⟩
            ·
             rw [if_neg c24] at H
             exact absurd H (by simp)
           ·
            rw [if_neg c23] at H
            exact absurd H (by simp)
        ·
         rw [if_neg c21] at H
         have c21b0 : decide (x7_2 < (t517.length : Int)) = false := decide_eq_false c21
         clear c21
         obtain rfl := Option.some.inj H
         obtain ⟨Ao45, co45, eo45⟩ := Kd.S_slice HO_5.out
         subst eo45
         go_wp2
         repeat (go_quiet (fail); try go_wp2)
         go_ret
         exact ⟨by first | rfl | (simp <;> rfl) | (simp [*] <;> rfl), by repeat (first | (with_reducible first | exact HB.out | apply below_alloc | apply pw_below_drewN | apply below_drew1) | exact HB.out)⟩
 ·
  replace c5 := Bool.eq_false_iff.mpr c5
  subst c5
  have H1 : (some false) = some r := by rw [if_neg (show ¬ (false = true) by decide)] at H; exact H
  clear H
  have H := H1
  clear H1
  obtain rfl := Option.some.inj H
  go_wp2
  repeat (go_quiet (fail); try go_wp2)
  go_ret
  exact ⟨by first | rfl | (simp <;> rfl) | (simp [*] <;> rfl), by repeat (first | (with_reducible first | exact HB.out | apply below_alloc | apply pw_below_drewN | apply below_drew1) | exact HB.out)⟩

end Go.Proofs.Ytligpleningglaa.F
