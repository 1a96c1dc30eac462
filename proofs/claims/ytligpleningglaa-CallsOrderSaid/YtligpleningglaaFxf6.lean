-- printed by px2.py, a program of this session, by way of the kit's print; Lean checks it
import Derived.Test.YtligpleningglaaFx0
import Derived.Test.YtligpleningglaaFxf8
import Derived.Test.YtligpleningglaaFxf10
import Derived.Test.YtligpleningglaaFxf9
import Derived.Test.YtligpleningglaaFxf21
namespace Go.Proofs.Ytligpleningglaa.F
open Go.RowKit Go.Proofs.YtligpleningglaaW.PrintWords Go.Proofs.YtligpleningglaaW.PrintLast Go.Proofs.YtligpleningglaaW.PrintMore
attribute [local go_sem] max2_int min2_int max_two min_two max_three min_three max_four min_four   -- for this text's walks alone
set_option linter.unusedVariables false
set_option linter.unusedSimpArgs false

/-! ### smithylaw19_CallsOrder: function 6 -/
mutual
def smithylaw19_CallsOrder.l0 : Nat → List (List Int) → List (List Int) → List Int → Int → Int → Option (Bool)
  | 0, _, _, _, _, _ => none
  | k + 1, x0, x3, x5, x6, x7 => if x7 < (x3.length : Int) then (if 0 ≤ x7 then (if ((rd_L1 x3 x7).length : Int) = 0 then (some false) else (smithylaw19_CallsOrder.l1 k x0 x3 x5 x6 x7 0)) else (none)) else (smithylaw19_CallsOrder.l2 k x0 x5 x6 0)
def smithylaw19_CallsOrder.l1 : Nat → List (List Int) → List (List Int) → List Int → Int → Int → Int → Option (Bool)
  | 0, _, _, _, _, _, _ => none
  | k + 1, x0, x3, x5, x6, x7, x8 => if 0 ≤ x7 then (if x7 < (x3.length : Int) then (if x8 < ((rd_L1 x3 x7).length : Int) then (if 0 ≤ x8 then (if (rd (rd_L1 x3 x7) x8) < 0 then (some false) else (if (rd (rd_L1 x3 x7) x8) ≥ (x0.length : Int) then (some false) else (if 0 ≤ (rd (rd_L1 x3 x7) x8) then (if (rd (rd_L1 x3 x7) x8) < (x5.length : Int) then (if (rd x5 (rd (rd_L1 x3 x7) x8)) = 0 then (if x8 > 0 then (if 0 ≤ (wrap64 (x8 - 1)) then (if (wrap64 (x8 - 1)) < ((rd_L1 x3 x7).length : Int) then (if (rd (rd_L1 x3 x7) x8) ≤ (rd (rd_L1 x3 x7) (wrap64 (x8 - 1))) then (some false) else (if 0 < ((rd_L1 x3 x7).length : Int) then ((smithylaw19_reaches.f k x0 (rd (rd_L1 x3 x7) x8) (rd (rd_L1 x3 x7) 0)).bind fun t514 => (if t514 = true then ((smithylaw19_reaches.f k x0 (rd (rd_L1 x3 x7) 0) (rd (rd_L1 x3 x7) x8)).bind fun t517 => (if t517 = true then (smithylaw19_CallsOrder.l1 k x0 x3 (x5.set ((rd (rd_L1 x3 x7) x8) : Int).toNat (wrap64 (x7 + 1))) (wrap64 (x6 + 1)) x7 (wrap64 (x8 + 1))) else (some false))) else (some false))) else (none))) else (none)) else (none)) else (smithylaw19_CallsOrder.l1 k x0 x3 (x5.set ((rd (rd_L1 x3 x7) x8) : Int).toNat (wrap64 (x7 + 1))) (wrap64 (x6 + 1)) x7 (wrap64 (x8 + 1)))) else (some false)) else (none)) else (none)))) else (none)) else (smithylaw19_CallsOrder.l0 k x0 x3 x5 x6 (wrap64 (x7 + 1)))) else (none)) else (none)
def smithylaw19_CallsOrder.l2 : Nat → List (List Int) → List Int → Int → Int → Option (Bool)
  | 0, _, _, _, _ => none
  | k + 1, x0, x5, x6, x10 => if x10 < (x0.length : Int) then (smithylaw19_CallsOrder.l3 k x0 x5 x6 x10 0) else (some (x6 == (x0.length : Int)))
def smithylaw19_CallsOrder.l3 : Nat → List (List Int) → List Int → Int → Int → Int → Option (Bool)
  | 0, _, _, _, _, _ => none
  | k + 1, x0, x5, x6, x10, x11 => if 0 ≤ x10 then (if x10 < (x0.length : Int) then (if x11 < ((rd_L1 x0 x10).length : Int) then (if 0 ≤ x11 then (if 0 ≤ (rd (rd_L1 x0 x10) x11) then (if (rd (rd_L1 x0 x10) x11) < (x5.length : Int) then (if x10 < (x5.length : Int) then (if (rd x5 (rd (rd_L1 x0 x10) x11)) > (rd x5 x10) then (some false) else (smithylaw19_CallsOrder.l3 k x0 x5 x6 x10 (wrap64 (x11 + 1)))) else (none)) else (none)) else (none)) else (none)) else (smithylaw19_CallsOrder.l2 k x0 x5 x6 (wrap64 (x10 + 1)))) else (none)) else (none)
end
def smithylaw19_CallsOrder.f (k : Nat) (l0 : List (List Int)) : Option (Bool) := (smithylaw19_awake.f).bind fun t496 => (if t496 = true then ((calls_Parts.f l0).bind fun bt497 => (if bt497.2 = 0 then ((smithylaw19_great.f k l0).bind fun t501 => (if t501 = true then (some true) else (if 0 ≤ (l0.length : Int) then (if ((l0.length : Int) : Int).toNat ≤ 35184372088832 then (smithylaw19_CallsOrder.l0 k l0 bt497.1 (List.replicate ((l0.length : Int) : Int).toNat 0) 0 0) else (none)) else (none)))) else (if bt497.2 = 4 then (some ((bt497.1.length : Int) == 0)) else (some false)))) else (some false))
theorem smithylaw19_CallsOrder.mono_l : ∀ k, (∀ y0 y1 y2 y3 y4, LeO (smithylaw19_CallsOrder.l0 k y0 y1 y2 y3 y4) (smithylaw19_CallsOrder.l0 (k + 1) y0 y1 y2 y3 y4)) ∧ (∀ y0 y1 y2 y3 y4 y5, LeO (smithylaw19_CallsOrder.l1 k y0 y1 y2 y3 y4 y5) (smithylaw19_CallsOrder.l1 (k + 1) y0 y1 y2 y3 y4 y5)) ∧ (∀ y0 y1 y2 y3, LeO (smithylaw19_CallsOrder.l2 k y0 y1 y2 y3) (smithylaw19_CallsOrder.l2 (k + 1) y0 y1 y2 y3)) ∧ (∀ y0 y1 y2 y3 y4, LeO (smithylaw19_CallsOrder.l3 k y0 y1 y2 y3 y4) (smithylaw19_CallsOrder.l3 (k + 1) y0 y1 y2 y3 y4))
  | 0 => ⟨fun _ _ _ _ _ r h => by simp [smithylaw19_CallsOrder.l0] at h, fun _ _ _ _ _ _ r h => by simp [smithylaw19_CallsOrder.l1] at h, fun _ _ _ _ r h => by simp [smithylaw19_CallsOrder.l2] at h, fun _ _ _ _ _ r h => by simp [smithylaw19_CallsOrder.l3] at h⟩
  | k + 1 => by
    obtain ⟨ih0, ih1, ih2, ih3⟩ := smithylaw19_CallsOrder.mono_l k
    refine ⟨?_, ?_, ?_, ?_⟩
    · intro y0 y1 y2 y3 y4
      unfold smithylaw19_CallsOrder.l0
      repeat' first
      | (with_reducible exact ih0 _ _ _ _ _)
      | (with_reducible exact ih1 _ _ _ _ _ _)
      | (with_reducible exact ih2 _ _ _ _)
      | (with_reducible exact ih3 _ _ _ _ _)
      | (with_reducible exact smithylaw19_great.mono _ _)
      | (with_reducible exact smithylaw19_reaches.mono _ _ _ _)
      | (with_reducible exact LeO.refl _)
      | (with_reducible exact LeO.none _)
      | (with_reducible refine LeO.ite ?_ ?_)
      | (with_reducible refine LeO.bind ?_ (fun _ => ?_))
      | exact ih0 _ _ _ _ _
      | exact ih1 _ _ _ _ _ _
      | exact ih2 _ _ _ _
      | exact ih3 _ _ _ _ _
      | exact smithylaw19_great.mono _ _
      | exact smithylaw19_reaches.mono _ _ _ _
      | exact LeO.none _
      | refine LeO.ite ?_ ?_
      | refine LeO.bind ?_ (fun _ => ?_)
    · intro y0 y1 y2 y3 y4 y5
      unfold smithylaw19_CallsOrder.l1
      repeat' first
      | (with_reducible exact ih0 _ _ _ _ _)
      | (with_reducible exact ih1 _ _ _ _ _ _)
      | (with_reducible exact ih2 _ _ _ _)
      | (with_reducible exact ih3 _ _ _ _ _)
      | (with_reducible exact smithylaw19_great.mono _ _)
      | (with_reducible exact smithylaw19_reaches.mono _ _ _ _)
      | (with_reducible exact LeO.refl _)
      | (with_reducible exact LeO.none _)
      | (with_reducible refine LeO.ite ?_ ?_)
      | (with_reducible refine LeO.bind ?_ (fun _ => ?_))
      | exact ih0 _ _ _ _ _
      | exact ih1 _ _ _ _ _ _
      | exact ih2 _ _ _ _
      | exact ih3 _ _ _ _ _
      | exact smithylaw19_great.mono _ _
      | exact smithylaw19_reaches.mono _ _ _ _
      | exact LeO.none _
      | refine LeO.ite ?_ ?_
      | refine LeO.bind ?_ (fun _ => ?_)
    · intro y0 y1 y2 y3
      unfold smithylaw19_CallsOrder.l2
      repeat' first
      | (with_reducible exact ih0 _ _ _ _ _)
      | (with_reducible exact ih1 _ _ _ _ _ _)
      | (with_reducible exact ih2 _ _ _ _)
      | (with_reducible exact ih3 _ _ _ _ _)
      | (with_reducible exact smithylaw19_great.mono _ _)
      | (with_reducible exact smithylaw19_reaches.mono _ _ _ _)
      | (with_reducible exact LeO.refl _)
      | (with_reducible exact LeO.none _)
      | (with_reducible refine LeO.ite ?_ ?_)
      | (with_reducible refine LeO.bind ?_ (fun _ => ?_))
      | exact ih0 _ _ _ _ _
      | exact ih1 _ _ _ _ _ _
      | exact ih2 _ _ _ _
      | exact ih3 _ _ _ _ _
      | exact smithylaw19_great.mono _ _
      | exact smithylaw19_reaches.mono _ _ _ _
      | exact LeO.none _
      | refine LeO.ite ?_ ?_
      | refine LeO.bind ?_ (fun _ => ?_)
    · intro y0 y1 y2 y3 y4
      unfold smithylaw19_CallsOrder.l3
      repeat' first
      | (with_reducible exact ih0 _ _ _ _ _)
      | (with_reducible exact ih1 _ _ _ _ _ _)
      | (with_reducible exact ih2 _ _ _ _)
      | (with_reducible exact ih3 _ _ _ _ _)
      | (with_reducible exact smithylaw19_great.mono _ _)
      | (with_reducible exact smithylaw19_reaches.mono _ _ _ _)
      | (with_reducible exact LeO.refl _)
      | (with_reducible exact LeO.none _)
      | (with_reducible refine LeO.ite ?_ ?_)
      | (with_reducible refine LeO.bind ?_ (fun _ => ?_))
      | exact ih0 _ _ _ _ _
      | exact ih1 _ _ _ _ _ _
      | exact ih2 _ _ _ _
      | exact ih3 _ _ _ _ _
      | exact smithylaw19_great.mono _ _
      | exact smithylaw19_reaches.mono _ _ _ _
      | exact LeO.none _
      | refine LeO.ite ?_ ?_
      | refine LeO.bind ?_ (fun _ => ?_)
theorem smithylaw19_CallsOrder.mono : ∀ a0 k, LeO (smithylaw19_CallsOrder.f k a0) (smithylaw19_CallsOrder.f (k + 1) a0) := by
  intro a0 k
  obtain ⟨ih0, ih1, ih2, ih3⟩ := smithylaw19_CallsOrder.mono_l k
  unfold smithylaw19_CallsOrder.f
  repeat' first
      | (with_reducible exact ih0 _ _ _ _ _)
      | (with_reducible exact ih1 _ _ _ _ _ _)
      | (with_reducible exact ih2 _ _ _ _)
      | (with_reducible exact ih3 _ _ _ _ _)
      | (with_reducible exact smithylaw19_great.mono _ _)
      | (with_reducible exact smithylaw19_reaches.mono _ _ _ _)
      | (with_reducible exact LeO.refl _)
      | (with_reducible exact LeO.none _)
      | (with_reducible refine LeO.ite ?_ ?_)
      | (with_reducible refine LeO.bind ?_ (fun _ => ?_))
      | exact ih0 _ _ _ _ _
      | exact ih1 _ _ _ _ _ _
      | exact ih2 _ _ _ _
      | exact ih3 _ _ _ _ _
      | exact smithylaw19_great.mono _ _
      | exact smithylaw19_reaches.mono _ _ _ _
      | exact LeO.none _
      | refine LeO.ite ?_ ?_
      | refine LeO.bind ?_ (fun _ => ?_)
set_option maxHeartbeats 8000000 in
set_option maxRecDepth 100000 in
theorem smithylaw19_CallsOrder.calls (k : Nat) (A0 : Option Addr) (c0 : Nat) (l0 : List (List Int)) (r : Bool) (w : World) (hr0 : Kd.C (Kd.slice 3 (Kd.int .i64)) w A0 l0.length l0) (hc0 : l0.length ≤ c0) (h : smithylaw19_CallsOrder.f k l0 = some r) :
    Calls Try.prog 6 #[.slice A0 l0.length c0] w fun e w' => e = .returned (.bool r) ∧ Below w.heap.size w w' := by
 have HR0 := Aside0.mk hr0
 have HC0 := Aside0.mk hc0
 clear hr0 hc0
 have HB := Aside0.mk (Below.refl w.heap.size w)
 have H : ((smithylaw19_awake.f).bind fun t496 => (if t496 = true then ((calls_Parts.f l0).bind fun bt497 => (if bt497.2 = 0 then ((smithylaw19_great.f k l0).bind fun t501 => (if t501 = true then (some true) else (if 0 ≤ (l0.length : Int) then (if ((l0.length : Int) : Int).toNat ≤ 35184372088832 then (smithylaw19_CallsOrder.l0 k l0 bt497.1 (List.replicate ((l0.length : Int) : Int).toNat 0) 0 0) else (none)) else (none)))) else (if bt497.2 = 4 then (some ((bt497.1.length : Int) == 0)) else (some false)))) else (some false))) = some r := h
 clear h
 replace H := Option.bind_eq_some_iff.mp H
 obtain ⟨t496, A20, H⟩ := H
 replace H : (if t496 = true then ((calls_Parts.f l0).bind fun bt497 => (if bt497.2 = 0 then ((smithylaw19_great.f k l0).bind fun t501 => (if t501 = true then (some true) else (if 0 ≤ (l0.length : Int) then (if ((l0.length : Int) : Int).toNat ≤ 35184372088832 then (smithylaw19_CallsOrder.l0 k l0 bt497.1 (List.replicate ((l0.length : Int) : Int).toNat 0) 0 0) else (none)) else (none)))) else (if bt497.2 = 4 then (some ((bt497.1.length : Int) == 0)) else (some false)))) else (some false)) = some r := H
 have A2 := Aside0.mk A20
 clear A20
 have HF3 := Aside0.mk H
 clear H
 go_enter Try.func6, Try.ntmps6
 go_upto_if 13 with (first | (go_at_call 9; (with_reducible refine (smithylaw19_awake.calls  t496 _ A2.out).mono ?_); rintro e w4 ⟨rfl, hb⟩; have n0_ := Aside0.mk (below_step (by repeat (first | (with_reducible first | exact HB.out | apply below_alloc | apply pw_below_drewN | apply below_drew1) | exact HB.out)) hb); clear HB; have HB := n0_; clear n0_; (try clear hb); (try clear hb2); (try clear hk); (try clear hi)))
 repeat (go_quiet (first | (go_at_call 9; (with_reducible refine (smithylaw19_awake.calls  t496 _ A2.out).mono ?_); rintro e w4 ⟨rfl, hb⟩; have n0_ := Aside0.mk (below_step (by repeat (first | (with_reducible first | exact HB.out | apply below_alloc | apply pw_below_drewN | apply below_drew1) | exact HB.out)) hb); clear HB; have HB := n0_; clear n0_; (try clear hb); (try clear hb2); (try clear hk); (try clear hi))); go_upto_if 13 with (first | (go_at_call 9; (with_reducible refine (smithylaw19_awake.calls  t496 _ A2.out).mono ?_); rintro e w4 ⟨rfl, hb⟩; have n0_ := Aside0.mk (below_step (by repeat (first | (with_reducible first | exact HB.out | apply below_alloc | apply pw_below_drewN | apply below_drew1) | exact HB.out)) hb); clear HB; have HB := n0_; clear n0_; (try clear hb); (try clear hb2); (try clear hk); (try clear hi))))
 (try simp only [Act.put, List.setIfInBounds_toArray, List.set_cons_zero, List.set_cons_succ])
 have H := HF3.out
 clear HF3
 by_cases c5 : t496 = true
 ·
  subst c5
  have H1 : ((calls_Parts.f l0).bind fun bt497 => (if bt497.2 = 0 then ((smithylaw19_great.f k l0).bind fun t501 => (if t501 = true then (some true) else (if 0 ≤ (l0.length : Int) then (if ((l0.length : Int) : Int).toNat ≤ 35184372088832 then (smithylaw19_CallsOrder.l0 k l0 bt497.1 (List.replicate ((l0.length : Int) : Int).toNat 0) 0 0) else (none)) else (none)))) else (if bt497.2 = 4 then (some ((bt497.1.length : Int) == 0)) else (some false)))) = some r := by rw [if_pos rfl] at H; exact H
  clear H
  have H := H1
  clear H1
  replace H := Option.bind_eq_some_iff.mp H
  obtain ⟨⟨t497, t498⟩, A60, H⟩ := H
  replace H : (if t498 = 0 then ((smithylaw19_great.f k l0).bind fun t501 => (if t501 = true then (some true) else (if 0 ≤ (l0.length : Int) then (if ((l0.length : Int) : Int).toNat ≤ 35184372088832 then (smithylaw19_CallsOrder.l0 k l0 t497 (List.replicate ((l0.length : Int) : Int).toNat 0) 0 0) else (none)) else (none)))) else (if t498 = 4 then (some ((t497.length : Int) == 0)) else (some false))) = some r := H
  have A6 := Aside0.mk A60
  clear A60
  have HF7 := Aside0.mk H
  clear H
  go_upto_if 20 with (first | (go_at_call 10; (with_reducible refine (calls_Parts.calls _ _ l0 t497 t498 _ ?side1 ?side2 A6.out).mono ?_); (case side1 => repeat (first | exact (Kd.C_below HR0.out HB.out) | (with_reducible refine Kd.C_alloc ?_ _) | (with_reducible refine Kd.C_drewN ?_ _) | (with_reducible refine Kd.C_drew ?_))); (case side2 => exact HC0.out); rintro e w8 ⟨v499, rfl, ho0, hb⟩; have n0_ := Aside0.mk (Kd.S_lower ho0 (below_size (by repeat (first | (with_reducible first | exact HB.out | apply below_alloc | apply pw_below_drewN | apply below_drew1) | exact HB.out)))); have n1_ := Aside0.mk (below_step (by repeat (first | (with_reducible first | exact HB.out | apply below_alloc | apply pw_below_drewN | apply below_drew1) | exact HB.out)) hb); clear HB; have HO500 := n0_; have HB := n1_; clear n0_ n1_; (try clear hb); (try clear hb2); (try clear hk); (try clear hi); (try clear ho0)))
  repeat (go_quiet (first | (go_at_call 10; (with_reducible refine (calls_Parts.calls _ _ l0 t497 t498 _ ?side1 ?side2 A6.out).mono ?_); (case side1 => repeat (first | exact (Kd.C_below HR0.out HB.out) | (with_reducible refine Kd.C_alloc ?_ _) | (with_reducible refine Kd.C_drewN ?_ _) | (with_reducible refine Kd.C_drew ?_))); (case side2 => exact HC0.out); rintro e w8 ⟨v499, rfl, ho0, hb⟩; have n0_ := Aside0.mk (Kd.S_lower ho0 (below_size (by repeat (first | (with_reducible first | exact HB.out | apply below_alloc | apply pw_below_drewN | apply below_drew1) | exact HB.out)))); have n1_ := Aside0.mk (below_step (by repeat (first | (with_reducible first | exact HB.out | apply below_alloc | apply pw_below_drewN | apply below_drew1) | exact HB.out)) hb); clear HB; have HO500 := n0_; have HB := n1_; clear n0_ n1_; (try clear hb); (try clear hb2); (try clear hk); (try clear hi); (try clear ho0))); go_upto_if 20 with (first | (go_at_call 10; (with_reducible refine (calls_Parts.calls _ _ l0 t497 t498 _ ?side1 ?side2 A6.out).mono ?_); (case side1 => repeat (first | exact (Kd.C_below HR0.out HB.out) | (with_reducible refine Kd.C_alloc ?_ _) | (with_reducible refine Kd.C_drewN ?_ _) | (with_reducible refine Kd.C_drew ?_))); (case side2 => exact HC0.out); rintro e w8 ⟨v499, rfl, ho0, hb⟩; have n0_ := Aside0.mk (Kd.S_lower ho0 (below_size (by repeat (first | (with_reducible first | exact HB.out | apply below_alloc | apply pw_below_drewN | apply below_drew1) | exact HB.out)))); have n1_ := Aside0.mk (below_step (by repeat (first | (with_reducible first | exact HB.out | apply below_alloc | apply pw_below_drewN | apply below_drew1) | exact HB.out)) hb); clear HB; have HO500 := n0_; have HB := n1_; clear n0_ n1_; (try clear hb); (try clear hb2); (try clear hk); (try clear hi); (try clear ho0))))
  (try simp only [Act.put, List.setIfInBounds_toArray, List.set_cons_zero, List.set_cons_succ])
  have H := HF7.out
  clear HF7
  by_cases c9 : t498 = 0
  ·
   rw [if_pos c9] at H
   have c9b0 : (t498 == 0) = true := beq_iff_eq.mpr c9
   have c9b1 : (t498 != 0) = false := bne_eq_false_iff_eq.mpr c9
   clear c9
   replace H := Option.bind_eq_some_iff.mp H
   obtain ⟨t501, A100, H⟩ := H
   replace H : (if t501 = true then (some true) else (if 0 ≤ (l0.length : Int) then (if ((l0.length : Int) : Int).toNat ≤ 35184372088832 then (smithylaw19_CallsOrder.l0 k l0 t497 (List.replicate ((l0.length : Int) : Int).toNat 0) 0 0) else (none)) else (none))) = some r := H
   have A10 := Aside0.mk A100
   clear A100
   have HF11 := Aside0.mk H
   clear H
   go_upto_if 29 with (first | (go_at_call 8; (with_reducible refine (smithylaw19_great.calls k _ _ l0 t501 _ ?side1 ?side2 A10.out).mono ?_); (case side1 => repeat (first | exact (Kd.C_below HR0.out HB.out) | (with_reducible refine Kd.C_alloc ?_ _) | (with_reducible refine Kd.C_drewN ?_ _) | (with_reducible refine Kd.C_drew ?_))); (case side2 => exact HC0.out); rintro e w' ⟨rfl, ⟨nd, rfl⟩⟩; (try first | exact ⟨rfl, _, World.drewN_drewN _ _ _⟩ | exact ⟨rfl, _, Eq.trans (World.drewN_drewN _ _ _) (congrArg (World.drewN _) (Nat.add_assoc _ _ _))⟩)))
   repeat (go_quiet (first | (go_at_call 8; (with_reducible refine (smithylaw19_great.calls k _ _ l0 t501 _ ?side1 ?side2 A10.out).mono ?_); (case side1 => repeat (first | exact (Kd.C_below HR0.out HB.out) | (with_reducible refine Kd.C_alloc ?_ _) | (with_reducible refine Kd.C_drewN ?_ _) | (with_reducible refine Kd.C_drew ?_))); (case side2 => exact HC0.out); rintro e w' ⟨rfl, ⟨nd, rfl⟩⟩; (try first | exact ⟨rfl, _, World.drewN_drewN _ _ _⟩ | exact ⟨rfl, _, Eq.trans (World.drewN_drewN _ _ _) (congrArg (World.drewN _) (Nat.add_assoc _ _ _))⟩))); go_upto_if 29 with (first | (go_at_call 8; (with_reducible refine (smithylaw19_great.calls k _ _ l0 t501 _ ?side1 ?side2 A10.out).mono ?_); (case side1 => repeat (first | exact (Kd.C_below HR0.out HB.out) | (with_reducible refine Kd.C_alloc ?_ _) | (with_reducible refine Kd.C_drewN ?_ _) | (with_reducible refine Kd.C_drew ?_))); (case side2 => exact HC0.out); rintro e w' ⟨rfl, ⟨nd, rfl⟩⟩; (try first | exact ⟨rfl, _, World.drewN_drewN _ _ _⟩ | exact ⟨rfl, _, Eq.trans (World.drewN_drewN _ _ _) (congrArg (World.drewN _) (Nat.add_assoc _ _ _))⟩))))
   (try simp only [Act.put, List.setIfInBounds_toArray, List.set_cons_zero, List.set_cons_succ])
   have H := HF11.out
   clear HF11
   by_cases c12 : t501 = true
   ·
    subst c12
    have H1 : (some true) = some r := by rw [if_pos rfl] at H; exact H
    clear H
    have H := H1
    clear H1
    obtain rfl := Option.some.inj H
    go_wp2
    repeat (go_quiet (fail); try go_wp2)
    go_ret
    exact ⟨by first | rfl | (simp <;> rfl) | (simp [*] <;> rfl), by repeat (first | (with_reducible first | exact HB.out | apply below_alloc | apply pw_below_drewN | apply below_drew1) | exact HB.out)⟩
   ·
    replace c12 := Bool.eq_false_iff.mpr c12
    subst c12
    have H1 : (if 0 ≤ (l0.length : Int) then (if ((l0.length : Int) : Int).toNat ≤ 35184372088832 then (smithylaw19_CallsOrder.l0 k l0 t497 (List.replicate ((l0.length : Int) : Int).toNat 0) 0 0) else (none)) else (none)) = some r := by rw [if_neg (show ¬ (false = true) by decide)] at H; exact H
    clear H
    have H := H1
    clear H1
    by_cases c13 : 0 ≤ (l0.length : Int)
    ·
     rw [if_pos c13] at H
     have c13b0 := eq_true c13
     have c13b1 : decide (0 ≤ (l0.length : Int)) = true := decide_eq_true c13
     clear c13
     by_cases c14 : ((l0.length : Int) : Int).toNat ≤ 35184372088832
     ·
      rw [if_pos c14] at H
      have c14b0 := eq_true c14
      have c14b1 : decide (((l0.length : Int) : Int).toNat ≤ 35184372088832) = true := decide_eq_true c14
      clear c14
      obtain ⟨y502, hy502⟩ : ∃ y_ : List Int, y_ = (List.replicate ((l0.length : Int) : Int).toNat 0) := ⟨_, rfl⟩
      replace H : (smithylaw19_CallsOrder.l0 k l0 t497 y502 0 0) = some r := by first | (rw [hy502]; with_reducible exact H) | (have H2_ := (Option.bind_some _ _).symm.trans H; rw [hy502]; with_reducible exact H2_) | (have H2_ := (Option.bind_some _ _).symm.trans H; with_reducible exact H2_) | with_reducible exact H | (rw [hy502]; exact H) | exact H
      have Ny502 := Aside0.mk hy502
      clear hy502
      have H' := Aside0.mk H
      clear H
      go_wp2_with (first | ((with_reducible refine gate_dst (N := 32) rfl ?_); (try (refine gate_guard (by rfl) ?_; dsimp only)); refine Kd.R_make (Kd.int .i64) _ 3 rfl (N := 32) rfl 35 _ _ rfl (l0.length : Int) rfl rfl Try.underlying35 (.int .i64 0) 8 info3 rfl (by decide) (by omega) 0 (ok := fun _ => True) (okp := fun _ => True) rfl (fun _ hk => hk) trivial (of_decide_eq_true (by first | (with_reducible assumption) | assumption)) (Nat.le_trans (Nat.mul_le_mul_right _ (of_decide_eq_true (by first | (with_reducible assumption) | assumption) : (l0.length : Int).toNat ≤ 35184372088832)) (by omega)) (Below.refl _ _) (Nat.le_refl _) ?_; intro v503 w15 ho16 hb hg_ hnew_; clear hg_ hnew_; (first | rw [← Ny502.out] at ho16 | (simp only [Int.reduceToNat] at ho16; rw [← Ny502.out] at ho16)); have n0_ := Aside0.mk (Kd.S_elder' (by (with_reducible repeat (first | apply Kd.S_alloc | apply Kd.S_drewN | apply Kd.S_drew)); exact HO500.out) (Kd.R_base ho16) hb); have n1_ := Aside0.mk (Kd.R_lower ho16 (below_size (by repeat (first | (with_reducible first | exact HB.out | apply below_alloc | apply pw_below_drewN | apply below_drew1) | exact HB.out)))); have n2_ := Aside0.mk (below_step (by repeat (first | (with_reducible first | exact HB.out | apply below_alloc | apply pw_below_drewN | apply below_drew1) | exact HB.out)) hb); clear HO500; clear HB; have HO500 := n0_; have HO504 := n1_; have HB := n2_; clear n0_ n1_ n2_; clear hb ho16))
      repeat (go_quiet (first | ((with_reducible refine gate_dst (N := 32) rfl ?_); (try (refine gate_guard (by rfl) ?_; dsimp only)); refine Kd.R_make (Kd.int .i64) _ 3 rfl (N := 32) rfl 35 _ _ rfl (l0.length : Int) rfl rfl Try.underlying35 (.int .i64 0) 8 info3 rfl (by decide) (by omega) 0 (ok := fun _ => True) (okp := fun _ => True) rfl (fun _ hk => hk) trivial (of_decide_eq_true (by first | (with_reducible assumption) | assumption)) (Nat.le_trans (Nat.mul_le_mul_right _ (of_decide_eq_true (by first | (with_reducible assumption) | assumption) : (l0.length : Int).toNat ≤ 35184372088832)) (by omega)) (Below.refl _ _) (Nat.le_refl _) ?_; intro v503 w15 ho16 hb hg_ hnew_; clear hg_ hnew_; (first | rw [← Ny502.out] at ho16 | (simp only [Int.reduceToNat] at ho16; rw [← Ny502.out] at ho16)); have n0_ := Aside0.mk (Kd.S_elder' (by (with_reducible repeat (first | apply Kd.S_alloc | apply Kd.S_drewN | apply Kd.S_drew)); exact HO500.out) (Kd.R_base ho16) hb); have n1_ := Aside0.mk (Kd.R_lower ho16 (below_size (by repeat (first | (with_reducible first | exact HB.out | apply below_alloc | apply pw_below_drewN | apply below_drew1) | exact HB.out)))); have n2_ := Aside0.mk (below_step (by repeat (first | (with_reducible first | exact HB.out | apply below_alloc | apply pw_below_drewN | apply below_drew1) | exact HB.out)) hb); clear HO500; clear HB; have HO500 := n0_; have HO504 := n1_; have HB := n2_; clear n0_ n1_ n2_; clear hb ho16)); try go_wp2_with (first | ((with_reducible refine gate_dst (N := 32) rfl ?_); (try (refine gate_guard (by rfl) ?_; dsimp only)); refine Kd.R_make (Kd.int .i64) _ 3 rfl (N := 32) rfl 35 _ _ rfl (l0.length : Int) rfl rfl Try.underlying35 (.int .i64 0) 8 info3 rfl (by decide) (by omega) 0 (ok := fun _ => True) (okp := fun _ => True) rfl (fun _ hk => hk) trivial (of_decide_eq_true (by first | (with_reducible assumption) | assumption)) (Nat.le_trans (Nat.mul_le_mul_right _ (of_decide_eq_true (by first | (with_reducible assumption) | assumption) : (l0.length : Int).toNat ≤ 35184372088832)) (by omega)) (Below.refl _ _) (Nat.le_refl _) ?_; intro v503 w15 ho16 hb hg_ hnew_; clear hg_ hnew_; (first | rw [← Ny502.out] at ho16 | (simp only [Int.reduceToNat] at ho16; rw [← Ny502.out] at ho16)); have n0_ := Aside0.mk (Kd.S_elder' (by (with_reducible repeat (first | apply Kd.S_alloc | apply Kd.S_drewN | apply Kd.S_drew)); exact HO500.out) (Kd.R_base ho16) hb); have n1_ := Aside0.mk (Kd.R_lower ho16 (below_size (by repeat (first | (with_reducible first | exact HB.out | apply below_alloc | apply pw_below_drewN | apply below_drew1) | exact HB.out)))); have n2_ := Aside0.mk (below_step (by repeat (first | (with_reducible first | exact HB.out | apply below_alloc | apply pw_below_drewN | apply below_drew1) | exact HB.out)) hb); clear HO500; clear HB; have HO500 := n0_; have HO504 := n1_; have HB := n2_; clear n0_ n1_ n2_; clear hb ho16)))
      go_loopg [6, 7] k (fun kq v6 v7 w' => ∃ (x5_1 : List Int) (x6_1 : Int) (x7_1 : Int), v6 = .int .i64 x6_1 ∧ v7 = .int .i64 x7_1 ∧ Aside0 (smithylaw19_CallsOrder.l0 kq l0 t497 x5_1 x6_1 x7_1 = some r) ∧ Aside0 (kq ≤ k) ∧ Aside0 (Kd.S (Kd.slice 3 (Kd.int .i64)) 35 w' w.heap.size (fun k_ => some k_ ≠ (v503 : Value).ownBlock) v499 t497) ∧ Aside0 (Kd.R (Kd.int .i64) 3 w' w.heap.size (fun _ => True) v503 x5_1) ∧ Aside0 (Below w.heap.size w w'))
      case atStart => exact ⟨(y502), (0), (0), (by first | rfl | (simp; done) | (simp [*]; done)), (by first | rfl | (simp; done) | (simp [*]; done)), H', ⟨Nat.le_refl _⟩, ⟨by (with_reducible repeat (first | apply Kd.S_alloc | apply Kd.S_drewN | apply Kd.S_drew)); exact Kd.S_mono HO500.out (fun _ hk => hk.2)⟩, ⟨by (with_reducible repeat (first | apply Kd.R_alloc | apply Kd.R_drewN | apply Kd.R_drew)); exact HO504.out⟩, ⟨by repeat (first | (with_reducible first | exact HB.out | apply below_alloc | apply pw_below_drewN | apply below_drew1) | exact HB.out)⟩⟩
      case round =>
       clear H'
       try clear c1
       try clear p2
       try clear c5
       try clear c6
       try clear c9
       try clear c9b0
       try clear c9b1
       try clear c12
       try clear c13
       try clear c13b0
       try clear c13b1
       try clear c14
       try clear c14b0
       try clear c14b1
       obtain ⟨x5_1, x6_1, x7_1, rfl, rfl, HA, HK1, HO_3, HO_5, HB⟩ := hrel
       cases gk with
       | zero => exact absurd HA.out (by simp [smithylaw19_CallsOrder.l0])
       | succ k1 =>
        have H := HA.out
        clear HA
        simp only [smithylaw19_CallsOrder.l0] at H
        by_cases c17 : x7_1 < (t497.length : Int)
        ·
         rw [if_pos c17] at H
         have c17b0 : decide (x7_1 < (t497.length : Int)) = true := decide_eq_true c17
         clear c17
         by_cases c18 : 0 ≤ x7_1
         ·
          rw [if_pos c18] at H
          have c18b0 : decide (0 ≤ x7_1) = true := decide_eq_true c18
          clear c18
          by_cases c19 : ((rd_L1 t497 x7_1).length : Int) = 0
          ·
           rw [if_pos c19] at H
           have c19b0 : (((rd_L1 t497 x7_1).length : Int) == 0) = true := beq_iff_eq.mpr c19
           have c19b1 : (((rd_L1 t497 x7_1).length : Int) != 0) = false := bne_eq_false_iff_eq.mpr c19
           clear c19
           obtain rfl := Option.some.inj H
           obtain ⟨Ao20, co20, eo20⟩ := Kd.S_slice HO_3.out
           subst eo20
           have p505 : 0 ≤ (x7_1 : Int) := of_decide_eq_true (by first | (with_reducible assumption) | assumption)
           have q505 : x7_1 < (t497.length : Int) := of_decide_eq_true (by first | (with_reducible assumption) | assumption)
           obtain ⟨ad505, A505_0, c505_0, e505, hx505_0, hl505_0, hi505_0⟩ := at_L1 (Kd.S_reads' HO_3.out).2.2 x7_1 p505 q505
           cases e505
           obtain ⟨ce505, hce505, hMe505, hcc505⟩ := Kd.S_get HO_3.out [] x7_1 p505 (by first | exact q505 | exact of_decide_eq_true (by first | (with_reducible assumption) | assumption) | (have e_ := (Kd.S_reads' HO_3.out).1; omega))
           obtain ⟨ve505_0, rfl, ge505_0⟩ := hMe505
           have hv505_0 := hcc505 0 _ rfl
           rw [Nat.add_zero, show ((Kd.slice 3 (Kd.int .i64))).sz = 1 from rfl, Nat.mul_one] at hv505_0
           replace hv505_0 := Option.some.inj (hv505_0.symm.trans hx505_0)
           rw [hv505_0] at ge505_0
           have HL505_0 := Aside0.mk (show Kd.R (Kd.int .i64) 3 _ _ _ _ (rd_L1 t497 x7_1) from ge505_0)
           clear hv505_0 ge505_0
           clear hcc505 hce505
           have HR505_0 := Aside0.mk hi505_0
           have HC505_0 := Aside0.mk hl505_0
           clear hi505_0 hl505_0
           replace p505 := eq_true p505
           replace q505 := eq_true q505
           go_wp2
           repeat (go_quiet (fail); try go_wp2)
           go_ret
           exact ⟨by first | rfl | (simp <;> rfl) | (simp [*] <;> rfl), by repeat (first | (with_reducible first | exact HB.out | apply below_alloc | apply pw_below_drewN | apply below_drew1) | exact HB.out)⟩
          ·
           rw [if_neg c19] at H
           have c19b0 : (((rd_L1 t497 x7_1).length : Int) == 0) = false := beq_eq_false_iff_ne.mpr c19
           have c19b1 : (((rd_L1 t497 x7_1).length : Int) != 0) = true := bne_iff_ne.mpr c19
           have c19b2 : ¬ ((rd_L1 t497 x7_1) = []) := fun h_ => c19 (by rw [h_]; rfl)
           have H' := Aside0.mk H
           clear H
           obtain ⟨Ao21, co21, eo21⟩ := Kd.S_slice HO_3.out
           subst eo21
           have p505 : 0 ≤ (x7_1 : Int) := of_decide_eq_true (by first | (with_reducible assumption) | assumption)
           have q505 : x7_1 < (t497.length : Int) := of_decide_eq_true (by first | (with_reducible assumption) | assumption)
           obtain ⟨ad505, A505_0, c505_0, e505, hx505_0, hl505_0, hi505_0⟩ := at_L1 (Kd.S_reads' HO_3.out).2.2 x7_1 p505 q505
           cases e505
           obtain ⟨ce505, hce505, hMe505, hcc505⟩ := Kd.S_get HO_3.out [] x7_1 p505 (by first | exact q505 | exact of_decide_eq_true (by first | (with_reducible assumption) | assumption) | (have e_ := (Kd.S_reads' HO_3.out).1; omega))
           obtain ⟨ve505_0, rfl, ge505_0⟩ := hMe505
           have hv505_0 := hcc505 0 _ rfl
           rw [Nat.add_zero, show ((Kd.slice 3 (Kd.int .i64))).sz = 1 from rfl, Nat.mul_one] at hv505_0
           replace hv505_0 := Option.some.inj (hv505_0.symm.trans hx505_0)
           rw [hv505_0] at ge505_0
           have HL505_0 := Aside0.mk (show Kd.R (Kd.int .i64) 3 _ _ _ _ (rd_L1 t497 x7_1) from ge505_0)
           clear hv505_0 ge505_0
           clear hcc505 hce505
           have HR505_0 := Aside0.mk hi505_0
           have HC505_0 := Aside0.mk hl505_0
           clear hi505_0 hl505_0
           replace p505 := eq_true p505
           replace q505 := eq_true q505
           go_wp2
           repeat (go_quiet (fail); try go_wp2)
           go_loopg [6, 8] k1 (fun kq v6 v8 w' => ∃ (x5_2 : List Int) (x6_2 : Int) (x8_2 : Int), v6 = .int .i64 x6_2 ∧ v8 = .int .i64 x8_2 ∧ Aside0 (smithylaw19_CallsOrder.l1 kq l0 t497 x5_2 x6_2 x7_1 x8_2 = some r) ∧ Aside0 (kq ≤ k1) ∧ Aside0 (Kd.S (Kd.slice 3 (Kd.int .i64)) 35 w' w.heap.size (fun k_ => some k_ ≠ (v503 : Value).ownBlock) (.slice (some ad505) t497.length co21) t497) ∧ Aside0 (Kd.R (Kd.int .i64) 3 w' w.heap.size (fun _ => True) v503 x5_2) ∧ Aside0 (Below w.heap.size w w'))
           case atStart => exact ⟨(x5_1), (x6_1), (0), (by first | rfl | (simp; done) | (simp [*]; done)), (by first | rfl | (simp; done) | (simp [*]; done)), H', ⟨Nat.le_refl _⟩, ⟨by (with_reducible repeat (first | apply Kd.S_alloc | apply Kd.S_drewN | apply Kd.S_drew)); exact HO_3.out⟩, ⟨by (with_reducible repeat (first | apply Kd.R_alloc | apply Kd.R_drewN | apply Kd.R_drew)); exact HO_5.out⟩, ⟨by repeat (first | (with_reducible first | exact HB.out | apply below_alloc | apply pw_below_drewN | apply below_drew1) | exact HB.out)⟩⟩
           case round =>
            clear H'
            try clear c1
            try clear p2
            try clear c5
            try clear p5
            try clear q5
            try clear hx5
            try clear c6
            try clear c9
            try clear c9b0
            try clear c9b1
            try clear c12
            try clear c13
            try clear c13b0
            try clear c13b1
            try clear c14
            try clear c14b0
            try clear c14b1
            try clear c17
            try clear c17b0
            try clear c18
            try clear c18b0
            try clear c19
            try clear c19b0
            try clear c19b1
            try clear c19b2
            try clear hx505_0
            try clear p2
            try clear p505
            try clear q505
            obtain ⟨x5_2, x6_2, x8_2, rfl, rfl, HA, HK2, HO_3, HO_5, HB⟩ := hrel
            cases gk with
            | zero => exact absurd HA.out (by simp [smithylaw19_CallsOrder.l1])
            | succ k2 =>
             have H := HA.out
             clear HA
             simp only [smithylaw19_CallsOrder.l1] at H
             by_cases c22 : 0 ≤ x7_1
             ·
              rw [if_pos c22] at H
              have c22b0 : decide (0 ≤ x7_1) = true := decide_eq_true c22
              clear c22
              by_cases c23 : x7_1 < (t497.length : Int)
              ·
               rw [if_pos c23] at H
               have c23b0 : decide (x7_1 < (t497.length : Int)) = true := decide_eq_true c23
               clear c23
               by_cases c24 : x8_2 < ((rd_L1 t497 x7_1).length : Int)
               ·
                rw [if_pos c24] at H
                have c24b0 : decide (x8_2 < ((rd_L1 t497 x7_1).length : Int)) = true := decide_eq_true c24
                clear c24
                by_cases c25 : 0 ≤ x8_2
                ·
                 rw [if_pos c25] at H
                 have c25b0 : decide (0 ≤ x8_2) = true := decide_eq_true c25
                 clear c25
                 by_cases c26 : (rd (rd_L1 t497 x7_1) x8_2) < 0
                 ·
                  rw [if_pos c26] at H
                  have c26b0 : decide ((rd (rd_L1 t497 x7_1) x8_2) < 0) = true := decide_eq_true c26
                  clear c26
                  obtain rfl := Option.some.inj H
                  have p506 : 0 ≤ (x7_1 : Int) := of_decide_eq_true (by first | (with_reducible assumption) | assumption)
                  have q506 : x7_1 < (t497.length : Int) := of_decide_eq_true (by first | (with_reducible assumption) | assumption)
                  obtain ⟨ad506, A506_0, c506_0, e506, hx506_0, hl506_0, hi506_0⟩ := at_L1 (Kd.S_reads' HO_3.out).2.2 x7_1 p506 q506
                  obtain rfl : ad505 = ad506 := (by injection e506)
                  obtain ⟨ce506, hce506, hMe506, hcc506⟩ := Kd.S_get HO_3.out [] x7_1 p506 (by first | exact q506 | exact of_decide_eq_true (by first | (with_reducible assumption) | assumption) | (have e_ := (Kd.S_reads' HO_3.out).1; omega))
                  obtain ⟨ve506_0, rfl, ge506_0⟩ := hMe506
                  have hv506_0 := hcc506 0 _ rfl
                  rw [Nat.add_zero, show ((Kd.slice 3 (Kd.int .i64))).sz = 1 from rfl, Nat.mul_one] at hv506_0
                  replace hv506_0 := Option.some.inj (hv506_0.symm.trans hx506_0)
                  rw [hv506_0] at ge506_0
                  have HL506_0 := Aside0.mk (show Kd.R (Kd.int .i64) 3 _ _ _ _ (rd_L1 t497 x7_1) from ge506_0)
                  clear hv506_0 ge506_0
                  clear hcc506 hce506
                  have HR506_0 := Aside0.mk hi506_0
                  have HC506_0 := Aside0.mk hl506_0
                  clear hi506_0 hl506_0
                  replace p506 := eq_true p506
                  replace q506 := eq_true q506
                  have p507 : 0 ≤ (x7_1 : Int) := of_decide_eq_true (by first | (with_reducible assumption) | assumption)
                  have q507 : x7_1 < (t497.length : Int) := of_decide_eq_true (by first | (with_reducible assumption) | assumption)
                  obtain ⟨ad507, A507_0, c507_0, e507, hx507_0, hl507_0, hi507_0⟩ := at_L1 (Kd.S_reads' HO_3.out).2.2 x7_1 p507 q507
                  obtain rfl : ad505 = ad507 := (by injection e507)
                  obtain ⟨ce507, hce507, hMe507, hcc507⟩ := Kd.S_get HO_3.out [] x7_1 p507 (by first | exact q507 | exact of_decide_eq_true (by first | (with_reducible assumption) | assumption) | (have e_ := (Kd.S_reads' HO_3.out).1; omega))
                  obtain ⟨ve507_0, rfl, ge507_0⟩ := hMe507
                  have hv507_0 := hcc507 0 _ rfl
                  rw [Nat.add_zero, show ((Kd.slice 3 (Kd.int .i64))).sz = 1 from rfl, Nat.mul_one] at hv507_0
                  replace hv507_0 := Option.some.inj (hv507_0.symm.trans hx507_0)
                  rw [hv507_0] at ge507_0
                  have HL507_0 := Aside0.mk (show Kd.R (Kd.int .i64) 3 _ _ _ _ (rd_L1 t497 x7_1) from ge507_0)
                  clear hv507_0 ge507_0
                  clear hcc507 hce507
                  have HR507_0 := Aside0.mk hi507_0
                  have HC507_0 := Aside0.mk hl507_0
                  clear hi507_0 hl507_0
                  replace p507 := eq_true p507
                  replace q507 := eq_true q507
                  have ea_ := Option.some.inj (hx506_0.symm.trans hx507_0)
                  injection ea_ with ea_ en_ ec_
                  subst ea_
                  subst ec_
                  clear en_
                  have p508 : 0 ≤ (x8_2 : Int) := of_decide_eq_true (by first | (with_reducible assumption) | assumption)
                  have q508 : x8_2 < ((rd_L1 t497 x7_1).length : Int) := of_decide_eq_true (by first | (with_reducible assumption) | assumption)
                  obtain ⟨ad508, e508, hx508_0⟩ := Kd.at_int (by repeat (first | (with_reducible exact HR507_0.out) | (with_reducible refine Kd.C_alloc ?_ _) | (with_reducible refine Kd.C_drewN ?_ _) | (with_reducible refine Kd.C_drew ?_) | exact HR507_0.out)) x8_2 p508 q508
                  cases e508
                  replace p508 := eq_true p508
                  replace q508 := eq_true q508
                  go_wp2
                  repeat (go_quiet (fail); try go_wp2)
                  go_ret
                  exact ⟨by first | rfl | (simp <;> rfl) | (simp [*] <;> rfl), by repeat (first | (with_reducible first | exact HB.out | apply below_alloc | apply pw_below_drewN | apply below_drew1) | exact HB.out)⟩
                 ·
                  rw [if_neg c26] at H
                  have c26b0 : decide ((rd (rd_L1 t497 x7_1) x8_2) < 0) = false := decide_eq_false c26
                  clear c26
                  by_cases c27 : (rd (rd_L1 t497 x7_1) x8_2) ≥ (l0.length : Int)
                  ·
                   rw [if_pos c27] at H
                   have c27b0 : decide ((l0.length : Int) ≤ (rd (rd_L1 t497 x7_1) x8_2)) = true := decide_eq_true c27
                   clear c27
                   obtain rfl := Option.some.inj H
                   have p506 : 0 ≤ (x7_1 : Int) := of_decide_eq_true (by first | (with_reducible assumption) | assumption)
                   have q506 : x7_1 < (t497.length : Int) := of_decide_eq_true (by first | (with_reducible assumption) | assumption)
                   obtain ⟨ad506, A506_0, c506_0, e506, hx506_0, hl506_0, hi506_0⟩ := at_L1 (Kd.S_reads' HO_3.out).2.2 x7_1 p506 q506
                   obtain rfl : ad505 = ad506 := (by injection e506)
                   obtain ⟨ce506, hce506, hMe506, hcc506⟩ := Kd.S_get HO_3.out [] x7_1 p506 (by first | exact q506 | exact of_decide_eq_true (by first | (with_reducible assumption) | assumption) | (have e_ := (Kd.S_reads' HO_3.out).1; omega))
                   obtain ⟨ve506_0, rfl, ge506_0⟩ := hMe506
                   have hv506_0 := hcc506 0 _ rfl
                   rw [Nat.add_zero, show ((Kd.slice 3 (Kd.int .i64))).sz = 1 from rfl, Nat.mul_one] at hv506_0
                   replace hv506_0 := Option.some.inj (hv506_0.symm.trans hx506_0)
                   rw [hv506_0] at ge506_0
                   have HL506_0 := Aside0.mk (show Kd.R (Kd.int .i64) 3 _ _ _ _ (rd_L1 t497 x7_1) from ge506_0)
                   clear hv506_0 ge506_0
                   clear hcc506 hce506
                   have HR506_0 := Aside0.mk hi506_0
                   have HC506_0 := Aside0.mk hl506_0
                   clear hi506_0 hl506_0
                   replace p506 := eq_true p506
                   replace q506 := eq_true q506
                   have p507 : 0 ≤ (x7_1 : Int) := of_decide_eq_true (by first | (with_reducible assumption) | assumption)
                   have q507 : x7_1 < (t497.length : Int) := of_decide_eq_true (by first | (with_reducible assumption) | assumption)
                   obtain ⟨ad507, A507_0, c507_0, e507, hx507_0, hl507_0, hi507_0⟩ := at_L1 (Kd.S_reads' HO_3.out).2.2 x7_1 p507 q507
                   obtain rfl : ad505 = ad507 := (by injection e507)
                   obtain ⟨ce507, hce507, hMe507, hcc507⟩ := Kd.S_get HO_3.out [] x7_1 p507 (by first | exact q507 | exact of_decide_eq_true (by first | (with_reducible assumption) | assumption) | (have e_ := (Kd.S_reads' HO_3.out).1; omega))
                   obtain ⟨ve507_0, rfl, ge507_0⟩ := hMe507
                   have hv507_0 := hcc507 0 _ rfl
                   rw [Nat.add_zero, show ((Kd.slice 3 (Kd.int .i64))).sz = 1 from rfl, Nat.mul_one] at hv507_0
                   replace hv507_0 := Option.some.inj (hv507_0.symm.trans hx507_0)
                   rw [hv507_0] at ge507_0
                   have HL507_0 := Aside0.mk (show Kd.R (Kd.int .i64) 3 _ _ _ _ (rd_L1 t497 x7_1) from ge507_0)
                   clear hv507_0 ge507_0
                   clear hcc507 hce507
                   have HR507_0 := Aside0.mk hi507_0
                   have HC507_0 := Aside0.mk hl507_0
                   clear hi507_0 hl507_0
                   replace p507 := eq_true p507
                   replace q507 := eq_true q507
                   have ea_ := Option.some.inj (hx506_0.symm.trans hx507_0)
                   injection ea_ with ea_ en_ ec_
                   subst ea_
                   subst ec_
                   clear en_
                   have p508 : 0 ≤ (x8_2 : Int) := of_decide_eq_true (by first | (with_reducible assumption) | assumption)
                   have q508 : x8_2 < ((rd_L1 t497 x7_1).length : Int) := of_decide_eq_true (by first | (with_reducible assumption) | assumption)
                   obtain ⟨ad508, e508, hx508_0⟩ := Kd.at_int (by repeat (first | (with_reducible exact HR507_0.out) | (with_reducible refine Kd.C_alloc ?_ _) | (with_reducible refine Kd.C_drewN ?_ _) | (with_reducible refine Kd.C_drew ?_) | exact HR507_0.out)) x8_2 p508 q508
                   cases e508
                   replace p508 := eq_true p508
                   replace q508 := eq_true q508
                   go_wp2
                   repeat (go_quiet (fail); try go_wp2)
                   go_ret
                   exact ⟨by first | rfl | (simp <;> rfl) | (simp [*] <;> rfl), by repeat (first | (with_reducible first | exact HB.out | apply below_alloc | apply pw_below_drewN | apply below_drew1) | exact HB.out)⟩
                  ·
                   rw [if_neg c27] at H
                   have c27b0 : decide ((l0.length : Int) ≤ (rd (rd_L1 t497 x7_1) x8_2)) = false := decide_eq_false c27
                   clear c27
                   by_cases c28 : 0 ≤ (rd (rd_L1 t497 x7_1) x8_2)
                   ·
                    rw [if_pos c28] at H
                    have c28b0 : decide (0 ≤ (rd (rd_L1 t497 x7_1) x8_2)) = true := decide_eq_true c28
                    clear c28
                    by_cases c29 : (rd (rd_L1 t497 x7_1) x8_2) < (x5_2.length : Int)
                    ·
                     rw [if_pos c29] at H
                     have c29b0 : decide ((rd (rd_L1 t497 x7_1) x8_2) < (x5_2.length : Int)) = true := decide_eq_true c29
                     clear c29
                     by_cases c30 : (rd x5_2 (rd (rd_L1 t497 x7_1) x8_2)) = 0
                     ·
                      rw [if_pos c30] at H
                      have c30b0 : ((rd x5_2 (rd (rd_L1 t497 x7_1) x8_2)) == 0) = true := beq_iff_eq.mpr c30
                      have c30b1 : ((rd x5_2 (rd (rd_L1 t497 x7_1) x8_2)) != 0) = false := bne_eq_false_iff_eq.mpr c30
                      clear c30
                      by_cases c31 : x8_2 > 0
                      ·
                       rw [if_pos c31] at H
                       have c31b0 : decide (0 < x8_2) = true := decide_eq_true c31
                       clear c31
                       obtain ⟨ji32, hji32⟩ : ∃ j_ : Int, (wrap64 (x8_2 - 1)) = j_ := ⟨_, rfl⟩
                       replace H : (if 0 ≤ (ji32) then (if (ji32) < ((rd_L1 t497 x7_1).length : Int) then (if (rd (rd_L1 t497 x7_1) x8_2) ≤ (rd (rd_L1 t497 x7_1) (ji32)) then (some false) else (if 0 < ((rd_L1 t497 x7_1).length : Int) then ((smithylaw19_reaches.f k2 l0 (rd (rd_L1 t497 x7_1) x8_2) (rd (rd_L1 t497 x7_1) 0)).bind fun t514 => (if t514 = true then ((smithylaw19_reaches.f k2 l0 (rd (rd_L1 t497 x7_1) 0) (rd (rd_L1 t497 x7_1) x8_2)).bind fun t517 => (if t517 = true then (smithylaw19_CallsOrder.l1 k2 l0 t497 (x5_2.set ((rd (rd_L1 t497 x7_1) x8_2) : Int).toNat (wrap64 (x7_1 + 1))) (wrap64 (x6_2 + 1)) x7_1 (wrap64 (x8_2 + 1))) else (some false))) else (some false))) else (none))) else (none)) else (none)) = some r := by first | (rw [hji32] at H; exact H) | (simp only [hji32] at H ⊢; exact H)
                       have hji32w : (IntKind.i64.wrap (x8_2 - 1)) = ji32 := (i64_w _).trans hji32
                       by_cases c33 : 0 ≤ (ji32)
                       ·
                        rw [if_pos c33] at H
                        have c33b0 : decide (0 ≤ (ji32)) = true := decide_eq_true c33
                        clear c33
                        by_cases c34 : (ji32) < ((rd_L1 t497 x7_1).length : Int)
                        ·
                         rw [if_pos c34] at H
                         have c34b0 : decide ((ji32) < ((rd_L1 t497 x7_1).length : Int)) = true := decide_eq_true c34
                         clear c34
                         by_cases c35 : (rd (rd_L1 t497 x7_1) x8_2) ≤ (rd (rd_L1 t497 x7_1) (ji32))
                         ·
                          rw [if_pos c35] at H
                          have c35b0 : decide ((rd (rd_L1 t497 x7_1) x8_2) ≤ (rd (rd_L1 t497 x7_1) (ji32))) = true := decide_eq_true c35
                          clear c35
                          obtain rfl := Option.some.inj H
                          have p506 : 0 ≤ (x7_1 : Int) := of_decide_eq_true (by first | (with_reducible assumption) | assumption)
                          have q506 : x7_1 < (t497.length : Int) := of_decide_eq_true (by first | (with_reducible assumption) | assumption)
                          obtain ⟨ad506, A506_0, c506_0, e506, hx506_0, hl506_0, hi506_0⟩ := at_L1 (Kd.S_reads' HO_3.out).2.2 x7_1 p506 q506
                          obtain rfl : ad505 = ad506 := (by injection e506)
                          obtain ⟨ce506, hce506, hMe506, hcc506⟩ := Kd.S_get HO_3.out [] x7_1 p506 (by first | exact q506 | exact of_decide_eq_true (by first | (with_reducible assumption) | assumption) | (have e_ := (Kd.S_reads' HO_3.out).1; omega))
                          obtain ⟨ve506_0, rfl, ge506_0⟩ := hMe506
                          have hv506_0 := hcc506 0 _ rfl
                          rw [Nat.add_zero, show ((Kd.slice 3 (Kd.int .i64))).sz = 1 from rfl, Nat.mul_one] at hv506_0
                          replace hv506_0 := Option.some.inj (hv506_0.symm.trans hx506_0)
                          rw [hv506_0] at ge506_0
                          have HL506_0 := Aside0.mk (show Kd.R (Kd.int .i64) 3 _ _ _ _ (rd_L1 t497 x7_1) from ge506_0)
                          clear hv506_0 ge506_0
                          clear hcc506 hce506
                          have HR506_0 := Aside0.mk hi506_0
                          have HC506_0 := Aside0.mk hl506_0
                          clear hi506_0 hl506_0
                          replace p506 := eq_true p506
                          replace q506 := eq_true q506
                          have p507 : 0 ≤ (x7_1 : Int) := of_decide_eq_true (by first | (with_reducible assumption) | assumption)
                          have q507 : x7_1 < (t497.length : Int) := of_decide_eq_true (by first | (with_reducible assumption) | assumption)
                          obtain ⟨ad507, A507_0, c507_0, e507, hx507_0, hl507_0, hi507_0⟩ := at_L1 (Kd.S_reads' HO_3.out).2.2 x7_1 p507 q507
                          obtain rfl : ad505 = ad507 := (by injection e507)
                          obtain ⟨ce507, hce507, hMe507, hcc507⟩ := Kd.S_get HO_3.out [] x7_1 p507 (by first | exact q507 | exact of_decide_eq_true (by first | (with_reducible assumption) | assumption) | (have e_ := (Kd.S_reads' HO_3.out).1; omega))
                          obtain ⟨ve507_0, rfl, ge507_0⟩ := hMe507
                          have hv507_0 := hcc507 0 _ rfl
                          rw [Nat.add_zero, show ((Kd.slice 3 (Kd.int .i64))).sz = 1 from rfl, Nat.mul_one] at hv507_0
                          replace hv507_0 := Option.some.inj (hv507_0.symm.trans hx507_0)
                          rw [hv507_0] at ge507_0
                          have HL507_0 := Aside0.mk (show Kd.R (Kd.int .i64) 3 _ _ _ _ (rd_L1 t497 x7_1) from ge507_0)
                          clear hv507_0 ge507_0
                          clear hcc507 hce507
                          have HR507_0 := Aside0.mk hi507_0
                          have HC507_0 := Aside0.mk hl507_0
                          clear hi507_0 hl507_0
                          replace p507 := eq_true p507
                          replace q507 := eq_true q507
                          have ea_ := Option.some.inj (hx506_0.symm.trans hx507_0)
                          injection ea_ with ea_ en_ ec_
                          subst ea_
                          subst ec_
                          clear en_
                          have p508 : 0 ≤ (x8_2 : Int) := of_decide_eq_true (by first | (with_reducible assumption) | assumption)
                          have q508 : x8_2 < ((rd_L1 t497 x7_1).length : Int) := of_decide_eq_true (by first | (with_reducible assumption) | assumption)
                          obtain ⟨ad508, e508, hx508_0⟩ := Kd.at_int (by repeat (first | (with_reducible exact HR507_0.out) | (with_reducible refine Kd.C_alloc ?_ _) | (with_reducible refine Kd.C_drewN ?_ _) | (with_reducible refine Kd.C_drew ?_) | exact HR507_0.out)) x8_2 p508 q508
                          cases e508
                          replace p508 := eq_true p508
                          replace q508 := eq_true q508
                          obtain ⟨Ao36, co36, eo36⟩ := Kd.R_slice HO_5.out
                          subst eo36
                          have p509 : 0 ≤ ((rd (rd_L1 t497 x7_1) x8_2) : Int) := of_decide_eq_true (by first | (with_reducible assumption) | assumption)
                          have q509 : (rd (rd_L1 t497 x7_1) x8_2) < (x5_2.length : Int) := of_decide_eq_true (by first | (with_reducible assumption) | assumption)
                          obtain ⟨ad509, e509, hx509_0⟩ := Kd.at_int (Kd.R_reads' HO_5.out).2.2 (rd (rd_L1 t497 x7_1) x8_2) p509 q509
                          cases e509
                          replace p509 := eq_true p509
                          replace q509 := eq_true q509
                          have p510 : 0 ≤ (x7_1 : Int) := of_decide_eq_true (by first | (with_reducible assumption) | assumption)
                          have q510 : x7_1 < (t497.length : Int) := of_decide_eq_true (by first | (with_reducible assumption) | assumption)
                          obtain ⟨ad510, A510_0, c510_0, e510, hx510_0, hl510_0, hi510_0⟩ := at_L1 (Kd.S_reads' HO_3.out).2.2 x7_1 p510 q510
                          obtain rfl : ad505 = ad510 := (by injection e510)
                          obtain ⟨ce510, hce510, hMe510, hcc510⟩ := Kd.S_get HO_3.out [] x7_1 p510 (by first | exact q510 | exact of_decide_eq_true (by first | (with_reducible assumption) | assumption) | (have e_ := (Kd.S_reads' HO_3.out).1; omega))
                          obtain ⟨ve510_0, rfl, ge510_0⟩ := hMe510
                          have hv510_0 := hcc510 0 _ rfl
                          rw [Nat.add_zero, show ((Kd.slice 3 (Kd.int .i64))).sz = 1 from rfl, Nat.mul_one] at hv510_0
                          replace hv510_0 := Option.some.inj (hv510_0.symm.trans hx510_0)
                          rw [hv510_0] at ge510_0
                          have HL510_0 := Aside0.mk (show Kd.R (Kd.int .i64) 3 _ _ _ _ (rd_L1 t497 x7_1) from ge510_0)
                          clear hv510_0 ge510_0
                          clear hcc510 hce510
                          have HR510_0 := Aside0.mk hi510_0
                          have HC510_0 := Aside0.mk hl510_0
                          clear hi510_0 hl510_0
                          replace p510 := eq_true p510
                          replace q510 := eq_true q510
                          have ea_ := Option.some.inj (hx506_0.symm.trans hx510_0)
                          injection ea_ with ea_ en_ ec_
                          subst ea_
                          subst ec_
                          clear en_
                          have p511 : 0 ≤ ((ji32) : Int) := of_decide_eq_true (by first | (with_reducible assumption) | assumption)
                          have q511 : (ji32) < ((rd_L1 t497 x7_1).length : Int) := of_decide_eq_true (by first | (with_reducible assumption) | assumption)
                          obtain ⟨ad511, e511, hx511_0⟩ := Kd.at_int (by repeat (first | (with_reducible exact HR510_0.out) | (with_reducible refine Kd.C_alloc ?_ _) | (with_reducible refine Kd.C_drewN ?_ _) | (with_reducible refine Kd.C_drew ?_) | exact HR510_0.out)) (ji32) p511 q511
                          cases e511
                          replace p511 := eq_true p511
                          replace q511 := eq_true q511
                          go_wp2
                          repeat (go_quiet (fail); try go_wp2)
                          go_ret
                          exact ⟨by first | rfl | (simp <;> rfl) | (simp only [← hji32]; first | rfl | (simp <;> rfl)) | (simp [*] <;> rfl), by repeat (first | (with_reducible first | exact HB.out | apply below_alloc | apply pw_below_drewN | apply below_drew1) | exact HB.out)⟩
                         ·
                          rw [if_neg c35] at H
                          have c35b0 : decide ((rd (rd_L1 t497 x7_1) x8_2) ≤ (rd (rd_L1 t497 x7_1) (ji32))) = false := decide_eq_false c35
                          clear c35
                          by_cases c37 : 0 < ((rd_L1 t497 x7_1).length : Int)
                          ·
                           rw [if_pos c37] at H
                           have c37b0 : decide (0 < ((rd_L1 t497 x7_1).length : Int)) = true := decide_eq_true c37
                           have c37b1 : decide (0 < (rd_L1 t497 x7_1).length) = true := decide_eq_true (by omega)
                           clear c37
                           replace H := Option.bind_eq_some_iff.mp H
                           obtain ⟨t514, A380, H⟩ := H
                           replace H : (if t514 = true then ((smithylaw19_reaches.f k2 l0 (rd (rd_L1 t497 x7_1) 0) (rd (rd_L1 t497 x7_1) x8_2)).bind fun t517 => (if t517 = true then (smithylaw19_CallsOrder.l1 k2 l0 t497 (x5_2.set ((rd (rd_L1 t497 x7_1) x8_2) : Int).toNat (wrap64 (x7_1 + 1))) (wrap64 (x6_2 + 1)) x7_1 (wrap64 (x8_2 + 1))) else (some false))) else (some false)) = some r := H
                           have A38 := Aside0.mk A380
                           clear A380
                           by_cases c39 : t514 = true
                           ·
                            subst c39
                            have H1 : ((smithylaw19_reaches.f k2 l0 (rd (rd_L1 t497 x7_1) 0) (rd (rd_L1 t497 x7_1) x8_2)).bind fun t517 => (if t517 = true then (smithylaw19_CallsOrder.l1 k2 l0 t497 (x5_2.set ((rd (rd_L1 t497 x7_1) x8_2) : Int).toNat (wrap64 (x7_1 + 1))) (wrap64 (x6_2 + 1)) x7_1 (wrap64 (x8_2 + 1))) else (some false))) = some r := by rw [if_pos rfl] at H; exact H
                            clear H
                            have H := H1
                            clear H1
                            replace H := Option.bind_eq_some_iff.mp H
                            obtain ⟨t517, A400, H⟩ := H
                            replace H : (if t517 = true then (smithylaw19_CallsOrder.l1 k2 l0 t497 (x5_2.set ((rd (rd_L1 t497 x7_1) x8_2) : Int).toNat (wrap64 (x7_1 + 1))) (wrap64 (x6_2 + 1)) x7_1 (wrap64 (x8_2 + 1))) else (some false)) = some r := H
                            have A40 := Aside0.mk A400
                            clear A400
                            have HF41 := Aside0.mk H
                            clear H
                            have p506 : 0 ≤ (x7_1 : Int) := of_decide_eq_true (by first | (with_reducible assumption) | assumption)
                            have q506 : x7_1 < (t497.length : Int) := of_decide_eq_true (by first | (with_reducible assumption) | assumption)
                            obtain ⟨ad506, A506_0, c506_0, e506, hx506_0, hl506_0, hi506_0⟩ := at_L1 (Kd.S_reads' HO_3.out).2.2 x7_1 p506 q506
                            obtain rfl : ad505 = ad506 := (by injection e506)
                            obtain ⟨ce506, hce506, hMe506, hcc506⟩ := Kd.S_get HO_3.out [] x7_1 p506 (by first | exact q506 | exact of_decide_eq_true (by first | (with_reducible assumption) | assumption) | (have e_ := (Kd.S_reads' HO_3.out).1; omega))
                            obtain ⟨ve506_0, rfl, ge506_0⟩ := hMe506
                            have hv506_0 := hcc506 0 _ rfl
                            rw [Nat.add_zero, show ((Kd.slice 3 (Kd.int .i64))).sz = 1 from rfl, Nat.mul_one] at hv506_0
                            replace hv506_0 := Option.some.inj (hv506_0.symm.trans hx506_0)
                            rw [hv506_0] at ge506_0
                            have HL506_0 := Aside0.mk (show Kd.R (Kd.int .i64) 3 _ _ _ _ (rd_L1 t497 x7_1) from ge506_0)
                            clear hv506_0 ge506_0
                            clear hcc506 hce506
                            have HR506_0 := Aside0.mk hi506_0
                            have HC506_0 := Aside0.mk hl506_0
                            clear hi506_0 hl506_0
                            replace p506 := eq_true p506
                            replace q506 := eq_true q506
                            have p507 : 0 ≤ (x7_1 : Int) := of_decide_eq_true (by first | (with_reducible assumption) | assumption)
                            have q507 : x7_1 < (t497.length : Int) := of_decide_eq_true (by first | (with_reducible assumption) | assumption)
                            obtain ⟨ad507, A507_0, c507_0, e507, hx507_0, hl507_0, hi507_0⟩ := at_L1 (Kd.S_reads' HO_3.out).2.2 x7_1 p507 q507
                            obtain rfl : ad505 = ad507 := (by injection e507)
                            obtain ⟨ce507, hce507, hMe507, hcc507⟩ := Kd.S_get HO_3.out [] x7_1 p507 (by first | exact q507 | exact of_decide_eq_true (by first | (with_reducible assumption) | assumption) | (have e_ := (Kd.S_reads' HO_3.out).1; omega))
                            obtain ⟨ve507_0, rfl, ge507_0⟩ := hMe507
                            have hv507_0 := hcc507 0 _ rfl
                            rw [Nat.add_zero, show ((Kd.slice 3 (Kd.int .i64))).sz = 1 from rfl, Nat.mul_one] at hv507_0
                            replace hv507_0 := Option.some.inj (hv507_0.symm.trans hx507_0)
                            rw [hv507_0] at ge507_0
                            have HL507_0 := Aside0.mk (show Kd.R (Kd.int .i64) 3 _ _ _ _ (rd_L1 t497 x7_1) from ge507_0)
                            clear hv507_0 ge507_0
                            clear hcc507 hce507
                            have HR507_0 := Aside0.mk hi507_0
                            have HC507_0 := Aside0.mk hl507_0
                            clear hi507_0 hl507_0
                            replace p507 := eq_true p507
                            replace q507 := eq_true q507
                            have ea_ := Option.some.inj (hx506_0.symm.trans hx507_0)
                            injection ea_ with ea_ en_ ec_
                            subst ea_
                            subst ec_
                            clear en_
                            have p508 : 0 ≤ (x8_2 : Int) := of_decide_eq_true (by first | (with_reducible assumption) | assumption)
                            have q508 : x8_2 < ((rd_L1 t497 x7_1).length : Int) := of_decide_eq_true (by first | (with_reducible assumption) | assumption)
                            obtain ⟨ad508, e508, hx508_0⟩ := Kd.at_int (by repeat (first | (with_reducible exact HR507_0.out) | (with_reducible refine Kd.C_alloc ?_ _) | (with_reducible refine Kd.C_drewN ?_ _) | (with_reducible refine Kd.C_drew ?_) | exact HR507_0.out)) x8_2 p508 q508
                            cases e508
                            replace p508 := eq_true p508
                            replace q508 := eq_true q508
                            obtain ⟨Ao42, co42, eo42⟩ := Kd.R_slice HO_5.out
                            subst eo42
                            have p509 : 0 ≤ ((rd (rd_L1 t497 x7_1) x8_2) : Int) := of_decide_eq_true (by first | (with_reducible assumption) | assumption)
                            have q509 : (rd (rd_L1 t497 x7_1) x8_2) < (x5_2.length : Int) := of_decide_eq_true (by first | (with_reducible assumption) | assumption)
                            obtain ⟨ad509, e509, hx509_0⟩ := Kd.at_int (Kd.R_reads' HO_5.out).2.2 (rd (rd_L1 t497 x7_1) x8_2) p509 q509
                            cases e509
                            replace p509 := eq_true p509
                            replace q509 := eq_true q509
                            have p510 : 0 ≤ (x7_1 : Int) := of_decide_eq_true (by first | (with_reducible assumption) | assumption)
                            have q510 : x7_1 < (t497.length : Int) := of_decide_eq_true (by first | (with_reducible assumption) | assumption)
                            obtain ⟨ad510, A510_0, c510_0, e510, hx510_0, hl510_0, hi510_0⟩ := at_L1 (Kd.S_reads' HO_3.out).2.2 x7_1 p510 q510
                            obtain rfl : ad505 = ad510 := (by injection e510)
                            obtain ⟨ce510, hce510, hMe510, hcc510⟩ := Kd.S_get HO_3.out [] x7_1 p510 (by first | exact q510 | exact of_decide_eq_true (by first | (with_reducible assumption) | assumption) | (have e_ := (Kd.S_reads' HO_3.out).1; omega))
                            obtain ⟨ve510_0, rfl, ge510_0⟩ := hMe510
                            have hv510_0 := hcc510 0 _ rfl
                            rw [Nat.add_zero, show ((Kd.slice 3 (Kd.int .i64))).sz = 1 from rfl, Nat.mul_one] at hv510_0
                            replace hv510_0 := Option.some.inj (hv510_0.symm.trans hx510_0)
                            rw [hv510_0] at ge510_0
                            have HL510_0 := Aside0.mk (show Kd.R (Kd.int .i64) 3 _ _ _ _ (rd_L1 t497 x7_1) from ge510_0)
                            clear hv510_0 ge510_0
                            clear hcc510 hce510
                            have HR510_0 := Aside0.mk hi510_0
                            have HC510_0 := Aside0.mk hl510_0
                            clear hi510_0 hl510_0
                            replace p510 := eq_true p510
                            replace q510 := eq_true q510
                            have ea_ := Option.some.inj (hx506_0.symm.trans hx510_0)
                            injection ea_ with ea_ en_ ec_
                            subst ea_
                            subst ec_
                            clear en_
                            have p511 : 0 ≤ ((ji32) : Int) := of_decide_eq_true (by first | (with_reducible assumption) | assumption)
                            have q511 : (ji32) < ((rd_L1 t497 x7_1).length : Int) := of_decide_eq_true (by first | (with_reducible assumption) | assumption)
                            obtain ⟨ad511, e511, hx511_0⟩ := Kd.at_int (by repeat (first | (with_reducible exact HR510_0.out) | (with_reducible refine Kd.C_alloc ?_ _) | (with_reducible refine Kd.C_drewN ?_ _) | (with_reducible refine Kd.C_drew ?_) | exact HR510_0.out)) (ji32) p511 q511
                            cases e511
                            replace p511 := eq_true p511
                            replace q511 := eq_true q511
                            have p512 : 0 ≤ (x7_1 : Int) := of_decide_eq_true (by first | (with_reducible assumption) | assumption)
                            have q512 : x7_1 < (t497.length : Int) := of_decide_eq_true (by first | (with_reducible assumption) | assumption)
                            obtain ⟨ad512, A512_0, c512_0, e512, hx512_0, hl512_0, hi512_0⟩ := at_L1 (Kd.S_reads' HO_3.out).2.2 x7_1 p512 q512
                            obtain rfl : ad505 = ad512 := (by injection e512)
                            obtain ⟨ce512, hce512, hMe512, hcc512⟩ := Kd.S_get HO_3.out [] x7_1 p512 (by first | exact q512 | exact of_decide_eq_true (by first | (with_reducible assumption) | assumption) | (have e_ := (Kd.S_reads' HO_3.out).1; omega))
                            obtain ⟨ve512_0, rfl, ge512_0⟩ := hMe512
                            have hv512_0 := hcc512 0 _ rfl
                            rw [Nat.add_zero, show ((Kd.slice 3 (Kd.int .i64))).sz = 1 from rfl, Nat.mul_one] at hv512_0
                            replace hv512_0 := Option.some.inj (hv512_0.symm.trans hx512_0)
                            rw [hv512_0] at ge512_0
                            have HL512_0 := Aside0.mk (show Kd.R (Kd.int .i64) 3 _ _ _ _ (rd_L1 t497 x7_1) from ge512_0)
                            clear hv512_0 ge512_0
                            clear hcc512 hce512
                            have HR512_0 := Aside0.mk hi512_0
                            have HC512_0 := Aside0.mk hl512_0
                            clear hi512_0 hl512_0
                            replace p512 := eq_true p512
                            replace q512 := eq_true q512
                            have ea_ := Option.some.inj (hx506_0.symm.trans hx512_0)
                            injection ea_ with ea_ en_ ec_
                            subst ea_
                            subst ec_
                            clear en_
                            have p513 : 0 ≤ (0 : Int) := (by omega)
                            have q513 : 0 < ((rd_L1 t497 x7_1).length : Int) := of_decide_eq_true (by first | (with_reducible assumption) | assumption)
                            obtain ⟨ad513, e513, hx513_0⟩ := Kd.at_int (by repeat (first | (with_reducible exact HR512_0.out) | (with_reducible refine Kd.C_alloc ?_ _) | (with_reducible refine Kd.C_drewN ?_ _) | (with_reducible refine Kd.C_drew ?_) | exact HR512_0.out)) 0 p513 q513
                            cases e513
                            have qi513 : (0 < (rd_L1 t497 x7_1).length) = True := eq_true (by omega)
                            (try rw [show ((0 : Int)).toNat = 0 from rfl] at hx513_0)
                            (try rw [Addr.add_zero'] at hx513_0)
                            replace p513 := eq_true p513
                            replace q513 := eq_true q513
                            go_upto_if 119 with (first | (go_at_call 21; (with_reducible refine (smithylaw19_reaches.calls k2 _ _ l0 (rd (rd_L1 t497 x7_1) x8_2) (rd (rd_L1 t497 x7_1) 0) true _ ?side1 ?side2 A38.out).mono ?_); (case side1 => repeat (first | exact (Kd.C_below HR0.out HB.out) | (with_reducible refine Kd.C_alloc ?_ _) | (with_reducible refine Kd.C_drewN ?_ _) | (with_reducible refine Kd.C_drew ?_))); (case side2 => exact HC0.out); rintro e w43 ⟨rfl, hb⟩; have n0_ := Aside0.mk (Kd.S_below (by (with_reducible repeat (first | apply Kd.S_alloc | apply Kd.S_drewN | apply Kd.S_drew)); exact HO_3.out) hb); have n1_ := Aside0.mk (Kd.R_below (by (with_reducible repeat (first | apply Kd.R_alloc | apply Kd.R_drewN | apply Kd.R_drew)); exact HO_5.out) hb); have n2_ := Aside0.mk (Kd.R_below (by (with_reducible repeat (first | apply Kd.R_alloc | apply Kd.R_drewN | apply Kd.R_drew)); exact HL506_0.out) hb); have n3_ := Aside0.mk (Kd.R_below (by (with_reducible repeat (first | apply Kd.R_alloc | apply Kd.R_drewN | apply Kd.R_drew)); exact HL507_0.out) hb); have n4_ := Aside0.mk (Kd.R_below (by (with_reducible repeat (first | apply Kd.R_alloc | apply Kd.R_drewN | apply Kd.R_drew)); exact HL510_0.out) hb); have n5_ := Aside0.mk (Kd.R_below (by (with_reducible repeat (first | apply Kd.R_alloc | apply Kd.R_drewN | apply Kd.R_drew)); exact HL512_0.out) hb); have n6_ := Aside0.mk (Kd.C_below (by repeat (first | (with_reducible exact HR506_0.out) | (with_reducible refine Kd.C_alloc ?_ _) | (with_reducible refine Kd.C_drewN ?_ _) | (with_reducible refine Kd.C_drew ?_) | exact HR506_0.out)) hb); have n7_ := Aside0.mk (Kd.C_below (by repeat (first | (with_reducible exact HR507_0.out) | (with_reducible refine Kd.C_alloc ?_ _) | (with_reducible refine Kd.C_drewN ?_ _) | (with_reducible refine Kd.C_drew ?_) | exact HR507_0.out)) hb); have n8_ := Aside0.mk (Kd.C_below (by repeat (first | (with_reducible exact HR510_0.out) | (with_reducible refine Kd.C_alloc ?_ _) | (with_reducible refine Kd.C_drewN ?_ _) | (with_reducible refine Kd.C_drew ?_) | exact HR510_0.out)) hb); have n9_ := Aside0.mk (Kd.C_below (by repeat (first | (with_reducible exact HR512_0.out) | (with_reducible refine Kd.C_alloc ?_ _) | (with_reducible refine Kd.C_drewN ?_ _) | (with_reducible refine Kd.C_drew ?_) | exact HR512_0.out)) hb); have n10_ := Aside0.mk (below_step (by repeat (first | (with_reducible first | exact HB.out | apply below_alloc | apply pw_below_drewN | apply below_drew1) | exact HB.out)) hb); clear HO_3; clear HO_5; clear HL506_0; clear HL507_0; clear HL510_0; clear HL512_0; clear HR506_0; clear HR507_0; clear HR510_0; clear HR512_0; clear HB; have HO_3 := n0_; have HO_5 := n1_; have HL506_0 := n2_; have HL507_0 := n3_; have HL510_0 := n4_; have HL512_0 := n5_; have HR506_0 := n6_; have HR507_0 := n7_; have HR510_0 := n8_; have HR512_0 := n9_; have HB := n10_; clear n0_ n1_ n2_ n3_ n4_ n5_ n6_ n7_ n8_ n9_ n10_; (try clear hb); (try clear hb2); (try clear hk); (try clear hi); have p515 : 0 ≤ (x7_1 : Int) := of_decide_eq_true (by first | (with_reducible assumption) | assumption); have q515 : x7_1 < (t497.length : Int) := of_decide_eq_true (by first | (with_reducible assumption) | assumption); obtain ⟨ad515, A515_0, c515_0, e515, hx515_0, hl515_0, hi515_0⟩ := at_L1 (Kd.S_reads' HO_3.out).2.2 x7_1 p515 q515; obtain rfl : ad505 = ad515 := (by injection e515); obtain ⟨ce515, hce515, hMe515, hcc515⟩ := Kd.S_get HO_3.out [] x7_1 p515 (by first | exact q515 | exact of_decide_eq_true (by first | (with_reducible assumption) | assumption) | (have e_ := (Kd.S_reads' HO_3.out).1; omega)); obtain ⟨ve515_0, rfl, ge515_0⟩ := hMe515; have hv515_0 := hcc515 0 _ rfl; rw [Nat.add_zero, show ((Kd.slice 3 (Kd.int .i64))).sz = 1 from rfl, Nat.mul_one] at hv515_0; replace hv515_0 := Option.some.inj (hv515_0.symm.trans hx515_0); rw [hv515_0] at ge515_0; have HL515_0 := Aside0.mk (show Kd.R (Kd.int .i64) 3 _ _ _ _ (rd_L1 t497 x7_1) from ge515_0); clear hv515_0 ge515_0; clear hcc515 hce515; have HR515_0 := Aside0.mk hi515_0; have HC515_0 := Aside0.mk hl515_0; clear hi515_0 hl515_0; replace p515 := eq_true p515; replace q515 := eq_true q515; have p516 : 0 ≤ (0 : Int) := (by omega); have q516 : 0 < ((rd_L1 t497 x7_1).length : Int) := of_decide_eq_true (by first | (with_reducible assumption) | assumption); obtain ⟨ad516, e516, hx516_0⟩ := Kd.at_int (by repeat (first | (with_reducible exact HR515_0.out) | (with_reducible refine Kd.C_alloc ?_ _) | (with_reducible refine Kd.C_drewN ?_ _) | (with_reducible refine Kd.C_drew ?_) | exact HR515_0.out)) 0 p516 q516; cases e516; have qi516 : (0 < (rd_L1 t497 x7_1).length) = True := eq_true (by omega); (try rw [show ((0 : Int)).toNat = 0 from rfl] at hx516_0); (try rw [Addr.add_zero'] at hx516_0); replace p516 := eq_true p516; replace q516 := eq_true q516) | (go_at_call 21; (with_reducible refine (smithylaw19_reaches.calls k2 _ _ l0 (rd (rd_L1 t497 x7_1) 0) (rd (rd_L1 t497 x7_1) x8_2) t517 _ ?side1 ?side2 A40.out).mono ?_); (case side1 => repeat (first | exact (Kd.C_below HR0.out HB.out) | (with_reducible refine Kd.C_alloc ?_ _) | (with_reducible refine Kd.C_drewN ?_ _) | (with_reducible refine Kd.C_drew ?_))); (case side2 => exact HC0.out); rintro e w44 ⟨rfl, hb⟩; have n0_ := Aside0.mk (Kd.S_below (by (with_reducible repeat (first | apply Kd.S_alloc | apply Kd.S_drewN | apply Kd.S_drew)); exact HO_3.out) hb); have n1_ := Aside0.mk (Kd.R_below (by (with_reducible repeat (first | apply Kd.R_alloc | apply Kd.R_drewN | apply Kd.R_drew)); exact HO_5.out) hb); have n2_ := Aside0.mk (Kd.R_below (by (with_reducible repeat (first | apply Kd.R_alloc | apply Kd.R_drewN | apply Kd.R_drew)); exact HL506_0.out) hb); have n3_ := Aside0.mk (Kd.R_below (by (with_reducible repeat (first | apply Kd.R_alloc | apply Kd.R_drewN | apply Kd.R_drew)); exact HL507_0.out) hb); have n4_ := Aside0.mk (Kd.R_below (by (with_reducible repeat (first | apply Kd.R_alloc | apply Kd.R_drewN | apply Kd.R_drew)); exact HL510_0.out) hb); have n5_ := Aside0.mk (Kd.R_below (by (with_reducible repeat (first | apply Kd.R_alloc | apply Kd.R_drewN | apply Kd.R_drew)); exact HL512_0.out) hb); have n6_ := Aside0.mk (Kd.R_below (by (with_reducible repeat (first | apply Kd.R_alloc | apply Kd.R_drewN | apply Kd.R_drew)); exact HL515_0.out) hb); have n7_ := Aside0.mk (Kd.C_below (by repeat (first | (with_reducible exact HR506_0.out) | (with_reducible refine Kd.C_alloc ?_ _) | (with_reducible refine Kd.C_drewN ?_ _) | (with_reducible refine Kd.C_drew ?_) | exact HR506_0.out)) hb); have n8_ := Aside0.mk (Kd.C_below (by repeat (first | (with_reducible exact HR507_0.out) | (with_reducible refine Kd.C_alloc ?_ _) | (with_reducible refine Kd.C_drewN ?_ _) | (with_reducible refine Kd.C_drew ?_) | exact HR507_0.out)) hb); have n9_ := Aside0.mk (Kd.C_below (by repeat (first | (with_reducible exact HR510_0.out) | (with_reducible refine Kd.C_alloc ?_ _) | (with_reducible refine Kd.C_drewN ?_ _) | (with_reducible refine Kd.C_drew ?_) | exact HR510_0.out)) hb); have n10_ := Aside0.mk (Kd.C_below (by repeat (first | (with_reducible exact HR512_0.out) | (with_reducible refine Kd.C_alloc ?_ _) | (with_reducible refine Kd.C_drewN ?_ _) | (with_reducible refine Kd.C_drew ?_) | exact HR512_0.out)) hb); have n11_ := Aside0.mk (Kd.C_below (by repeat (first | (with_reducible exact HR515_0.out) | (with_reducible refine Kd.C_alloc ?_ _) | (with_reducible refine Kd.C_drewN ?_ _) | (with_reducible refine Kd.C_drew ?_) | exact HR515_0.out)) hb); have n12_ := Aside0.mk (below_step (by repeat (first | (with_reducible first | exact HB.out | apply below_alloc | apply pw_below_drewN | apply below_drew1) | exact HB.out)) hb); clear HO_3; clear HO_5; clear HL506_0; clear HL507_0; clear HL510_0; clear HL512_0; clear HL515_0; clear HR506_0; clear HR507_0; clear HR510_0; clear HR512_0; clear HR515_0; clear HB; have HO_3 := n0_; have HO_5 := n1_; have HL506_0 := n2_; have HL507_0 := n3_; have HL510_0 := n4_; have HL512_0 := n5_; have HL515_0 := n6_; have HR506_0 := n7_; have HR507_0 := n8_; have HR510_0 := n9_; have HR512_0 := n10_; have HR515_0 := n11_; have HB := n12_; clear n0_ n1_ n2_ n3_ n4_ n5_ n6_ n7_ n8_ n9_ n10_ n11_ n12_; (try clear hb); (try clear hb2); (try clear hk); (try clear hi)))
                            repeat (go_quiet (first | (go_at_call 21; (with_reducible refine (smithylaw19_reaches.calls k2 _ _ l0 (rd (rd_L1 t497 x7_1) x8_2) (rd (rd_L1 t497 x7_1) 0) true _ ?side1 ?side2 A38.out).mono ?_); (case side1 => repeat (first | exact (Kd.C_below HR0.out HB.out) | (with_reducible refine Kd.C_alloc ?_ _) | (with_reducible refine Kd.C_drewN ?_ _) | (with_reducible refine Kd.C_drew ?_))); (case side2 => exact HC0.out); rintro e w43 ⟨rfl, hb⟩; have n0_ := Aside0.mk (Kd.S_below (by (with_reducible repeat (first | apply Kd.S_alloc | apply Kd.S_drewN | apply Kd.S_drew)); exact HO_3.out) hb); have n1_ := Aside0.mk (Kd.R_below (by (with_reducible repeat (first | apply Kd.R_alloc | apply Kd.R_drewN | apply Kd.R_drew)); exact HO_5.out) hb); have n2_ := Aside0.mk (Kd.R_below (by (with_reducible repeat (first | apply Kd.R_alloc | apply Kd.R_drewN | apply Kd.R_drew)); exact HL506_0.out) hb); have n3_ := Aside0.mk (Kd.R_below (by (with_reducible repeat (first | apply Kd.R_alloc | apply Kd.R_drewN | apply Kd.R_drew)); exact HL507_0.out) hb); have n4_ := Aside0.mk (Kd.R_below (by (with_reducible repeat (first | apply Kd.R_alloc | apply Kd.R_drewN | apply Kd.R_drew)); exact HL510_0.out) hb); have n5_ := Aside0.mk (Kd.R_below (by (with_reducible repeat (first | apply Kd.R_alloc | apply Kd.R_drewN | apply Kd.R_drew)); exact HL512_0.out) hb); have n6_ := Aside0.mk (Kd.C_below (by repeat (first | (with_reducible exact HR506_0.out) | (with_reducible refine Kd.C_alloc ?_ _) | (with_reducible refine Kd.C_drewN ?_ _) | (with_reducible refine Kd.C_drew ?_) | exact HR506_0.out)) hb); have n7_ := Aside0.mk (Kd.C_below (by repeat (first | (with_reducible exact HR507_0.out) | (with_reducible refine Kd.C_alloc ?_ _) | (with_reducible refine Kd.C_drewN ?_ _) | (with_reducible refine Kd.C_drew ?_) | exact HR507_0.out)) hb); have n8_ := Aside0.mk (Kd.C_below (by repeat (first | (with_reducible exact HR510_0.out) | (with_reducible refine Kd.C_alloc ?_ _) | (with_reducible refine Kd.C_drewN ?_ _) | (with_reducible refine Kd.C_drew ?_) | exact HR510_0.out)) hb); have n9_ := Aside0.mk (Kd.C_below (by repeat (first | (with_reducible exact HR512_0.out) | (with_reducible refine Kd.C_alloc ?_ _) | (with_reducible refine Kd.C_drewN ?_ _) | (with_reducible refine Kd.C_drew ?_) | exact HR512_0.out)) hb); have n10_ := Aside0.mk (below_step (by repeat (first | (with_reducible first | exact HB.out | apply below_alloc | apply pw_below_drewN | apply below_drew1) | exact HB.out)) hb); clear HO_3; clear HO_5; clear HL506_0; clear HL507_0; clear HL510_0; clear HL512_0; clear HR506_0; clear HR507_0; clear HR510_0; clear HR512_0; clear HB; have HO_3 := n0_; have HO_5 := n1_; have HL506_0 := n2_; have HL507_0 := n3_; have HL510_0 := n4_; have HL512_0 := n5_; have HR506_0 := n6_; have HR507_0 := n7_; have HR510_0 := n8_; have HR512_0 := n9_; have HB := n10_; clear n0_ n1_ n2_ n3_ n4_ n5_ n6_ n7_ n8_ n9_ n10_; (try clear hb); (try clear hb2); (try clear hk); (try clear hi); have p515 : 0 ≤ (x7_1 : Int) := of_decide_eq_true (by first | (with_reducible assumption) | assumption); have q515 : x7_1 < (t497.length : Int) := of_decide_eq_true (by first | (with_reducible assumption) | assumption); obtain ⟨ad515, A515_0, c515_0, e515, hx515_0, hl515_0, hi515_0⟩ := at_L1 (Kd.S_reads' HO_3.out).2.2 x7_1 p515 q515; obtain rfl : ad505 = ad515 := (by injection e515); obtain ⟨ce515, hce515, hMe515, hcc515⟩ := Kd.S_get HO_3.out [] x7_1 p515 (by first | exact q515 | exact of_decide_eq_true (by first | (with_reducible assumption) | assumption) | (have e_ := (Kd.S_reads' HO_3.out).1; omega)); obtain ⟨ve515_0, rfl, ge515_0⟩ := hMe515; have hv515_0 := hcc515 0 _ rfl; rw [Nat.add_zero, show ((Kd.slice 3 (Kd.int .i64))).sz = 1 from rfl, Nat.mul_one] at hv515_0; replace hv515_0 := Option.some.inj (hv515_0.symm.trans hx515_0); rw [hv515_0] at ge515_0; have HL515_0 := Aside0.mk (show Kd.R (Kd.int .i64) 3 _ _ _ _ (rd_L1 t497 x7_1) from ge515_0); clear hv515_0 ge515_0; clear hcc515 hce515; have HR515_0 := Aside0.mk hi515_0; have HC515_0 := Aside0.mk hl515_0; clear hi515_0 hl515_0; replace p515 := eq_true p515; replace q515 := eq_true q515; have p516 : 0 ≤ (0 : Int) := (by omega); have q516 : 0 < ((rd_L1 t497 x7_1).length : Int) := of_decide_eq_true (by first | (with_reducible assumption) | assumption); obtain ⟨ad516, e516, hx516_0⟩ := Kd.at_int (by repeat (first | (with_reducible exact HR515_0.out) | (with_reducible refine Kd.C_alloc ?_ _) | (with_reducible refine Kd.C_drewN ?_ _) | (with_reducible refine Kd.C_drew ?_) | exact HR515_0.out)) 0 p516 q516; cases e516; have qi516 : (0 < (rd_L1 t497 x7_1).length) = True := eq_true (by omega); (try rw [show ((0 : Int)).toNat = 0 from rfl] at hx516_0); (try rw [Addr.add_zero'] at hx516_0); replace p516 := eq_true p516; replace q516 := eq_true q516) | (go_at_call 21; (with_reducible refine (smithylaw19_reaches.calls k2 _ _ l0 (rd (rd_L1 t497 x7_1) 0) (rd (rd_L1 t497 x7_1) x8_2) t517 _ ?side1 ?side2 A40.out).mono ?_); (case side1 => repeat (first | exact (Kd.C_below HR0.out HB.out) | (with_reducible refine Kd.C_alloc ?_ _) | (with_reducible refine Kd.C_drewN ?_ _) | (with_reducible refine Kd.C_drew ?_))); (case side2 => exact HC0.out); rintro e w44 ⟨rfl, hb⟩; have n0_ := Aside0.mk (Kd.S_below (by (with_reducible repeat (first | apply Kd.S_alloc | apply Kd.S_drewN | apply Kd.S_drew)); exact HO_3.out) hb); have n1_ := Aside0.mk (Kd.R_below (by (with_reducible repeat (first | apply Kd.R_alloc | apply Kd.R_drewN | apply Kd.R_drew)); exact HO_5.out) hb); have n2_ := Aside0.mk (Kd.R_below (by (with_reducible repeat (first | apply Kd.R_alloc | apply Kd.R_drewN | apply Kd.R_drew)); exact HL506_0.out) hb); have n3_ := Aside0.mk (Kd.R_below (by (with_reducible repeat (first | apply Kd.R_alloc | apply Kd.R_drewN | apply Kd.R_drew)); exact HL507_0.out) hb); have n4_ := Aside0.mk (Kd.R_below (by (with_reducible repeat (first | apply Kd.R_alloc | apply Kd.R_drewN | apply Kd.R_drew)); exact HL510_0.out) hb); have n5_ := Aside0.mk (Kd.R_below (by (with_reducible repeat (first | apply Kd.R_alloc | apply Kd.R_drewN | apply Kd.R_drew)); exact HL512_0.out) hb); have n6_ := Aside0.mk (Kd.R_below (by (with_reducible repeat (first | apply Kd.R_alloc | apply Kd.R_drewN | apply Kd.R_drew)); exact HL515_0.out) hb); have n7_ := Aside0.mk (Kd.C_below (by repeat (first | (with_reducible exact HR506_0.out) | (with_reducible refine Kd.C_alloc ?_ _) | (with_reducible refine Kd.C_drewN ?_ _) | (with_reducible refine Kd.C_drew ?_) | exact HR506_0.out)) hb); have n8_ := Aside0.mk (Kd.C_below (by repeat (first | (with_reducible exact HR507_0.out) | (with_reducible refine Kd.C_alloc ?_ _) | (with_reducible refine Kd.C_drewN ?_ _) | (with_reducible refine Kd.C_drew ?_) | exact HR507_0.out)) hb); have n9_ := Aside0.mk (Kd.C_below (by repeat (first | (with_reducible exact HR510_0.out) | (with_reducible refine Kd.C_alloc ?_ _) | (with_reducible refine Kd.C_drewN ?_ _) | (with_reducible refine Kd.C_drew ?_) | exact HR510_0.out)) hb); have n10_ := Aside0.mk (Kd.C_below (by repeat (first | (with_reducible exact HR512_0.out) | (with_reducible refine Kd.C_alloc ?_ _) | (with_reducible refine Kd.C_drewN ?_ _) | (with_reducible refine Kd.C_drew ?_) | exact HR512_0.out)) hb); have n11_ := Aside0.mk (Kd.C_below (by repeat (first | (with_reducible exact HR515_0.out) | (with_reducible refine Kd.C_alloc ?_ _) | (with_reducible refine Kd.C_drewN ?_ _) | (with_reducible refine Kd.C_drew ?_) | exact HR515_0.out)) hb); have n12_ := Aside0.mk (below_step (by repeat (first | (with_reducible first | exact HB.out | apply below_alloc | apply pw_below_drewN | apply below_drew1) | exact HB.out)) hb); clear HO_3; clear HO_5; clear HL506_0; clear HL507_0; clear HL510_0; clear HL512_0; clear HL515_0; clear HR506_0; clear HR507_0; clear HR510_0; clear HR512_0; clear HR515_0; clear HB; have HO_3 := n0_; have HO_5 := n1_; have HL506_0 := n2_; have HL507_0 := n3_; have HL510_0 := n4_; have HL512_0 := n5_; have HL515_0 := n6_; have HR506_0 := n7_; have HR507_0 := n8_; have HR510_0 := n9_; have HR512_0 := n10_; have HR515_0 := n11_; have HB := n12_; clear n0_ n1_ n2_ n3_ n4_ n5_ n6_ n7_ n8_ n9_ n10_ n11_ n12_; (try clear hb); (try clear hb2); (try clear hk); (try clear hi))); go_upto_if 119 with (first | (go_at_call 21; (with_reducible refine (smithylaw19_reaches.calls k2 _ _ l0 (rd (rd_L1 t497 x7_1) x8_2) (rd (rd_L1 t497 x7_1) 0) true _ ?side1 ?side2 A38.out).mono ?_); (case side1 => repeat (first | exact (Kd.C_below HR0.out HB.out) | (with_reducible refine Kd.C_alloc ?_ _) | (with_reducible refine Kd.C_drewN ?_ _) | (with_reducible refine Kd.C_drew ?_))); (case side2 => exact HC0.out); rintro e w43 ⟨rfl, hb⟩; have n0_ := Aside0.mk (Kd.S_below (by (with_reducible repeat (first | apply Kd.S_alloc | apply Kd.S_drewN | apply Kd.S_drew)); exact HO_3.out) hb); have n1_ := Aside0.mk (Kd.R_below (by (with_reducible repeat (first | apply Kd.R_alloc | apply Kd.R_drewN | apply Kd.R_drew)); exact HO_5.out) hb); have n2_ := Aside0.mk (Kd.R_below (by (with_reducible repeat (first | apply Kd.R_alloc | apply Kd.R_drewN | apply Kd.R_drew)); exact HL506_0.out) hb); have n3_ := Aside0.mk (Kd.R_below (by (with_reducible repeat (first | apply Kd.R_alloc | apply Kd.R_drewN | apply Kd.R_drew)); exact HL507_0.out) hb); have n4_ := Aside0.mk (Kd.R_below (by (with_reducible repeat (first | apply Kd.R_alloc | apply Kd.R_drewN | apply Kd.R_drew)); exact HL510_0.out) hb); have n5_ := Aside0.mk (Kd.R_below (by (with_reducible repeat (first | apply Kd.R_alloc | apply Kd.R_drewN | apply Kd.R_drew)); exact HL512_0.out) hb); have n6_ := Aside0.mk (Kd.C_below (by repeat (first | (with_reducible exact HR506_0.out) | (with_reducible refine Kd.C_alloc ?_ _) | (with_reducible refine Kd.C_drewN ?_ _) | (with_reducible refine Kd.C_drew ?_) | exact HR506_0.out)) hb); have n7_ := Aside0.mk (Kd.C_below (by repeat (first | (with_reducible exact HR507_0.out) | (with_reducible refine Kd.C_alloc ?_ _) | (with_reducible refine Kd.C_drewN ?_ _) | (with_reducible refine Kd.C_drew ?_) | exact HR507_0.out)) hb); have n8_ := Aside0.mk (Kd.C_below (by repeat (first | (with_reducible exact HR510_0.out) | (with_reducible refine Kd.C_alloc ?_ _) | (with_reducible refine Kd.C_drewN ?_ _) | (with_reducible refine Kd.C_drew ?_) | exact HR510_0.out)) hb); have n9_ := Aside0.mk (Kd.C_below (by repeat (first | (with_reducible exact HR512_0.out) | (with_reducible refine Kd.C_alloc ?_ _) | (with_reducible refine Kd.C_drewN ?_ _) | (with_reducible refine Kd.C_drew ?_) | exact HR512_0.out)) hb); have n10_ := Aside0.mk (below_step (by repeat (first | (with_reducible first | exact HB.out | apply below_alloc | apply pw_below_drewN | apply below_drew1) | exact HB.out)) hb); clear HO_3; clear HO_5; clear HL506_0; clear HL507_0; clear HL510_0; clear HL512_0; clear HR506_0; clear HR507_0; clear HR510_0; clear HR512_0; clear HB; have HO_3 := n0_; have HO_5 := n1_; have HL506_0 := n2_; have HL507_0 := n3_; have HL510_0 := n4_; have HL512_0 := n5_; have HR506_0 := n6_; have HR507_0 := n7_; have HR510_0 := n8_; have HR512_0 := n9_; have HB := n10_; clear n0_ n1_ n2_ n3_ n4_ n5_ n6_ n7_ n8_ n9_ n10_; (try clear hb); (try clear hb2); (try clear hk); (try clear hi); have p515 : 0 ≤ (x7_1 : Int) := of_decide_eq_true (by first | (with_reducible assumption) | assumption); have q515 : x7_1 < (t497.length : Int) := of_decide_eq_true (by first | (with_reducible assumption) | assumption); obtain ⟨ad515, A515_0, c515_0, e515, hx515_0, hl515_0, hi515_0⟩ := at_L1 (Kd.S_reads' HO_3.out).2.2 x7_1 p515 q515; obtain rfl : ad505 = ad515 := (by injection e515); obtain ⟨ce515, hce515, hMe515, hcc515⟩ := Kd.S_get HO_3.out [] x7_1 p515 (by first | exact q515 | exact of_decide_eq_true (by first | (with_reducible assumption) | assumption) | (have e_ := (Kd.S_reads' HO_3.out).1; omega)); obtain ⟨ve515_0, rfl, ge515_0⟩ := hMe515; have hv515_0 := hcc515 0 _ rfl; rw [Nat.add_zero, show ((Kd.slice 3 (Kd.int .i64))).sz = 1 from rfl, Nat.mul_one] at hv515_0; replace hv515_0 := Option.some.inj (hv515_0.symm.trans hx515_0); rw [hv515_0] at ge515_0; have HL515_0 := Aside0.mk (show Kd.R (Kd.int .i64) 3 _ _ _ _ (rd_L1 t497 x7_1) from ge515_0); clear hv515_0 ge515_0; clear hcc515 hce515; have HR515_0 := Aside0.mk hi515_0; have HC515_0 := Aside0.mk hl515_0; clear hi515_0 hl515_0; replace p515 := eq_true p515; replace q515 := eq_true q515; have p516 : 0 ≤ (0 : Int) := (by omega); have q516 : 0 < ((rd_L1 t497 x7_1).length : Int) := of_decide_eq_true (by first | (with_reducible assumption) | assumption); obtain ⟨ad516, e516, hx516_0⟩ := Kd.at_int (by repeat (first | (with_reducible exact HR515_0.out) | (with_reducible refine Kd.C_alloc ?_ _) | (with_reducible refine Kd.C_drewN ?_ _) | (with_reducible refine Kd.C_drew ?_) | exact HR515_0.out)) 0 p516 q516; cases e516; have qi516 : (0 < (rd_L1 t497 x7_1).length) = True := eq_true (by omega); (try rw [show ((0 : Int)).toNat = 0 from rfl] at hx516_0); (try rw [Addr.add_zero'] at hx516_0); replace p516 := eq_true p516; replace q516 := eq_true q516) | (go_at_call 21; (with_reducible refine (smithylaw19_reaches.calls k2 _ _ l0 (rd (rd_L1 t497 x7_1) 0) (rd (rd_L1 t497 x7_1) x8_2) t517 _ ?side1 ?side2 A40.out).mono ?_); (case side1 => repeat (first | exact (Kd.C_below HR0.out HB.out) | (with_reducible refine Kd.C_alloc ?_ _) | (with_reducible refine Kd.C_drewN ?_ _) | (with_reducible refine Kd.C_drew ?_))); (case side2 => exact HC0.out); rintro e w44 ⟨rfl, hb⟩; have n0_ := Aside0.mk (Kd.S_below (by (with_reducible repeat (first | apply Kd.S_alloc | apply Kd.S_drewN | apply Kd.S_drew)); exact HO_3.out) hb); have n1_ := Aside0.mk (Kd.R_below (by (with_reducible repeat (first | apply Kd.R_alloc | apply Kd.R_drewN | apply Kd.R_drew)); exact HO_5.out) hb); have n2_ := Aside0.mk (Kd.R_below (by (with_reducible repeat (first | apply Kd.R_alloc | apply Kd.R_drewN | apply Kd.R_drew)); exact HL506_0.out) hb); have n3_ := Aside0.mk (Kd.R_below (by (with_reducible repeat (first | apply Kd.R_alloc | apply Kd.R_drewN | apply Kd.R_drew)); exact HL507_0.out) hb); have n4_ := Aside0.mk (Kd.R_below (by (with_reducible repeat (first | apply Kd.R_alloc | apply Kd.R_drewN | apply Kd.R_drew)); exact HL510_0.out) hb); have n5_ := Aside0.mk (Kd.R_below (by (with_reducible repeat (first | apply Kd.R_alloc | apply Kd.R_drewN | apply Kd.R_drew)); exact HL512_0.out) hb); have n6_ := Aside0.mk (Kd.R_below (by (with_reducible repeat (first | apply Kd.R_alloc | apply Kd.R_drewN | apply Kd.R_drew)); exact HL515_0.out) hb); have n7_ := Aside0.mk (Kd.C_below (by repeat (first | (with_reducible exact HR506_0.out) | (with_reducible refine Kd.C_alloc ?_ _) | (with_reducible refine Kd.C_drewN ?_ _) | (with_reducible refine Kd.C_drew ?_) | exact HR506_0.out)) hb); have n8_ := Aside0.mk (Kd.C_below (by repeat (first | (with_reducible exact HR507_0.out) | (with_reducible refine Kd.C_alloc ?_ _) | (with_reducible refine Kd.C_drewN ?_ _) | (with_reducible refine Kd.C_drew ?_) | exact HR507_0.out)) hb); have n9_ := Aside0.mk (Kd.C_below (by repeat (first | (with_reducible exact HR510_0.out) | (with_reducible refine Kd.C_alloc ?_ _) | (with_reducible refine Kd.C_drewN ?_ _) | (with_reducible refine Kd.C_drew ?_) | exact HR510_0.out)) hb); have n10_ := Aside0.mk (Kd.C_below (by repeat (first | (with_reducible exact HR512_0.out) | (with_reducible refine Kd.C_alloc ?_ _) | (with_reducible refine Kd.C_drewN ?_ _) | (with_reducible refine Kd.C_drew ?_) | exact HR512_0.out)) hb); have n11_ := Aside0.mk (Kd.C_below (by repeat (first | (with_reducible exact HR515_0.out) | (with_reducible refine Kd.C_alloc ?_ _) | (with_reducible refine Kd.C_drewN ?_ _) | (with_reducible refine Kd.C_drew ?_) | exact HR515_0.out)) hb); have n12_ := Aside0.mk (below_step (by repeat (first | (with_reducible first | exact HB.out | apply below_alloc | apply pw_below_drewN | apply below_drew1) | exact HB.out)) hb); clear HO_3; clear HO_5; clear HL506_0; clear HL507_0; clear HL510_0; clear HL512_0; clear HL515_0; clear HR506_0; clear HR507_0; clear HR510_0; clear HR512_0; clear HR515_0; clear HB; have HO_3 := n0_; have HO_5 := n1_; have HL506_0 := n2_; have HL507_0 := n3_; have HL510_0 := n4_; have HL512_0 := n5_; have HL515_0 := n6_; have HR506_0 := n7_; have HR507_0 := n8_; have HR510_0 := n9_; have HR512_0 := n10_; have HR515_0 := n11_; have HB := n12_; clear n0_ n1_ n2_ n3_ n4_ n5_ n6_ n7_ n8_ n9_ n10_ n11_ n12_; (try clear hb); (try clear hb2); (try clear hk); (try clear hi))))
                            (try simp only [Act.put, List.setIfInBounds_toArray, List.set_cons_zero, List.set_cons_succ])
                            have H := HF41.out
                            clear HF41
                            by_cases c45 : t517 = true
                            ·
                             subst c45
                             have H1 : (smithylaw19_CallsOrder.l1 k2 l0 t497 (x5_2.set ((rd (rd_L1 t497 x7_1) x8_2) : Int).toNat (wrap64 (x7_1 + 1))) (wrap64 (x6_2 + 1)) x7_1 (wrap64 (x8_2 + 1))) = some r := by rw [if_pos rfl] at H; exact H
                             clear H
                             have H := H1
                             clear H1
                             obtain ⟨y518, hy518⟩ : ∃ y_ : List Int, y_ = (x5_2.set ((rd (rd_L1 t497 x7_1) x8_2) : Int).toNat (wrap64 (x7_1 + 1))) := ⟨_, rfl⟩
                             replace H : (smithylaw19_CallsOrder.l1 k2 l0 t497 y518 (wrap64 (x6_2 + 1)) x7_1 (wrap64 (x8_2 + 1))) = some r := by first | (rw [hy518]; with_reducible exact H) | (have H2_ := (Option.bind_some _ _).symm.trans H; rw [hy518]; with_reducible exact H2_) | (have H2_ := (Option.bind_some _ _).symm.trans H; with_reducible exact H2_) | with_reducible exact H | (rw [hy518]; exact H) | exact H
                             have Ny518 := Aside0.mk hy518
                             clear hy518
                             have H' := Aside0.mk H
                             clear H
                             have p46 : 0 ≤ ((rd (rd_L1 t497 x7_1) x8_2) : Int) := of_decide_eq_true (by first | (with_reducible assumption) | assumption)
                             have q46 : ((rd (rd_L1 t497 x7_1) x8_2) : Int) < ((x5_2.length : Int) : Int) := of_decide_eq_true (by first | (with_reducible assumption) | assumption)
                             obtain ⟨go46, co46, eo46, gb46, gl46, cl46, HG46⟩ := Kd.R_form HO_5.out (by omega)
                             (first | cases eo46 | (injection eo46 with ea_ en_ ec_; (first | subst ea_ | (injection ea_ with ea_; subst ea_)); subst ec_; clear en_))
                             have GB46 := Aside0.mk gb46
                             have GG46 := Aside0.mk HG46
                             clear gb46 gl46 HG46
                             (first | simp only [add_plain] at hx509_0 | skip)
                             obtain ⟨hx46_0, hf46_0⟩ := Kd.R_celln 0 HO_5.out ((rd (rd_L1 t497 x7_1) x8_2) : Int) p46 q46
                             replace p46 := eq_true p46
                             replace q46 := eq_true q46
                             have HP47 := Kd.R_putg HO_5.out ((rd (rd_L1 t497 x7_1) x8_2) : Int) (wrap64 (x7_1 + 1))
                             go_wp2_with (first | ((with_reducible refine gate_store (t := 3) (p := 124) rfl ?_); (try (rw [drewN_self w44]; generalize hq_ : World.drewN w44 _ = w44; have n0_ := Aside0.mk (Kd.S_at hq_ HO_3.out); have n1_ := Aside0.mk (Kd.R_at hq_ HO_5.out); have n2_ := Aside0.mk (Kd.R_at hq_ HL506_0.out); have n3_ := Aside0.mk (Kd.R_at hq_ HL507_0.out); have n4_ := Aside0.mk (Kd.R_at hq_ HL510_0.out); have n5_ := Aside0.mk (Kd.R_at hq_ HL512_0.out); have n6_ := Aside0.mk (Kd.R_at hq_ HL515_0.out); have n7_ := Aside0.mk (below_at hq_ HB.out); clear hq_ HO_3 HO_5 HL506_0 HL507_0 HL510_0 HL512_0 HL515_0 HB; have HO_3 := n0_; have HO_5 := n1_; have HL506_0 := n2_; have HL507_0 := n3_; have HL510_0 := n4_; have HL512_0 := n5_; have HL515_0 := n6_; have HB := n7_; clear n0_ n1_ n2_ n3_ n4_ n5_ n6_ n7_; (try (have HP47 := Kd.R_putg HO_5.out ((rd (rd_L1 t497 x7_1) x8_2) : Int) (wrap64 (x7_1 + 1)))))); refine store_event (t := 3) (p := 124) (v := ?vo_w48) (w1 := (w44.setCell ⟨go46, ((rd (rd_L1 t497 x7_1) x8_2) : Int).toNat, none⟩ (.int .i64 (wrap64 (x7_1 + 1))))) ?hg ?ho ?hn ?hr ?_; (case ho => rfl); (case hg => rfl); (case hn => rfl); (case hr => first | (go_simp; done) | (go_simp; rfl)); intro w48 hw; have hg : w44.grownBy w48 (some go46) := (by rw [hw]; exact HP47.2); have hp_ : Kd.R (Kd.int .i64) 3 w48 w.heap.size (fun _ => True) (.slice (some ⟨go46, 0, none⟩) x5_2.length co42) y518 := (by rw [hw, Ny518.out]; exact HP47.1); clear HP47; have n0_ := Aside0.mk (Kd.S_after (v := (.slice (some ⟨go46, 0, none⟩) x5_2.length co42)) (v1 := (.slice (some ⟨go46, 0, none⟩) x5_2.length co42)) (ok := (fun _ => True)) (by (with_reducible repeat (first | apply Kd.S_alloc | apply Kd.S_drewN | apply Kd.S_drew)); exact Kd.S_mono HO_3.out (fun _ hk => ⟨trivial, hk⟩)) hg (.inl rfl)); have n1_ := Aside0.mk (hp_); have n2_ := Aside0.mk (Kd.R_after (v := (.slice (some ⟨go46, 0, none⟩) x5_2.length co42)) (v1 := (.slice (some ⟨go46, 0, none⟩) x5_2.length co42)) (ok := (fun k_ => some k_ ≠ (.slice (some ad505) t497.length co21 : Value).ownBlock)) (by (with_reducible repeat (first | apply Kd.R_alloc | apply Kd.R_drewN | apply Kd.R_drew)); exact Kd.R_mono HL506_0.out (fun _ hk => ⟨hk.2, hk.1⟩)) hg (.inl rfl)); have n3_ := Aside0.mk (Kd.R_after (v := (.slice (some ⟨go46, 0, none⟩) x5_2.length co42)) (v1 := (.slice (some ⟨go46, 0, none⟩) x5_2.length co42)) (ok := (fun k_ => some k_ ≠ (.slice (some ad505) t497.length co21 : Value).ownBlock)) (by (with_reducible repeat (first | apply Kd.R_alloc | apply Kd.R_drewN | apply Kd.R_drew)); exact Kd.R_mono HL507_0.out (fun _ hk => ⟨hk.2, hk.1⟩)) hg (.inl rfl)); have n4_ := Aside0.mk (Kd.R_after (v := (.slice (some ⟨go46, 0, none⟩) x5_2.length co42)) (v1 := (.slice (some ⟨go46, 0, none⟩) x5_2.length co42)) (ok := (fun k_ => some k_ ≠ (.slice (some ad505) t497.length co21 : Value).ownBlock)) (by (with_reducible repeat (first | apply Kd.R_alloc | apply Kd.R_drewN | apply Kd.R_drew)); exact Kd.R_mono HL510_0.out (fun _ hk => ⟨hk.2, hk.1⟩)) hg (.inl rfl)); have n5_ := Aside0.mk (Kd.R_after (v := (.slice (some ⟨go46, 0, none⟩) x5_2.length co42)) (v1 := (.slice (some ⟨go46, 0, none⟩) x5_2.length co42)) (ok := (fun k_ => some k_ ≠ (.slice (some ad505) t497.length co21 : Value).ownBlock)) (by (with_reducible repeat (first | apply Kd.R_alloc | apply Kd.R_drewN | apply Kd.R_drew)); exact Kd.R_mono HL512_0.out (fun _ hk => ⟨hk.2, hk.1⟩)) hg (.inl rfl)); have n6_ := Aside0.mk (Kd.R_after (v := (.slice (some ⟨go46, 0, none⟩) x5_2.length co42)) (v1 := (.slice (some ⟨go46, 0, none⟩) x5_2.length co42)) (ok := (fun k_ => some k_ ≠ (.slice (some ad505) t497.length co21 : Value).ownBlock)) (by (with_reducible repeat (first | apply Kd.R_alloc | apply Kd.R_drewN | apply Kd.R_drew)); exact Kd.R_mono HL515_0.out (fun _ hk => ⟨hk.2, hk.1⟩)) hg (.inl rfl)); have n7_ := Aside0.mk ((by rw [hw]; exact below_set (HB.out) GB46.out : Below w.heap.size w w48)); clear HO_3; clear HO_5; clear HL506_0; clear HL507_0; clear HL510_0; clear HL512_0; clear HL515_0; clear HB; have HO_3 := n0_; have HO_5 := n1_; have HL506_0 := n2_; have HL507_0 := n3_; have HL510_0 := n4_; have HL512_0 := n5_; have HL515_0 := n6_; have HB := n7_; clear n0_ n1_ n2_ n3_ n4_ n5_ n6_ n7_; clear hg hw hp_))
                             repeat (go_quiet (first | ((with_reducible refine gate_store (t := 3) (p := 124) rfl ?_); (try (rw [drewN_self w44]; generalize hq_ : World.drewN w44 _ = w44; have n0_ := Aside0.mk (Kd.S_at hq_ HO_3.out); have n1_ := Aside0.mk (Kd.R_at hq_ HO_5.out); have n2_ := Aside0.mk (Kd.R_at hq_ HL506_0.out); have n3_ := Aside0.mk (Kd.R_at hq_ HL507_0.out); have n4_ := Aside0.mk (Kd.R_at hq_ HL510_0.out); have n5_ := Aside0.mk (Kd.R_at hq_ HL512_0.out); have n6_ := Aside0.mk (Kd.R_at hq_ HL515_0.out); have n7_ := Aside0.mk (below_at hq_ HB.out); clear hq_ HO_3 HO_5 HL506_0 HL507_0 HL510_0 HL512_0 HL515_0 HB; have HO_3 := n0_; have HO_5 := n1_; have HL506_0 := n2_; have HL507_0 := n3_; have HL510_0 := n4_; have HL512_0 := n5_; have HL515_0 := n6_; have HB := n7_; clear n0_ n1_ n2_ n3_ n4_ n5_ n6_ n7_; (try (have HP47 := Kd.R_putg HO_5.out ((rd (rd_L1 t497 x7_1) x8_2) : Int) (wrap64 (x7_1 + 1)))))); refine store_event (t := 3) (p := 124) (v := ?vo_w48) (w1 := (w44.setCell ⟨go46, ((rd (rd_L1 t497 x7_1) x8_2) : Int).toNat, none⟩ (.int .i64 (wrap64 (x7_1 + 1))))) ?hg ?ho ?hn ?hr ?_; (case ho => rfl); (case hg => rfl); (case hn => rfl); (case hr => first | (go_simp; done) | (go_simp; rfl)); intro w48 hw; have hg : w44.grownBy w48 (some go46) := (by rw [hw]; exact HP47.2); have hp_ : Kd.R (Kd.int .i64) 3 w48 w.heap.size (fun _ => True) (.slice (some ⟨go46, 0, none⟩) x5_2.length co42) y518 := (by rw [hw, Ny518.out]; exact HP47.1); clear HP47; have n0_ := Aside0.mk (Kd.S_after (v := (.slice (some ⟨go46, 0, none⟩) x5_2.length co42)) (v1 := (.slice (some ⟨go46, 0, none⟩) x5_2.length co42)) (ok := (fun _ => True)) (by (with_reducible repeat (first | apply Kd.S_alloc | apply Kd.S_drewN | apply Kd.S_drew)); exact Kd.S_mono HO_3.out (fun _ hk => ⟨trivial, hk⟩)) hg (.inl rfl)); have n1_ := Aside0.mk (hp_); have n2_ := Aside0.mk (Kd.R_after (v := (.slice (some ⟨go46, 0, none⟩) x5_2.length co42)) (v1 := (.slice (some ⟨go46, 0, none⟩) x5_2.length co42)) (ok := (fun k_ => some k_ ≠ (.slice (some ad505) t497.length co21 : Value).ownBlock)) (by (with_reducible repeat (first | apply Kd.R_alloc | apply Kd.R_drewN | apply Kd.R_drew)); exact Kd.R_mono HL506_0.out (fun _ hk => ⟨hk.2, hk.1⟩)) hg (.inl rfl)); have n3_ := Aside0.mk (Kd.R_after (v := (.slice (some ⟨go46, 0, none⟩) x5_2.length co42)) (v1 := (.slice (some ⟨go46, 0, none⟩) x5_2.length co42)) (ok := (fun k_ => some k_ ≠ (.slice (some ad505) t497.length co21 : Value).ownBlock)) (by (with_reducible repeat (first | apply Kd.R_alloc | apply Kd.R_drewN | apply Kd.R_drew)); exact Kd.R_mono HL507_0.out (fun _ hk => ⟨hk.2, hk.1⟩)) hg (.inl rfl)); have n4_ := Aside0.mk (Kd.R_after (v := (.slice (some ⟨go46, 0, none⟩) x5_2.length co42)) (v1 := (.slice (some ⟨go46, 0, none⟩) x5_2.length co42)) (ok := (fun k_ => some k_ ≠ (.slice (some ad505) t497.length co21 : Value).ownBlock)) (by (with_reducible repeat (first | apply Kd.R_alloc | apply Kd.R_drewN | apply Kd.R_drew)); exact Kd.R_mono HL510_0.out (fun _ hk => ⟨hk.2, hk.1⟩)) hg (.inl rfl)); have n5_ := Aside0.mk (Kd.R_after (v := (.slice (some ⟨go46, 0, none⟩) x5_2.length co42)) (v1 := (.slice (some ⟨go46, 0, none⟩) x5_2.length co42)) (ok := (fun k_ => some k_ ≠ (.slice (some ad505) t497.length co21 : Value).ownBlock)) (by (with_reducible repeat (first | apply Kd.R_alloc | apply Kd.R_drewN | apply Kd.R_drew)); exact Kd.R_mono HL512_0.out (fun _ hk => ⟨hk.2, hk.1⟩)) hg (.inl rfl)); have n6_ := Aside0.mk (Kd.R_after (v := (.slice (some ⟨go46, 0, none⟩) x5_2.length co42)) (v1 := (.slice (some ⟨go46, 0, none⟩) x5_2.length co42)) (ok := (fun k_ => some k_ ≠ (.slice (some ad505) t497.length co21 : Value).ownBlock)) (by (with_reducible repeat (first | apply Kd.R_alloc | apply Kd.R_drewN | apply Kd.R_drew)); exact Kd.R_mono HL515_0.out (fun _ hk => ⟨hk.2, hk.1⟩)) hg (.inl rfl)); have n7_ := Aside0.mk ((by rw [hw]; exact below_set (HB.out) GB46.out : Below w.heap.size w w48)); clear HO_3; clear HO_5; clear HL506_0; clear HL507_0; clear HL510_0; clear HL512_0; clear HL515_0; clear HB; have HO_3 := n0_; have HO_5 := n1_; have HL506_0 := n2_; have HL507_0 := n3_; have HL510_0 := n4_; have HL512_0 := n5_; have HL515_0 := n6_; have HB := n7_; clear n0_ n1_ n2_ n3_ n4_ n5_ n6_ n7_; clear hg hw hp_)); try go_wp2_with (first | ((with_reducible refine gate_store (t := 3) (p := 124) rfl ?_); (try (rw [drewN_self w44]; generalize hq_ : World.drewN w44 _ = w44; have n0_ := Aside0.mk (Kd.S_at hq_ HO_3.out); have n1_ := Aside0.mk (Kd.R_at hq_ HO_5.out); have n2_ := Aside0.mk (Kd.R_at hq_ HL506_0.out); have n3_ := Aside0.mk (Kd.R_at hq_ HL507_0.out); have n4_ := Aside0.mk (Kd.R_at hq_ HL510_0.out); have n5_ := Aside0.mk (Kd.R_at hq_ HL512_0.out); have n6_ := Aside0.mk (Kd.R_at hq_ HL515_0.out); have n7_ := Aside0.mk (below_at hq_ HB.out); clear hq_ HO_3 HO_5 HL506_0 HL507_0 HL510_0 HL512_0 HL515_0 HB; have HO_3 := n0_; have HO_5 := n1_; have HL506_0 := n2_; have HL507_0 := n3_; have HL510_0 := n4_; have HL512_0 := n5_; have HL515_0 := n6_; have HB := n7_; clear n0_ n1_ n2_ n3_ n4_ n5_ n6_ n7_; (try (have HP47 := Kd.R_putg HO_5.out ((rd (rd_L1 t497 x7_1) x8_2) : Int) (wrap64 (x7_1 + 1)))))); refine store_event (t := 3) (p := 124) (v := ?vo_w48) (w1 := (w44.setCell ⟨go46, ((rd (rd_L1 t497 x7_1) x8_2) : Int).toNat, none⟩ (.int .i64 (wrap64 (x7_1 + 1))))) ?hg ?ho ?hn ?hr ?_; (case ho => rfl); (case hg => rfl); (case hn => rfl); (case hr => first | (go_simp; done) | (go_simp; rfl)); intro w48 hw; have hg : w44.grownBy w48 (some go46) := (by rw [hw]; exact HP47.2); have hp_ : Kd.R (Kd.int .i64) 3 w48 w.heap.size (fun _ => True) (.slice (some ⟨go46, 0, none⟩) x5_2.length co42) y518 := (by rw [hw, Ny518.out]; exact HP47.1); clear HP47; have n0_ := Aside0.mk (Kd.S_after (v := (.slice (some ⟨go46, 0, none⟩) x5_2.length co42)) (v1 := (.slice (some ⟨go46, 0, none⟩) x5_2.length co42)) (ok := (fun _ => True)) (by (with_reducible repeat (first | apply Kd.S_alloc | apply Kd.S_drewN | apply Kd.S_drew)); exact Kd.S_mono HO_3.out (fun _ hk => ⟨trivial, hk⟩)) hg (.inl rfl)); have n1_ := Aside0.mk (hp_); have n2_ := Aside0.mk (Kd.R_after (v := (.slice (some ⟨go46, 0, none⟩) x5_2.length co42)) (v1 := (.slice (some ⟨go46, 0, none⟩) x5_2.length co42)) (ok := (fun k_ => some k_ ≠ (.slice (some ad505) t497.length co21 : Value).ownBlock)) (by (with_reducible repeat (first | apply Kd.R_alloc | apply Kd.R_drewN | apply Kd.R_drew)); exact Kd.R_mono HL506_0.out (fun _ hk => ⟨hk.2, hk.1⟩)) hg (.inl rfl)); have n3_ := Aside0.mk (Kd.R_after (v := (.slice (some ⟨go46, 0, none⟩) x5_2.length co42)) (v1 := (.slice (some ⟨go46, 0, none⟩) x5_2.length co42)) (ok := (fun k_ => some k_ ≠ (.slice (some ad505) t497.length co21 : Value).ownBlock)) (by (with_reducible repeat (first | apply Kd.R_alloc | apply Kd.R_drewN | apply Kd.R_drew)); exact Kd.R_mono HL507_0.out (fun _ hk => ⟨hk.2, hk.1⟩)) hg (.inl rfl)); have n4_ := Aside0.mk (Kd.R_after (v := (.slice (some ⟨go46, 0, none⟩) x5_2.length co42)) (v1 := (.slice (some ⟨go46, 0, none⟩) x5_2.length co42)) (ok := (fun k_ => some k_ ≠ (.slice (some ad505) t497.length co21 : Value).ownBlock)) (by (with_reducible repeat (first | apply Kd.R_alloc | apply Kd.R_drewN | apply Kd.R_drew)); exact Kd.R_mono HL510_0.out (fun _ hk => ⟨hk.2, hk.1⟩)) hg (.inl rfl)); have n5_ := Aside0.mk (Kd.R_after (v := (.slice (some ⟨go46, 0, none⟩) x5_2.length co42)) (v1 := (.slice (some ⟨go46, 0, none⟩) x5_2.length co42)) (ok := (fun k_ => some k_ ≠ (.slice (some ad505) t497.length co21 : Value).ownBlock)) (by (with_reducible repeat (first | apply Kd.R_alloc | apply Kd.R_drewN | apply Kd.R_drew)); exact Kd.R_mono HL512_0.out (fun _ hk => ⟨hk.2, hk.1⟩)) hg (.inl rfl)); have n6_ := Aside0.mk (Kd.R_after (v := (.slice (some ⟨go46, 0, none⟩) x5_2.length co42)) (v1 := (.slice (some ⟨go46, 0, none⟩) x5_2.length co42)) (ok := (fun k_ => some k_ ≠ (.slice (some ad505) t497.length co21 : Value).ownBlock)) (by (with_reducible repeat (first | apply Kd.R_alloc | apply Kd.R_drewN | apply Kd.R_drew)); exact Kd.R_mono HL515_0.out (fun _ hk => ⟨hk.2, hk.1⟩)) hg (.inl rfl)); have n7_ := Aside0.mk ((by rw [hw]; exact below_set (HB.out) GB46.out : Below w.heap.size w w48)); clear HO_3; clear HO_5; clear HL506_0; clear HL507_0; clear HL510_0; clear HL512_0; clear HL515_0; clear HB; have HO_3 := n0_; have HO_5 := n1_; have HL506_0 := n2_; have HL507_0 := n3_; have HL510_0 := n4_; have HL512_0 := n5_; have HL515_0 := n6_; have HB := n7_; clear n0_ n1_ n2_ n3_ n4_ n5_ n6_ n7_; clear hg hw hp_)))
                             go_roundg k2
                             case measure => have := HK1.out; have := HK2.out; omega
                             case rel => exact ⟨(y518), (wrap64 (x6_2 + 1)), (wrap64 (x8_2 + 1)), (by first | rfl | (simp; done) | (simp [*]; done)), (by first | rfl | (simp; done) | (simp [*]; done)), H', ⟨by have := HK1.out; have := HK2.out; omega⟩, ⟨by (with_reducible repeat (first | apply Kd.S_alloc | apply Kd.S_drewN | apply Kd.S_drew)); exact Kd.S_mono HO_3.out (fun _ hk => hk.2)⟩, ⟨by (with_reducible repeat (first | apply Kd.R_alloc | apply Kd.R_drewN | apply Kd.R_drew)); exact HO_5.out⟩, ⟨by repeat (first | (with_reducible first | exact HB.out | apply below_alloc | apply pw_below_drewN | apply below_drew1) | exact HB.out)⟩⟩
                            ·
                             replace c45 := Bool.eq_false_iff.mpr c45
                             subst c45
                             have H1 : (some false) = some r := by rw [if_neg (show ¬ (false = true) by decide)] at H; exact H
                             clear H
                             have H := H1
                             clear H1
                             obtain rfl := Option.some.inj H
                             go_wp2
                             repeat (go_quiet (fail); try go_wp2)
                             go_ret
                             exact ⟨by first | rfl | (simp <;> rfl) | (simp only [← hji32]; first | rfl | (simp <;> rfl)) | (simp [*] <;> rfl), by repeat (first | (with_reducible first | exact HB.out | apply below_alloc | apply pw_below_drewN | apply below_drew1) | exact HB.out)⟩
                           ·
                            replace c39 := Bool.eq_false_iff.mpr c39
                            subst c39
                            have H1 : (some false) = some r := by rw [if_neg (show ¬ (false = true) by decide)] at H; exact H
                            clear H
                            have H := H1
                            clear H1
                            obtain rfl := Option.some.inj H
                            have p506 : 0 ≤ (x7_1 : Int) := of_decide_eq_true (by first | (with_reducible assumption) | assumption)
                            have q506 : x7_1 < (t497.length : Int) := of_decide_eq_true (by first | (with_reducible assumption) | assumption)
                            obtain ⟨ad506, A506_0, c506_0, e506, hx506_0, hl506_0, hi506_0⟩ := at_L1 (Kd.S_reads' HO_3.out).2.2 x7_1 p506 q506
                            obtain rfl : ad505 = ad506 := (by injection e506)
                            obtain ⟨ce506, hce506, hMe506, hcc506⟩ := Kd.S_get HO_3.out [] x7_1 p506 (by first | exact q506 | exact of_decide_eq_true (by first | (with_reducible assumption) | assumption) | (have e_ := (Kd.S_reads' HO_3.out).1; omega))
                            obtain ⟨ve506_0, rfl, ge506_0⟩ := hMe506
                            have hv506_0 := hcc506 0 _ rfl
                            rw [Nat.add_zero, show ((Kd.slice 3 (Kd.int .i64))).sz = 1 from rfl, Nat.mul_one] at hv506_0
                            replace hv506_0 := Option.some.inj (hv506_0.symm.trans hx506_0)
                            rw [hv506_0] at ge506_0
                            have HL506_0 := Aside0.mk (show Kd.R (Kd.int .i64) 3 _ _ _ _ (rd_L1 t497 x7_1) from ge506_0)
                            clear hv506_0 ge506_0
                            clear hcc506 hce506
                            have HR506_0 := Aside0.mk hi506_0
                            have HC506_0 := Aside0.mk hl506_0
                            clear hi506_0 hl506_0
                            replace p506 := eq_true p506
                            replace q506 := eq_true q506
                            have p507 : 0 ≤ (x7_1 : Int) := of_decide_eq_true (by first | (with_reducible assumption) | assumption)
                            have q507 : x7_1 < (t497.length : Int) := of_decide_eq_true (by first | (with_reducible assumption) | assumption)
                            obtain ⟨ad507, A507_0, c507_0, e507, hx507_0, hl507_0, hi507_0⟩ := at_L1 (Kd.S_reads' HO_3.out).2.2 x7_1 p507 q507
                            obtain rfl : ad505 = ad507 := (by injection e507)
                            obtain ⟨ce507, hce507, hMe507, hcc507⟩ := Kd.S_get HO_3.out [] x7_1 p507 (by first | exact q507 | exact of_decide_eq_true (by first | (with_reducible assumption) | assumption) | (have e_ := (Kd.S_reads' HO_3.out).1; omega))
                            obtain ⟨ve507_0, rfl, ge507_0⟩ := hMe507
                            have hv507_0 := hcc507 0 _ rfl
                            rw [Nat.add_zero, show ((Kd.slice 3 (Kd.int .i64))).sz = 1 from rfl, Nat.mul_one] at hv507_0
                            replace hv507_0 := Option.some.inj (hv507_0.symm.trans hx507_0)
                            rw [hv507_0] at ge507_0
                            have HL507_0 := Aside0.mk (show Kd.R (Kd.int .i64) 3 _ _ _ _ (rd_L1 t497 x7_1) from ge507_0)
                            clear hv507_0 ge507_0
                            clear hcc507 hce507
                            have HR507_0 := Aside0.mk hi507_0
                            have HC507_0 := Aside0.mk hl507_0
                            clear hi507_0 hl507_0
                            replace p507 := eq_true p507
                            replace q507 := eq_true q507
                            have ea_ := Option.some.inj (hx506_0.symm.trans hx507_0)
                            injection ea_ with ea_ en_ ec_
                            subst ea_
                            subst ec_
                            clear en_
                            have p508 : 0 ≤ (x8_2 : Int) := of_decide_eq_true (by first | (with_reducible assumption) | assumption)
                            have q508 : x8_2 < ((rd_L1 t497 x7_1).length : Int) := of_decide_eq_true (by first | (with_reducible assumption) | assumption)
                            obtain ⟨ad508, e508, hx508_0⟩ := Kd.at_int (by repeat (first | (with_reducible exact HR507_0.out) | (with_reducible refine Kd.C_alloc ?_ _) | (with_reducible refine Kd.C_drewN ?_ _) | (with_reducible refine Kd.C_drew ?_) | exact HR507_0.out)) x8_2 p508 q508
                            cases e508
                            replace p508 := eq_true p508
                            replace q508 := eq_true q508
                            obtain ⟨Ao49, co49, eo49⟩ := Kd.R_slice HO_5.out
                            subst eo49
                            have p509 : 0 ≤ ((rd (rd_L1 t497 x7_1) x8_2) : Int) := of_decide_eq_true (by first | (with_reducible assumption) | assumption)
                            have q509 : (rd (rd_L1 t497 x7_1) x8_2) < (x5_2.length : Int) := of_decide_eq_true (by first | (with_reducible assumption) | assumption)
                            obtain ⟨ad509, e509, hx509_0⟩ := Kd.at_int (Kd.R_reads' HO_5.out).2.2 (rd (rd_L1 t497 x7_1) x8_2) p509 q509
                            cases e509
                            replace p509 := eq_true p509
                            replace q509 := eq_true q509
                            have p510 : 0 ≤ (x7_1 : Int) := of_decide_eq_true (by first | (with_reducible assumption) | assumption)
                            have q510 : x7_1 < (t497.length : Int) := of_decide_eq_true (by first | (with_reducible assumption) | assumption)
                            obtain ⟨ad510, A510_0, c510_0, e510, hx510_0, hl510_0, hi510_0⟩ := at_L1 (Kd.S_reads' HO_3.out).2.2 x7_1 p510 q510
                            obtain rfl : ad505 = ad510 := (by injection e510)
                            obtain ⟨ce510, hce510, hMe510, hcc510⟩ := Kd.S_get HO_3.out [] x7_1 p510 (by first | exact q510 | exact of_decide_eq_true (by first | (with_reducible assumption) | assumption) | (have e_ := (Kd.S_reads' HO_3.out).1; omega))
                            obtain ⟨ve510_0, rfl, ge510_0⟩ := hMe510
                            have hv510_0 := hcc510 0 _ rfl
                            rw [Nat.add_zero, show ((Kd.slice 3 (Kd.int .i64))).sz = 1 from rfl, Nat.mul_one] at hv510_0
                            replace hv510_0 := Option.some.inj (hv510_0.symm.trans hx510_0)
                            rw [hv510_0] at ge510_0
                            have HL510_0 := Aside0.mk (show Kd.R (Kd.int .i64) 3 _ _ _ _ (rd_L1 t497 x7_1) from ge510_0)
                            clear hv510_0 ge510_0
                            clear hcc510 hce510
                            have HR510_0 := Aside0.mk hi510_0
                            have HC510_0 := Aside0.mk hl510_0
                            clear hi510_0 hl510_0
                            replace p510 := eq_true p510
                            replace q510 := eq_true q510
                            have ea_ := Option.some.inj (hx506_0.symm.trans hx510_0)
                            injection ea_ with ea_ en_ ec_
                            subst ea_
                            subst ec_
                            clear en_
                            have p511 : 0 ≤ ((ji32) : Int) := of_decide_eq_true (by first | (with_reducible assumption) | assumption)
                            have q511 : (ji32) < ((rd_L1 t497 x7_1).length : Int) := of_decide_eq_true (by first | (with_reducible assumption) | assumption)
                            obtain ⟨ad511, e511, hx511_0⟩ := Kd.at_int (by repeat (first | (with_reducible exact HR510_0.out) | (with_reducible refine Kd.C_alloc ?_ _) | (with_reducible refine Kd.C_drewN ?_ _) | (with_reducible refine Kd.C_drew ?_) | exact HR510_0.out)) (ji32) p511 q511
                            cases e511
                            replace p511 := eq_true p511
                            replace q511 := eq_true q511
                            have p512 : 0 ≤ (x7_1 : Int) := of_decide_eq_true (by first | (with_reducible assumption) | assumption)
                            have q512 : x7_1 < (t497.length : Int) := of_decide_eq_true (by first | (with_reducible assumption) | assumption)
                            obtain ⟨ad512, A512_0, c512_0, e512, hx512_0, hl512_0, hi512_0⟩ := at_L1 (Kd.S_reads' HO_3.out).2.2 x7_1 p512 q512
                            obtain rfl : ad505 = ad512 := (by injection e512)
                            obtain ⟨ce512, hce512, hMe512, hcc512⟩ := Kd.S_get HO_3.out [] x7_1 p512 (by first | exact q512 | exact of_decide_eq_true (by first | (with_reducible assumption) | assumption) | (have e_ := (Kd.S_reads' HO_3.out).1; omega))
                            obtain ⟨ve512_0, rfl, ge512_0⟩ := hMe512
                            have hv512_0 := hcc512 0 _ rfl
                            rw [Nat.add_zero, show ((Kd.slice 3 (Kd.int .i64))).sz = 1 from rfl, Nat.mul_one] at hv512_0
                            replace hv512_0 := Option.some.inj (hv512_0.symm.trans hx512_0)
                            rw [hv512_0] at ge512_0
                            have HL512_0 := Aside0.mk (show Kd.R (Kd.int .i64) 3 _ _ _ _ (rd_L1 t497 x7_1) from ge512_0)
                            clear hv512_0 ge512_0
                            clear hcc512 hce512
                            have HR512_0 := Aside0.mk hi512_0
                            have HC512_0 := Aside0.mk hl512_0
                            clear hi512_0 hl512_0
                            replace p512 := eq_true p512
                            replace q512 := eq_true q512
                            have ea_ := Option.some.inj (hx506_0.symm.trans hx512_0)
                            injection ea_ with ea_ en_ ec_
                            subst ea_
                            subst ec_
                            clear en_
                            have p513 : 0 ≤ (0 : Int) := (by omega)
                            have q513 : 0 < ((rd_L1 t497 x7_1).length : Int) := of_decide_eq_true (by first | (with_reducible assumption) | assumption)
                            obtain ⟨ad513, e513, hx513_0⟩ := Kd.at_int (by repeat (first | (with_reducible exact HR512_0.out) | (with_reducible refine Kd.C_alloc ?_ _) | (with_reducible refine Kd.C_drewN ?_ _) | (with_reducible refine Kd.C_drew ?_) | exact HR512_0.out)) 0 p513 q513
                            cases e513
                            have qi513 : (0 < (rd_L1 t497 x7_1).length) = True := eq_true (by omega)
                            (try rw [show ((0 : Int)).toNat = 0 from rfl] at hx513_0)
                            (try rw [Addr.add_zero'] at hx513_0)
                            replace p513 := eq_true p513
                            replace q513 := eq_true q513
                            go_wp2_with (first | (go_at_call 21; (with_reducible refine (smithylaw19_reaches.calls k2 _ _ l0 (rd (rd_L1 t497 x7_1) x8_2) (rd (rd_L1 t497 x7_1) 0) false _ ?side1 ?side2 A38.out).mono ?_); (case side1 => repeat (first | exact (Kd.C_below HR0.out HB.out) | (with_reducible refine Kd.C_alloc ?_ _) | (with_reducible refine Kd.C_drewN ?_ _) | (with_reducible refine Kd.C_drew ?_))); (case side2 => exact HC0.out); rintro e w50 ⟨rfl, hb⟩; have n0_ := Aside0.mk (Kd.S_below (by (with_reducible repeat (first | apply Kd.S_alloc | apply Kd.S_drewN | apply Kd.S_drew)); exact HO_3.out) hb); have n1_ := Aside0.mk (Kd.R_below (by (with_reducible repeat (first | apply Kd.R_alloc | apply Kd.R_drewN | apply Kd.R_drew)); exact HO_5.out) hb); have n2_ := Aside0.mk (Kd.R_below (by (with_reducible repeat (first | apply Kd.R_alloc | apply Kd.R_drewN | apply Kd.R_drew)); exact HL506_0.out) hb); have n3_ := Aside0.mk (Kd.R_below (by (with_reducible repeat (first | apply Kd.R_alloc | apply Kd.R_drewN | apply Kd.R_drew)); exact HL507_0.out) hb); have n4_ := Aside0.mk (Kd.R_below (by (with_reducible repeat (first | apply Kd.R_alloc | apply Kd.R_drewN | apply Kd.R_drew)); exact HL510_0.out) hb); have n5_ := Aside0.mk (Kd.R_below (by (with_reducible repeat (first | apply Kd.R_alloc | apply Kd.R_drewN | apply Kd.R_drew)); exact HL512_0.out) hb); have n6_ := Aside0.mk (Kd.C_below (by repeat (first | (with_reducible exact HR506_0.out) | (with_reducible refine Kd.C_alloc ?_ _) | (with_reducible refine Kd.C_drewN ?_ _) | (with_reducible refine Kd.C_drew ?_) | exact HR506_0.out)) hb); have n7_ := Aside0.mk (Kd.C_below (by repeat (first | (with_reducible exact HR507_0.out) | (with_reducible refine Kd.C_alloc ?_ _) | (with_reducible refine Kd.C_drewN ?_ _) | (with_reducible refine Kd.C_drew ?_) | exact HR507_0.out)) hb); have n8_ := Aside0.mk (Kd.C_below (by repeat (first | (with_reducible exact HR510_0.out) | (with_reducible refine Kd.C_alloc ?_ _) | (with_reducible refine Kd.C_drewN ?_ _) | (with_reducible refine Kd.C_drew ?_) | exact HR510_0.out)) hb); have n9_ := Aside0.mk (Kd.C_below (by repeat (first | (with_reducible exact HR512_0.out) | (with_reducible refine Kd.C_alloc ?_ _) | (with_reducible refine Kd.C_drewN ?_ _) | (with_reducible refine Kd.C_drew ?_) | exact HR512_0.out)) hb); have n10_ := Aside0.mk (below_step (by repeat (first | (with_reducible first | exact HB.out | apply below_alloc | apply pw_below_drewN | apply below_drew1) | exact HB.out)) hb); clear HO_3; clear HO_5; clear HL506_0; clear HL507_0; clear HL510_0; clear HL512_0; clear HR506_0; clear HR507_0; clear HR510_0; clear HR512_0; clear HB; have HO_3 := n0_; have HO_5 := n1_; have HL506_0 := n2_; have HL507_0 := n3_; have HL510_0 := n4_; have HL512_0 := n5_; have HR506_0 := n6_; have HR507_0 := n7_; have HR510_0 := n8_; have HR512_0 := n9_; have HB := n10_; clear n0_ n1_ n2_ n3_ n4_ n5_ n6_ n7_ n8_ n9_ n10_; (try clear hb); (try clear hb2); (try clear hk); (try clear hi)))
                            repeat (go_quiet (first | (go_at_call 21; (with_reducible refine (smithylaw19_reaches.calls k2 _ _ l0 (rd (rd_L1 t497 x7_1) x8_2) (rd (rd_L1 t497 x7_1) 0) false _ ?side1 ?side2 A38.out).mono ?_); (case side1 => repeat (first | exact (Kd.C_below HR0.out HB.out) | (with_reducible refine Kd.C_alloc ?_ _) | (with_reducible refine Kd.C_drewN ?_ _) | (with_reducible refine Kd.C_drew ?_))); (case side2 => exact HC0.out); rintro e w50 ⟨rfl, hb⟩; have n0_ := Aside0.mk (Kd.S_below (by (with_reducible repeat (first | apply Kd.S_alloc | apply Kd.S_drewN | apply Kd.S_drew)); exact HO_3.out) hb); have n1_ := Aside0.mk (Kd.R_below (by (with_reducible repeat (first | apply Kd.R_alloc | apply Kd.R_drewN | apply Kd.R_drew)); exact HO_5.out) hb); have n2_ := Aside0.mk (Kd.R_below (by (with_reducible repeat (first | apply Kd.R_alloc | apply Kd.R_drewN | apply Kd.R_drew)); exact HL506_0.out) hb); have n3_ := Aside0.mk (Kd.R_below (by (with_reducible repeat (first | apply Kd.R_alloc | apply Kd.R_drewN | apply Kd.R_drew)); exact HL507_0.out) hb); have n4_ := Aside0.mk (Kd.R_below (by (with_reducible repeat (first | apply Kd.R_alloc | apply Kd.R_drewN | apply Kd.R_drew)); exact HL510_0.out) hb); have n5_ := Aside0.mk (Kd.R_below (by (with_reducible repeat (first | apply Kd.R_alloc | apply Kd.R_drewN | apply Kd.R_drew)); exact HL512_0.out) hb); have n6_ := Aside0.mk (Kd.C_below (by repeat (first | (with_reducible exact HR506_0.out) | (with_reducible refine Kd.C_alloc ?_ _) | (with_reducible refine Kd.C_drewN ?_ _) | (with_reducible refine Kd.C_drew ?_) | exact HR506_0.out)) hb); have n7_ := Aside0.mk (Kd.C_below (by repeat (first | (with_reducible exact HR507_0.out) | (with_reducible refine Kd.C_alloc ?_ _) | (with_reducible refine Kd.C_drewN ?_ _) | (with_reducible refine Kd.C_drew ?_) | exact HR507_0.out)) hb); have n8_ := Aside0.mk (Kd.C_below (by repeat (first | (with_reducible exact HR510_0.out) | (with_reducible refine Kd.C_alloc ?_ _) | (with_reducible refine Kd.C_drewN ?_ _) | (with_reducible refine Kd.C_drew ?_) | exact HR510_0.out)) hb); have n9_ := Aside0.mk (Kd.C_below (by repeat (first | (with_reducible exact HR512_0.out) | (with_reducible refine Kd.C_alloc ?_ _) | (with_reducible refine Kd.C_drewN ?_ _) | (with_reducible refine Kd.C_drew ?_) | exact HR512_0.out)) hb); have n10_ := Aside0.mk (below_step (by repeat (first | (with_reducible first | exact HB.out | apply below_alloc | apply pw_below_drewN | apply below_drew1) | exact HB.out)) hb); clear HO_3; clear HO_5; clear HL506_0; clear HL507_0; clear HL510_0; clear HL512_0; clear HR506_0; clear HR507_0; clear HR510_0; clear HR512_0; clear HB; have HO_3 := n0_; have HO_5 := n1_; have HL506_0 := n2_; have HL507_0 := n3_; have HL510_0 := n4_; have HL512_0 := n5_; have HR506_0 := n6_; have HR507_0 := n7_; have HR510_0 := n8_; have HR512_0 := n9_; have HB := n10_; clear n0_ n1_ n2_ n3_ n4_ n5_ n6_ n7_ n8_ n9_ n10_; (try clear hb); (try clear hb2); (try clear hk); (try clear hi))); try go_wp2_with (first | (go_at_call 21; (with_reducible refine (smithylaw19_reaches.calls k2 _ _ l0 (rd (rd_L1 t497 x7_1) x8_2) (rd (rd_L1 t497 x7_1) 0) false _ ?side1 ?side2 A38.out).mono ?_); (case side1 => repeat (first | exact (Kd.C_below HR0.out HB.out) | (with_reducible refine Kd.C_alloc ?_ _) | (with_reducible refine Kd.C_drewN ?_ _) | (with_reducible refine Kd.C_drew ?_))); (case side2 => exact HC0.out); rintro e w50 ⟨rfl, hb⟩; have n0_ := Aside0.mk (Kd.S_below (by (with_reducible repeat (first | apply Kd.S_alloc | apply Kd.S_drewN | apply Kd.S_drew)); exact HO_3.out) hb); have n1_ := Aside0.mk (Kd.R_below (by (with_reducible repeat (first | apply Kd.R_alloc | apply Kd.R_drewN | apply Kd.R_drew)); exact HO_5.out) hb); have n2_ := Aside0.mk (Kd.R_below (by (with_reducible repeat (first | apply Kd.R_alloc | apply Kd.R_drewN | apply Kd.R_drew)); exact HL506_0.out) hb); have n3_ := Aside0.mk (Kd.R_below (by (with_reducible repeat (first | apply Kd.R_alloc | apply Kd.R_drewN | apply Kd.R_drew)); exact HL507_0.out) hb); have n4_ := Aside0.mk (Kd.R_below (by (with_reducible repeat (first | apply Kd.R_alloc | apply Kd.R_drewN | apply Kd.R_drew)); exact HL510_0.out) hb); have n5_ := Aside0.mk (Kd.R_below (by (with_reducible repeat (first | apply Kd.R_alloc | apply Kd.R_drewN | apply Kd.R_drew)); exact HL512_0.out) hb); have n6_ := Aside0.mk (Kd.C_below (by repeat (first | (with_reducible exact HR506_0.out) | (with_reducible refine Kd.C_alloc ?_ _) | (with_reducible refine Kd.C_drewN ?_ _) | (with_reducible refine Kd.C_drew ?_) | exact HR506_0.out)) hb); have n7_ := Aside0.mk (Kd.C_below (by repeat (first | (with_reducible exact HR507_0.out) | (with_reducible refine Kd.C_alloc ?_ _) | (with_reducible refine Kd.C_drewN ?_ _) | (with_reducible refine Kd.C_drew ?_) | exact HR507_0.out)) hb); have n8_ := Aside0.mk (Kd.C_below (by repeat (first | (with_reducible exact HR510_0.out) | (with_reducible refine Kd.C_alloc ?_ _) | (with_reducible refine Kd.C_drewN ?_ _) | (with_reducible refine Kd.C_drew ?_) | exact HR510_0.out)) hb); have n9_ := Aside0.mk (Kd.C_below (by repeat (first | (with_reducible exact HR512_0.out) | (with_reducible refine Kd.C_alloc ?_ _) | (with_reducible refine Kd.C_drewN ?_ _) | (with_reducible refine Kd.C_drew ?_) | exact HR512_0.out)) hb); have n10_ := Aside0.mk (below_step (by repeat (first | (with_reducible first | exact HB.out | apply below_alloc | apply pw_below_drewN | apply below_drew1) | exact HB.out)) hb); clear HO_3; clear HO_5; clear HL506_0; clear HL507_0; clear HL510_0; clear HL512_0; clear HR506_0; clear HR507_0; clear HR510_0; clear HR512_0; clear HB; have HO_3 := n0_; have HO_5 := n1_; have HL506_0 := n2_; have HL507_0 := n3_; have HL510_0 := n4_; have HL512_0 := n5_; have HR506_0 := n6_; have HR507_0 := n7_; have HR510_0 := n8_; have HR512_0 := n9_; have HB := n10_; clear n0_ n1_ n2_ n3_ n4_ n5_ n6_ n7_ n8_ n9_ n10_; (try clear hb); (try clear hb2); (try clear hk); (try clear hi))))
                            go_ret
                            exact ⟨by first | rfl | (simp <;> rfl) | (simp only [← hji32]; first | rfl | (simp <;> rfl)) | (simp [*] <;> rfl), by repeat (first | (with_reducible first | exact HB.out | apply below_alloc | apply pw_below_drewN | apply below_drew1) | exact HB.out)⟩
                          ·
                           rw [if_neg c37] at H
                           exact absurd H (by simp)
                        ·
                         rw [if_neg c34] at H
                         exact absurd H (by simp)
                       ·
                        rw [if_neg c33] at H
                        exact absurd H (by simp)
                      ·
                       rw [if_neg c31] at H
                       have c31b0 : decide (0 < x8_2) = false := decide_eq_false c31
                       clear c31
                       obtain ⟨y519, hy519⟩ : ∃ y_ : List Int, y_ = (x5_2.set ((rd (rd_L1 t497 x7_1) x8_2) : Int).toNat (wrap64 (x7_1 + 1))) := ⟨_, rfl⟩
                       replace H : (smithylaw19_CallsOrder.l1 k2 l0 t497 y519 (wrap64 (x6_2 + 1)) x7_1 (wrap64 (x8_2 + 1))) = some r := by first | (rw [hy519]; with_reducible exact H) | (have H2_ := (Option.bind_some _ _).symm.trans H; rw [hy519]; with_reducible exact H2_) | (have H2_ := (Option.bind_some _ _).symm.trans H; with_reducible exact H2_) | with_reducible exact H | (rw [hy519]; exact H) | exact H
                       have Ny519 := Aside0.mk hy519
                       clear hy519
                       have H' := Aside0.mk H
                       clear H
                       have p506 : 0 ≤ (x7_1 : Int) := of_decide_eq_true (by first | (with_reducible assumption) | assumption)
                       have q506 : x7_1 < (t497.length : Int) := of_decide_eq_true (by first | (with_reducible assumption) | assumption)
                       obtain ⟨ad506, A506_0, c506_0, e506, hx506_0, hl506_0, hi506_0⟩ := at_L1 (Kd.S_reads' HO_3.out).2.2 x7_1 p506 q506
                       obtain rfl : ad505 = ad506 := (by injection e506)
                       obtain ⟨ce506, hce506, hMe506, hcc506⟩ := Kd.S_get HO_3.out [] x7_1 p506 (by first | exact q506 | exact of_decide_eq_true (by first | (with_reducible assumption) | assumption) | (have e_ := (Kd.S_reads' HO_3.out).1; omega))
                       obtain ⟨ve506_0, rfl, ge506_0⟩ := hMe506
                       have hv506_0 := hcc506 0 _ rfl
                       rw [Nat.add_zero, show ((Kd.slice 3 (Kd.int .i64))).sz = 1 from rfl, Nat.mul_one] at hv506_0
                       replace hv506_0 := Option.some.inj (hv506_0.symm.trans hx506_0)
                       rw [hv506_0] at ge506_0
                       have HL506_0 := Aside0.mk (show Kd.R (Kd.int .i64) 3 _ _ _ _ (rd_L1 t497 x7_1) from ge506_0)
                       clear hv506_0 ge506_0
                       clear hcc506 hce506
                       have HR506_0 := Aside0.mk hi506_0
                       have HC506_0 := Aside0.mk hl506_0
                       clear hi506_0 hl506_0
                       replace p506 := eq_true p506
                       replace q506 := eq_true q506
                       have p507 : 0 ≤ (x7_1 : Int) := of_decide_eq_true (by first | (with_reducible assumption) | assumption)
                       have q507 : x7_1 < (t497.length : Int) := of_decide_eq_true (by first | (with_reducible assumption) | assumption)
                       obtain ⟨ad507, A507_0, c507_0, e507, hx507_0, hl507_0, hi507_0⟩ := at_L1 (Kd.S_reads' HO_3.out).2.2 x7_1 p507 q507
                       obtain rfl : ad505 = ad507 := (by injection e507)
                       obtain ⟨ce507, hce507, hMe507, hcc507⟩ := Kd.S_get HO_3.out [] x7_1 p507 (by first | exact q507 | exact of_decide_eq_true (by first | (with_reducible assumption) | assumption) | (have e_ := (Kd.S_reads' HO_3.out).1; omega))
                       obtain ⟨ve507_0, rfl, ge507_0⟩ := hMe507
                       have hv507_0 := hcc507 0 _ rfl
                       rw [Nat.add_zero, show ((Kd.slice 3 (Kd.int .i64))).sz = 1 from rfl, Nat.mul_one] at hv507_0
                       replace hv507_0 := Option.some.inj (hv507_0.symm.trans hx507_0)
                       rw [hv507_0] at ge507_0
                       have HL507_0 := Aside0.mk (show Kd.R (Kd.int .i64) 3 _ _ _ _ (rd_L1 t497 x7_1) from ge507_0)
                       clear hv507_0 ge507_0
                       clear hcc507 hce507
                       have HR507_0 := Aside0.mk hi507_0
                       have HC507_0 := Aside0.mk hl507_0
                       clear hi507_0 hl507_0
                       replace p507 := eq_true p507
                       replace q507 := eq_true q507
                       have ea_ := Option.some.inj (hx506_0.symm.trans hx507_0)
                       injection ea_ with ea_ en_ ec_
                       subst ea_
                       subst ec_
                       clear en_
                       have p508 : 0 ≤ (x8_2 : Int) := of_decide_eq_true (by first | (with_reducible assumption) | assumption)
                       have q508 : x8_2 < ((rd_L1 t497 x7_1).length : Int) := of_decide_eq_true (by first | (with_reducible assumption) | assumption)
                       obtain ⟨ad508, e508, hx508_0⟩ := Kd.at_int (by repeat (first | (with_reducible exact HR507_0.out) | (with_reducible refine Kd.C_alloc ?_ _) | (with_reducible refine Kd.C_drewN ?_ _) | (with_reducible refine Kd.C_drew ?_) | exact HR507_0.out)) x8_2 p508 q508
                       cases e508
                       replace p508 := eq_true p508
                       replace q508 := eq_true q508
                       obtain ⟨Ao52, co52, eo52⟩ := Kd.R_slice HO_5.out
                       subst eo52
                       have p509 : 0 ≤ ((rd (rd_L1 t497 x7_1) x8_2) : Int) := of_decide_eq_true (by first | (with_reducible assumption) | assumption)
                       have q509 : (rd (rd_L1 t497 x7_1) x8_2) < (x5_2.length : Int) := of_decide_eq_true (by first | (with_reducible assumption) | assumption)
                       obtain ⟨ad509, e509, hx509_0⟩ := Kd.at_int (Kd.R_reads' HO_5.out).2.2 (rd (rd_L1 t497 x7_1) x8_2) p509 q509
                       cases e509
                       replace p509 := eq_true p509
                       replace q509 := eq_true q509
                       have p51 : 0 ≤ ((rd (rd_L1 t497 x7_1) x8_2) : Int) := of_decide_eq_true (by first | (with_reducible assumption) | assumption)
                       have q51 : ((rd (rd_L1 t497 x7_1) x8_2) : Int) < ((x5_2.length : Int) : Int) := of_decide_eq_true (by first | (with_reducible assumption) | assumption)
                       obtain ⟨go51, co51, eo51, gb51, gl51, cl51, HG51⟩ := Kd.R_form HO_5.out (by omega)
                       (first | cases eo51 | (injection eo51 with ea_ en_ ec_; (first | subst ea_ | (injection ea_ with ea_; subst ea_)); subst ec_; clear en_))
                       have GB51 := Aside0.mk gb51
                       have GG51 := Aside0.mk HG51
                       clear gb51 gl51 HG51
                       (first | simp only [add_plain] at hx509_0 | skip)
                       obtain ⟨hx51_0, hf51_0⟩ := Kd.R_celln 0 HO_5.out ((rd (rd_L1 t497 x7_1) x8_2) : Int) p51 q51
                       replace p51 := eq_true p51
                       replace q51 := eq_true q51
                       have HP53 := Kd.R_putg HO_5.out ((rd (rd_L1 t497 x7_1) x8_2) : Int) (wrap64 (x7_1 + 1))
                       go_wp2_with (first | ((with_reducible refine gate_store (t := 3) (p := 124) rfl ?_); (try (rw [drewN_self wr]; generalize hq_ : World.drewN wr _ = wr; have n0_ := Aside0.mk (Kd.S_at hq_ HO_3.out); have n1_ := Aside0.mk (Kd.R_at hq_ HO_5.out); have n2_ := Aside0.mk (Kd.R_at hq_ HL506_0.out); have n3_ := Aside0.mk (Kd.R_at hq_ HL507_0.out); have n4_ := Aside0.mk (below_at hq_ HB.out); clear hq_ HO_3 HO_5 HL506_0 HL507_0 HB; have HO_3 := n0_; have HO_5 := n1_; have HL506_0 := n2_; have HL507_0 := n3_; have HB := n4_; clear n0_ n1_ n2_ n3_ n4_; (try (have HP53 := Kd.R_putg HO_5.out ((rd (rd_L1 t497 x7_1) x8_2) : Int) (wrap64 (x7_1 + 1)))))); refine store_event (t := 3) (p := 124) (v := ?vo_w54) (w1 := (wr.setCell ⟨go51, ((rd (rd_L1 t497 x7_1) x8_2) : Int).toNat, none⟩ (.int .i64 (wrap64 (x7_1 + 1))))) ?hg ?ho ?hn ?hr ?_; (case ho => rfl); (case hg => rfl); (case hn => rfl); (case hr => first | (go_simp; done) | (go_simp; rfl)); intro w54 hw; have hg : wr.grownBy w54 (some go51) := (by rw [hw]; exact HP53.2); have hp_ : Kd.R (Kd.int .i64) 3 w54 w.heap.size (fun _ => True) (.slice (some ⟨go51, 0, none⟩) x5_2.length co52) y519 := (by rw [hw, Ny519.out]; exact HP53.1); clear HP53; have n0_ := Aside0.mk (Kd.S_after (v := (.slice (some ⟨go51, 0, none⟩) x5_2.length co52)) (v1 := (.slice (some ⟨go51, 0, none⟩) x5_2.length co52)) (ok := (fun _ => True)) (by (with_reducible repeat (first | apply Kd.S_alloc | apply Kd.S_drewN | apply Kd.S_drew)); exact Kd.S_mono HO_3.out (fun _ hk => ⟨trivial, hk⟩)) hg (.inl rfl)); have n1_ := Aside0.mk (hp_); have n2_ := Aside0.mk (Kd.R_after (v := (.slice (some ⟨go51, 0, none⟩) x5_2.length co52)) (v1 := (.slice (some ⟨go51, 0, none⟩) x5_2.length co52)) (ok := (fun k_ => some k_ ≠ (.slice (some ad505) t497.length co21 : Value).ownBlock)) (by (with_reducible repeat (first | apply Kd.R_alloc | apply Kd.R_drewN | apply Kd.R_drew)); exact Kd.R_mono HL506_0.out (fun _ hk => ⟨hk.2, hk.1⟩)) hg (.inl rfl)); have n3_ := Aside0.mk (Kd.R_after (v := (.slice (some ⟨go51, 0, none⟩) x5_2.length co52)) (v1 := (.slice (some ⟨go51, 0, none⟩) x5_2.length co52)) (ok := (fun k_ => some k_ ≠ (.slice (some ad505) t497.length co21 : Value).ownBlock)) (by (with_reducible repeat (first | apply Kd.R_alloc | apply Kd.R_drewN | apply Kd.R_drew)); exact Kd.R_mono HL507_0.out (fun _ hk => ⟨hk.2, hk.1⟩)) hg (.inl rfl)); have n4_ := Aside0.mk ((by rw [hw]; exact below_set (HB.out) GB51.out : Below w.heap.size w w54)); clear HO_3; clear HO_5; clear HL506_0; clear HL507_0; clear HB; have HO_3 := n0_; have HO_5 := n1_; have HL506_0 := n2_; have HL507_0 := n3_; have HB := n4_; clear n0_ n1_ n2_ n3_ n4_; clear hg hw hp_))
                       repeat (go_quiet (first | ((with_reducible refine gate_store (t := 3) (p := 124) rfl ?_); (try (rw [drewN_self wr]; generalize hq_ : World.drewN wr _ = wr; have n0_ := Aside0.mk (Kd.S_at hq_ HO_3.out); have n1_ := Aside0.mk (Kd.R_at hq_ HO_5.out); have n2_ := Aside0.mk (Kd.R_at hq_ HL506_0.out); have n3_ := Aside0.mk (Kd.R_at hq_ HL507_0.out); have n4_ := Aside0.mk (below_at hq_ HB.out); clear hq_ HO_3 HO_5 HL506_0 HL507_0 HB; have HO_3 := n0_; have HO_5 := n1_; have HL506_0 := n2_; have HL507_0 := n3_; have HB := n4_; clear n0_ n1_ n2_ n3_ n4_; (try (have HP53 := Kd.R_putg HO_5.out ((rd (rd_L1 t497 x7_1) x8_2) : Int) (wrap64 (x7_1 + 1)))))); refine store_event (t := 3) (p := 124) (v := ?vo_w54) (w1 := (wr.setCell ⟨go51, ((rd (rd_L1 t497 x7_1) x8_2) : Int).toNat, none⟩ (.int .i64 (wrap64 (x7_1 + 1))))) ?hg ?ho ?hn ?hr ?_; (case ho => rfl); (case hg => rfl); (case hn => rfl); (case hr => first | (go_simp; done) | (go_simp; rfl)); intro w54 hw; have hg : wr.grownBy w54 (some go51) := (by rw [hw]; exact HP53.2); have hp_ : Kd.R (Kd.int .i64) 3 w54 w.heap.size (fun _ => True) (.slice (some ⟨go51, 0, none⟩) x5_2.length co52) y519 := (by rw [hw, Ny519.out]; exact HP53.1); clear HP53; have n0_ := Aside0.mk (Kd.S_after (v := (.slice (some ⟨go51, 0, none⟩) x5_2.length co52)) (v1 := (.slice (some ⟨go51, 0, none⟩) x5_2.length co52)) (ok := (fun _ => True)) (by (with_reducible repeat (first | apply Kd.S_alloc | apply Kd.S_drewN | apply Kd.S_drew)); exact Kd.S_mono HO_3.out (fun _ hk => ⟨trivial, hk⟩)) hg (.inl rfl)); have n1_ := Aside0.mk (hp_); have n2_ := Aside0.mk (Kd.R_after (v := (.slice (some ⟨go51, 0, none⟩) x5_2.length co52)) (v1 := (.slice (some ⟨go51, 0, none⟩) x5_2.length co52)) (ok := (fun k_ => some k_ ≠ (.slice (some ad505) t497.length co21 : Value).ownBlock)) (by (with_reducible repeat (first | apply Kd.R_alloc | apply Kd.R_drewN | apply Kd.R_drew)); exact Kd.R_mono HL506_0.out (fun _ hk => ⟨hk.2, hk.1⟩)) hg (.inl rfl)); have n3_ := Aside0.mk (Kd.R_after (v := (.slice (some ⟨go51, 0, none⟩) x5_2.length co52)) (v1 := (.slice (some ⟨go51, 0, none⟩) x5_2.length co52)) (ok := (fun k_ => some k_ ≠ (.slice (some ad505) t497.length co21 : Value).ownBlock)) (by (with_reducible repeat (first | apply Kd.R_alloc | apply Kd.R_drewN | apply Kd.R_drew)); exact Kd.R_mono HL507_0.out (fun _ hk => ⟨hk.2, hk.1⟩)) hg (.inl rfl)); have n4_ := Aside0.mk ((by rw [hw]; exact below_set (HB.out) GB51.out : Below w.heap.size w w54)); clear HO_3; clear HO_5; clear HL506_0; clear HL507_0; clear HB; have HO_3 := n0_; have HO_5 := n1_; have HL506_0 := n2_; have HL507_0 := n3_; have HB := n4_; clear n0_ n1_ n2_ n3_ n4_; clear hg hw hp_)); try go_wp2_with (first | ((with_reducible refine gate_store (t := 3) (p := 124) rfl ?_); (try (rw [drewN_self wr]; generalize hq_ : World.drewN wr _ = wr; have n0_ := Aside0.mk (Kd.S_at hq_ HO_3.out); have n1_ := Aside0.mk (Kd.R_at hq_ HO_5.out); have n2_ := Aside0.mk (Kd.R_at hq_ HL506_0.out); have n3_ := Aside0.mk (Kd.R_at hq_ HL507_0.out); have n4_ := Aside0.mk (below_at hq_ HB.out); clear hq_ HO_3 HO_5 HL506_0 HL507_0 HB; have HO_3 := n0_; have HO_5 := n1_; have HL506_0 := n2_; have HL507_0 := n3_; have HB := n4_; clear n0_ n1_ n2_ n3_ n4_; (try (have HP53 := Kd.R_putg HO_5.out ((rd (rd_L1 t497 x7_1) x8_2) : Int) (wrap64 (x7_1 + 1)))))); refine store_event (t := 3) (p := 124) (v := ?vo_w54) (w1 := (wr.setCell ⟨go51, ((rd (rd_L1 t497 x7_1) x8_2) : Int).toNat, none⟩ (.int .i64 (wrap64 (x7_1 + 1))))) ?hg ?ho ?hn ?hr ?_; (case ho => rfl); (case hg => rfl); (case hn => rfl); (case hr => first | (go_simp; done) | (go_simp; rfl)); intro w54 hw; have hg : wr.grownBy w54 (some go51) := (by rw [hw]; exact HP53.2); have hp_ : Kd.R (Kd.int .i64) 3 w54 w.heap.size (fun _ => True) (.slice (some ⟨go51, 0, none⟩) x5_2.length co52) y519 := (by rw [hw, Ny519.out]; exact HP53.1); clear HP53; have n0_ := Aside0.mk (Kd.S_after (v := (.slice (some ⟨go51, 0, none⟩) x5_2.length co52)) (v1 := (.slice (some ⟨go51, 0, none⟩) x5_2.length co52)) (ok := (fun _ => True)) (by (with_reducible repeat (first | apply Kd.S_alloc | apply Kd.S_drewN | apply Kd.S_drew)); exact Kd.S_mono HO_3.out (fun _ hk => ⟨trivial, hk⟩)) hg (.inl rfl)); have n1_ := Aside0.mk (hp_); have n2_ := Aside0.mk (Kd.R_after (v := (.slice (some ⟨go51, 0, none⟩) x5_2.length co52)) (v1 := (.slice (some ⟨go51, 0, none⟩) x5_2.length co52)) (ok := (fun k_ => some k_ ≠ (.slice (some ad505) t497.length co21 : Value).ownBlock)) (by (with_reducible repeat (first | apply Kd.R_alloc | apply Kd.R_drewN | apply Kd.R_drew)); exact Kd.R_mono HL506_0.out (fun _ hk => ⟨hk.2, hk.1⟩)) hg (.inl rfl)); have n3_ := Aside0.mk (Kd.R_after (v := (.slice (some ⟨go51, 0, none⟩) x5_2.length co52)) (v1 := (.slice (some ⟨go51, 0, none⟩) x5_2.length co52)) (ok := (fun k_ => some k_ ≠ (.slice (some ad505) t497.length co21 : Value).ownBlock)) (by (with_reducible repeat (first | apply Kd.R_alloc | apply Kd.R_drewN | apply Kd.R_drew)); exact Kd.R_mono HL507_0.out (fun _ hk => ⟨hk.2, hk.1⟩)) hg (.inl rfl)); have n4_ := Aside0.mk ((by rw [hw]; exact below_set (HB.out) GB51.out : Below w.heap.size w w54)); clear HO_3; clear HO_5; clear HL506_0; clear HL507_0; clear HB; have HO_3 := n0_; have HO_5 := n1_; have HL506_0 := n2_; have HL507_0 := n3_; have HB := n4_; clear n0_ n1_ n2_ n3_ n4_; clear hg hw hp_)))
                       go_roundg k2
                       case measure => have := HK1.out; have := HK2.out; omega
                       case rel => exact ⟨(y519), (wrap64 (x6_2 + 1)), (wrap64 (x8_2 + 1)), (by first | rfl | (simp; done) | (simp [*]; done)), (by first | rfl | (simp; done) | (simp [*]; done)), H', ⟨by have := HK1.out; have := HK2.out; omega⟩, ⟨by (with_reducible repeat (first | apply Kd.S_alloc | apply Kd.S_drewN | apply Kd.S_drew)); exact Kd.S_mono HO_3.out (fun _ hk => hk.2)⟩, ⟨by (with_reducible repeat (first | apply Kd.R_alloc | apply Kd.R_drewN | apply Kd.R_drew)); exact HO_5.out⟩, ⟨by repeat (first | (with_reducible first | exact HB.out | apply below_alloc | apply pw_below_drewN | apply below_drew1) | exact HB.out)⟩⟩
                     ·
                      rw [if_neg c30] at H
                      have c30b0 : ((rd x5_2 (rd (rd_L1 t497 x7_1) x8_2)) == 0) = false := beq_eq_false_iff_ne.mpr c30
                      have c30b1 : ((rd x5_2 (rd (rd_L1 t497 x7_1) x8_2)) != 0) = true := bne_iff_ne.mpr c30
                      obtain rfl := Option.some.inj H
                      have p506 : 0 ≤ (x7_1 : Int) := of_decide_eq_true (by first | (with_reducible assumption) | assumption)
                      have q506 : x7_1 < (t497.length : Int) := of_decide_eq_true (by first | (with_reducible assumption) | assumption)
                      obtain ⟨ad506, A506_0, c506_0, e506, hx506_0, hl506_0, hi506_0⟩ := at_L1 (Kd.S_reads' HO_3.out).2.2 x7_1 p506 q506
                      obtain rfl : ad505 = ad506 := (by injection e506)
                      obtain ⟨ce506, hce506, hMe506, hcc506⟩ := Kd.S_get HO_3.out [] x7_1 p506 (by first | exact q506 | exact of_decide_eq_true (by first | (with_reducible assumption) | assumption) | (have e_ := (Kd.S_reads' HO_3.out).1; omega))
                      obtain ⟨ve506_0, rfl, ge506_0⟩ := hMe506
                      have hv506_0 := hcc506 0 _ rfl
                      rw [Nat.add_zero, show ((Kd.slice 3 (Kd.int .i64))).sz = 1 from rfl, Nat.mul_one] at hv506_0
                      replace hv506_0 := Option.some.inj (hv506_0.symm.trans hx506_0)
                      rw [hv506_0] at ge506_0
                      have HL506_0 := Aside0.mk (show Kd.R (Kd.int .i64) 3 _ _ _ _ (rd_L1 t497 x7_1) from ge506_0)
                      clear hv506_0 ge506_0
                      clear hcc506 hce506
                      have HR506_0 := Aside0.mk hi506_0
                      have HC506_0 := Aside0.mk hl506_0
                      clear hi506_0 hl506_0
                      replace p506 := eq_true p506
                      replace q506 := eq_true q506
                      have p507 : 0 ≤ (x7_1 : Int) := of_decide_eq_true (by first | (with_reducible assumption) | assumption)
                      have q507 : x7_1 < (t497.length : Int) := of_decide_eq_true (by first | (with_reducible assumption) | assumption)
                      obtain ⟨ad507, A507_0, c507_0, e507, hx507_0, hl507_0, hi507_0⟩ := at_L1 (Kd.S_reads' HO_3.out).2.2 x7_1 p507 q507
                      obtain rfl : ad505 = ad507 := (by injection e507)
                      obtain ⟨ce507, hce507, hMe507, hcc507⟩ := Kd.S_get HO_3.out [] x7_1 p507 (by first | exact q507 | exact of_decide_eq_true (by first | (with_reducible assumption) | assumption) | (have e_ := (Kd.S_reads' HO_3.out).1; omega))
                      obtain ⟨ve507_0, rfl, ge507_0⟩ := hMe507
                      have hv507_0 := hcc507 0 _ rfl
                      rw [Nat.add_zero, show ((Kd.slice 3 (Kd.int .i64))).sz = 1 from rfl, Nat.mul_one] at hv507_0
                      replace hv507_0 := Option.some.inj (hv507_0.symm.trans hx507_0)
                      rw [hv507_0] at ge507_0
                      have HL507_0 := Aside0.mk (show Kd.R (Kd.int .i64) 3 _ _ _ _ (rd_L1 t497 x7_1) from ge507_0)
                      clear hv507_0 ge507_0
                      clear hcc507 hce507
                      have HR507_0 := Aside0.mk hi507_0
                      have HC507_0 := Aside0.mk hl507_0
                      clear hi507_0 hl507_0
                      replace p507 := eq_true p507
                      replace q507 := eq_true q507
                      have ea_ := Option.some.inj (hx506_0.symm.trans hx507_0)
                      injection ea_ with ea_ en_ ec_
                      subst ea_
                      subst ec_
                      clear en_
                      have p508 : 0 ≤ (x8_2 : Int) := of_decide_eq_true (by first | (with_reducible assumption) | assumption)
                      have q508 : x8_2 < ((rd_L1 t497 x7_1).length : Int) := of_decide_eq_true (by first | (with_reducible assumption) | assumption)
                      obtain ⟨ad508, e508, hx508_0⟩ := Kd.at_int (by repeat (first | (with_reducible exact HR507_0.out) | (with_reducible refine Kd.C_alloc ?_ _) | (with_reducible refine Kd.C_drewN ?_ _) | (with_reducible refine Kd.C_drew ?_) | exact HR507_0.out)) x8_2 p508 q508
                      cases e508
                      replace p508 := eq_true p508
                      replace q508 := eq_true q508
                      obtain ⟨Ao55, co55, eo55⟩ := Kd.R_slice HO_5.out
                      subst eo55
                      have p509 : 0 ≤ ((rd (rd_L1 t497 x7_1) x8_2) : Int) := of_decide_eq_true (by first | (with_reducible assumption) | assumption)
                      have q509 : (rd (rd_L1 t497 x7_1) x8_2) < (x5_2.length : Int) := of_decide_eq_true (by first | (with_reducible assumption) | assumption)
                      obtain ⟨ad509, e509, hx509_0⟩ := Kd.at_int (Kd.R_reads' HO_5.out).2.2 (rd (rd_L1 t497 x7_1) x8_2) p509 q509
                      cases e509
                      replace p509 := eq_true p509
                      replace q509 := eq_true q509
                      go_wp2
                      repeat (go_quiet (fail); try go_wp2)
                      go_ret
                      exact ⟨by first | rfl | (simp <;> rfl) | (simp [*] <;> rfl), by repeat (first | (with_reducible first | exact HB.out | apply below_alloc | apply pw_below_drewN | apply below_drew1) | exact HB.out)⟩
                    ·
                     rw [if_neg c29] at H
                     exact absurd H (by simp)
                   ·
                    rw [if_neg c28] at H
                    exact absurd H (by simp)
                ·
                 rw [if_neg c25] at H
                 exact absurd H (by simp)
               ·
                rw [if_neg c24] at H
                have c24b0 : decide (x8_2 < ((rd_L1 t497 x7_1).length : Int)) = false := decide_eq_false c24
                clear c24
                have H' := Aside0.mk H
                clear H
                have p506 : 0 ≤ (x7_1 : Int) := of_decide_eq_true (by first | (with_reducible assumption) | assumption)
                have q506 : x7_1 < (t497.length : Int) := of_decide_eq_true (by first | (with_reducible assumption) | assumption)
                obtain ⟨ad506, A506_0, c506_0, e506, hx506_0, hl506_0, hi506_0⟩ := at_L1 (Kd.S_reads' HO_3.out).2.2 x7_1 p506 q506
                obtain rfl : ad505 = ad506 := (by injection e506)
                obtain ⟨ce506, hce506, hMe506, hcc506⟩ := Kd.S_get HO_3.out [] x7_1 p506 (by first | exact q506 | exact of_decide_eq_true (by first | (with_reducible assumption) | assumption) | (have e_ := (Kd.S_reads' HO_3.out).1; omega))
                obtain ⟨ve506_0, rfl, ge506_0⟩ := hMe506
                have hv506_0 := hcc506 0 _ rfl
                rw [Nat.add_zero, show ((Kd.slice 3 (Kd.int .i64))).sz = 1 from rfl, Nat.mul_one] at hv506_0
                replace hv506_0 := Option.some.inj (hv506_0.symm.trans hx506_0)
                rw [hv506_0] at ge506_0
                have HL506_0 := Aside0.mk (show Kd.R (Kd.int .i64) 3 _ _ _ _ (rd_L1 t497 x7_1) from ge506_0)
                clear hv506_0 ge506_0
                clear hcc506 hce506
                have HR506_0 := Aside0.mk hi506_0
                have HC506_0 := Aside0.mk hl506_0
                clear hi506_0 hl506_0
                replace p506 := eq_true p506
                replace q506 := eq_true q506
                go_wp2
                repeat (go_quiet (fail); try go_wp2)
                go_roundg k2
                case measure => have := HK1.out; have := HK2.out; omega
                case rel => exact ⟨(x5_2), (x6_2), (wrap64 (x7_1 + 1)), (by first | rfl | (simp; done) | (simp [*]; done)), (by first | rfl | (simp; done) | (simp [*]; done)), H', ⟨by have := HK1.out; have := HK2.out; omega⟩, ⟨by (with_reducible repeat (first | apply Kd.S_alloc | apply Kd.S_drewN | apply Kd.S_drew)); exact HO_3.out⟩, ⟨by (with_reducible repeat (first | apply Kd.R_alloc | apply Kd.R_drewN | apply Kd.R_drew)); exact HO_5.out⟩, ⟨by repeat (first | (with_reducible first | exact HB.out | apply below_alloc | apply pw_below_drewN | apply below_drew1) | exact HB.out)⟩⟩
              ·
               rw [if_neg c23] at H
               exact absurd H (by simp)
             ·
              rw [if_neg c22] at H
              exact absurd H (by simp)
         ·
          rw [if_neg c18] at H
          exact absurd H (by simp)
        ·
         rw [if_neg c17] at H
         have c17b0 : decide (x7_1 < (t497.length : Int)) = false := decide_eq_false c17
         clear c17
         have H' := Aside0.mk H
         clear H
         obtain ⟨Ao56, co56, eo56⟩ := Kd.S_slice HO_3.out
         subst eo56
         go_wp2
         repeat (go_quiet (fail); try go_wp2)
         go_loopg [10] k1 (fun kq v10 w' => ∃ (x10_2 : Int), v10 = .int .i64 x10_2 ∧ Aside0 (smithylaw19_CallsOrder.l2 kq l0 x5_1 x6_1 x10_2 = some r) ∧ Aside0 (kq ≤ k1) ∧ Aside0 (Kd.R (Kd.int .i64) 3 w' w.heap.size (fun _ => True) v503 x5_1) ∧ Aside0 (Below w.heap.size w w'))
         case atStart => exact ⟨(0), (by first | rfl | (simp; done) | (simp [*]; done)), H', ⟨Nat.le_refl _⟩, ⟨by (with_reducible repeat (first | apply Kd.R_alloc | apply Kd.R_drewN | apply Kd.R_drew)); exact HO_5.out⟩, ⟨by repeat (first | (with_reducible first | exact HB.out | apply below_alloc | apply pw_below_drewN | apply below_drew1) | exact HB.out)⟩⟩
         case round =>
          clear H'
          try clear c1
          try clear c2
          try clear p2
          try clear c3
          try clear c4
          try clear p4
          try clear q4
          try clear hx4
          try clear hf4
          try clear c5
          try clear p5
          try clear q5
          try clear hx5
          try clear qi5
          try clear hf5
          try clear p6
          try clear c17
          try clear c17b0
          try clear c18
          try clear c22
          try clear c23
          try clear c24
          try clear c24b0
          try clear c25
          try clear c28
          try clear c29
          try clear c30
          try clear c30b0
          try clear c30b1
          try clear c31
          try clear c31b0
          try clear c33
          try clear c34
          try clear c35
          try clear c35b0
          try clear c37
          try clear c37b0
          try clear c37b1
          try clear c39
          try clear c45
          try clear p46
          try clear q46
          try clear hx46
          try clear hf46
          try clear c50
          try clear p50
          try clear q50
          try clear hx50
          try clear c51
          try clear p51
          try clear q51
          try clear hx51
          try clear qi51
          try clear hf51
          try clear hx46_0
          try clear hx506_0
          try clear hx507_0
          try clear hx508_0
          try clear hx509_0
          try clear hx510_0
          try clear hx511_0
          try clear hx512_0
          try clear hx513_0
          try clear hx515_0
          try clear hx516_0
          try clear hx51_0
          try clear p46
          try clear p506
          try clear p507
          try clear p508
          try clear p509
          try clear p51
          try clear p510
          try clear p511
          try clear p512
          try clear p513
          try clear p515
          try clear p516
          try clear q46
          try clear q506
          try clear q507
          try clear q508
          try clear q509
          try clear q51
          try clear q510
          try clear q511
          try clear q512
          try clear q513
          try clear q515
          try clear q516
          obtain ⟨x10_2, rfl, HA, HK2, HO_5, HB⟩ := hrel
          cases gk with
          | zero => exact absurd HA.out (by simp [smithylaw19_CallsOrder.l2])
          | succ k2 =>
           have H := HA.out
           clear HA
           simp only [smithylaw19_CallsOrder.l2] at H
           by_cases c57 : x10_2 < (l0.length : Int)
           ·
            rw [if_pos c57] at H
            have c57b0 : decide (x10_2 < (l0.length : Int)) = true := decide_eq_true c57
            clear c57
            have H' := Aside0.mk H
            clear H
            go_wp2
            repeat (go_quiet (fail); try go_wp2)
            go_loopg [11] k2 (fun kq v11 w' => ∃ (x11_3 : Int), v11 = .int .i64 x11_3 ∧ Aside0 (smithylaw19_CallsOrder.l3 kq l0 x5_1 x6_1 x10_2 x11_3 = some r) ∧ Aside0 (kq ≤ k2) ∧ Aside0 (Kd.R (Kd.int .i64) 3 w' w.heap.size (fun _ => True) v503 x5_1) ∧ Aside0 (Below w.heap.size w w'))
            case atStart => exact ⟨(0), (by first | rfl | (simp; done) | (simp [*]; done)), H', ⟨Nat.le_refl _⟩, ⟨by (with_reducible repeat (first | apply Kd.R_alloc | apply Kd.R_drewN | apply Kd.R_drew)); exact HO_5.out⟩, ⟨by repeat (first | (with_reducible first | exact HB.out | apply below_alloc | apply pw_below_drewN | apply below_drew1) | exact HB.out)⟩⟩
            case round =>
             clear H'
             try clear c1
             try clear c2
             try clear p2
             try clear c3
             try clear c4
             try clear p4
             try clear q4
             try clear hx4
             try clear hf4
             try clear c5
             try clear p5
             try clear q5
             try clear hx5
             try clear qi5
             try clear hf5
             try clear p6
             try clear c17
             try clear c17b0
             try clear c18
             try clear c22
             try clear c23
             try clear c24
             try clear c24b0
             try clear c25
             try clear c28
             try clear c29
             try clear c30
             try clear c30b0
             try clear c30b1
             try clear c31
             try clear c31b0
             try clear c33
             try clear c34
             try clear c35
             try clear c35b0
             try clear c37
             try clear c37b0
             try clear c37b1
             try clear c39
             try clear c45
             try clear p46
             try clear q46
             try clear hx46
             try clear hf46
             try clear c50
             try clear p50
             try clear q50
             try clear hx50
             try clear c51
             try clear p51
             try clear q51
             try clear hx51
             try clear qi51
             try clear hf51
             try clear c57
             try clear c57b0
             try clear hx46_0
             try clear hx506_0
             try clear hx507_0
             try clear hx508_0
             try clear hx509_0
             try clear hx510_0
             try clear hx511_0
             try clear hx512_0
             try clear hx513_0
             try clear hx515_0
             try clear hx516_0
             try clear hx51_0
             try clear p2
             try clear p4
             try clear p46
             try clear p5
             try clear p50
             try clear p506
             try clear p507
             try clear p508
             try clear p509
             try clear p51
             try clear p510
             try clear p511
             try clear p512
             try clear p513
             try clear p515
             try clear p516
             try clear p6
             try clear q4
             try clear q46
             try clear q5
             try clear q50
             try clear q506
             try clear q507
             try clear q508
             try clear q509
             try clear q51
             try clear q510
             try clear q511
             try clear q512
             try clear q513
             try clear q515
             try clear q516
             obtain ⟨x11_3, rfl, HA, HK3, HO_5, HB⟩ := hrel
             cases gk with
             | zero => exact absurd HA.out (by simp [smithylaw19_CallsOrder.l3])
             | succ k3 =>
              have H := HA.out
              clear HA
              simp only [smithylaw19_CallsOrder.l3] at H
              by_cases c58 : 0 ≤ x10_2
              ·
               rw [if_pos c58] at H
               have c58b0 : decide (0 ≤ x10_2) = true := decide_eq_true c58
               clear c58
               by_cases c59 : x10_2 < (l0.length : Int)
               ·
                rw [if_pos c59] at H
                have c59b0 : decide (x10_2 < (l0.length : Int)) = true := decide_eq_true c59
                clear c59
                by_cases c60 : x11_3 < ((rd_L1 l0 x10_2).length : Int)
                ·
                 rw [if_pos c60] at H
                 have c60b0 : decide (x11_3 < ((rd_L1 l0 x10_2).length : Int)) = true := decide_eq_true c60
                 clear c60
                 by_cases c61 : 0 ≤ x11_3
                 ·
                  rw [if_pos c61] at H
                  have c61b0 : decide (0 ≤ x11_3) = true := decide_eq_true c61
                  clear c61
                  by_cases c62 : 0 ≤ (rd (rd_L1 l0 x10_2) x11_3)
                  ·
                   rw [if_pos c62] at H
                   have c62b0 : decide (0 ≤ (rd (rd_L1 l0 x10_2) x11_3)) = true := decide_eq_true c62
                   clear c62
                   by_cases c63 : (rd (rd_L1 l0 x10_2) x11_3) < (x5_1.length : Int)
                   ·
                    rw [if_pos c63] at H
                    have c63b0 : decide ((rd (rd_L1 l0 x10_2) x11_3) < (x5_1.length : Int)) = true := decide_eq_true c63
                    clear c63
                    by_cases c64 : x10_2 < (x5_1.length : Int)
                    ·
                     rw [if_pos c64] at H
                     have c64b0 : decide (x10_2 < (x5_1.length : Int)) = true := decide_eq_true c64
                     clear c64
                     by_cases c65 : (rd x5_1 (rd (rd_L1 l0 x10_2) x11_3)) > (rd x5_1 x10_2)
                     ·
                      rw [if_pos c65] at H
                      have c65b0 : decide ((rd x5_1 x10_2) < (rd x5_1 (rd (rd_L1 l0 x10_2) x11_3))) = true := decide_eq_true c65
                      clear c65
                      obtain rfl := Option.some.inj H
                      have p520 : 0 ≤ (x10_2 : Int) := of_decide_eq_true (by first | (with_reducible assumption) | assumption)
                      have q520 : x10_2 < (l0.length : Int) := of_decide_eq_true (by first | (with_reducible assumption) | assumption)
                      obtain ⟨ad520, A520_0, c520_0, e520, hx520_0, hl520_0, hi520_0⟩ := at_L1 HR0.out x10_2 p520 q520
                      cases e520
                      replace hx520_0 := (HB.out.cell (World.block_lt_of_cell? w _ hx520_0)).trans hx520_0
                      have HR520_0 := Aside0.mk hi520_0
                      have HC520_0 := Aside0.mk hl520_0
                      clear hi520_0 hl520_0
                      replace p520 := eq_true p520
                      replace q520 := eq_true q520
                      have p521 : 0 ≤ (x10_2 : Int) := of_decide_eq_true (by first | (with_reducible assumption) | assumption)
                      have q521 : x10_2 < (l0.length : Int) := of_decide_eq_true (by first | (with_reducible assumption) | assumption)
                      obtain ⟨ad521, A521_0, c521_0, e521, hx521_0, hl521_0, hi521_0⟩ := at_L1 HR0.out x10_2 p521 q521
                      obtain rfl : ad520 = ad521 := (by injection e521)
                      replace hx521_0 := (HB.out.cell (World.block_lt_of_cell? w _ hx521_0)).trans hx521_0
                      have HR521_0 := Aside0.mk hi521_0
                      have HC521_0 := Aside0.mk hl521_0
                      clear hi521_0 hl521_0
                      replace p521 := eq_true p521
                      replace q521 := eq_true q521
                      have ea_ := Option.some.inj (hx520_0.symm.trans hx521_0)
                      injection ea_ with ea_ en_ ec_
                      subst ea_
                      subst ec_
                      clear en_
                      have p522 : 0 ≤ (x11_3 : Int) := of_decide_eq_true (by first | (with_reducible assumption) | assumption)
                      have q522 : x11_3 < ((rd_L1 l0 x10_2).length : Int) := of_decide_eq_true (by first | (with_reducible assumption) | assumption)
                      obtain ⟨ad522, e522, hx522_0⟩ := Kd.at_int HR521_0.out x11_3 p522 q522
                      cases e522
                      replace hx522_0 := (HB.out.cell (World.block_lt_of_cell? w _ hx522_0)).trans hx522_0
                      replace p522 := eq_true p522
                      replace q522 := eq_true q522
                      obtain ⟨Ao66, co66, eo66⟩ := Kd.R_slice HO_5.out
                      subst eo66
                      have p523 : 0 ≤ ((rd (rd_L1 l0 x10_2) x11_3) : Int) := of_decide_eq_true (by first | (with_reducible assumption) | assumption)
                      have q523 : (rd (rd_L1 l0 x10_2) x11_3) < (x5_1.length : Int) := of_decide_eq_true (by first | (with_reducible assumption) | assumption)
                      obtain ⟨ad523, e523, hx523_0⟩ := Kd.at_int (Kd.R_reads' HO_5.out).2.2 (rd (rd_L1 l0 x10_2) x11_3) p523 q523
                      cases e523
                      replace p523 := eq_true p523
                      replace q523 := eq_true q523
                      have p524 : 0 ≤ (x10_2 : Int) := of_decide_eq_true (by first | (with_reducible assumption) | assumption)
                      have q524 : x10_2 < (x5_1.length : Int) := of_decide_eq_true (by first | (with_reducible assumption) | assumption)
                      obtain ⟨ad524, e524, hx524_0⟩ := Kd.at_int (Kd.R_reads' HO_5.out).2.2 x10_2 p524 q524
                      obtain rfl : ad523 = ad524 := (by injection e524)
                      replace p524 := eq_true p524
                      replace q524 := eq_true q524
                      go_wp2
                      repeat (go_quiet (fail); try go_wp2)
                      go_ret
                      exact ⟨by first | rfl | (simp <;> rfl) | (simp [*] <;> rfl), by repeat (first | (with_reducible first | exact HB.out | apply below_alloc | apply pw_below_drewN | apply below_drew1) | exact HB.out)⟩
                     ·
                      rw [if_neg c65] at H
                      have c65b0 : decide ((rd x5_1 x10_2) < (rd x5_1 (rd (rd_L1 l0 x10_2) x11_3))) = false := decide_eq_false c65
                      clear c65
                      have H' := Aside0.mk H
                      clear H
                      have p520 : 0 ≤ (x10_2 : Int) := of_decide_eq_true (by first | (with_reducible assumption) | assumption)
                      have q520 : x10_2 < (l0.length : Int) := of_decide_eq_true (by first | (with_reducible assumption) | assumption)
                      obtain ⟨ad520, A520_0, c520_0, e520, hx520_0, hl520_0, hi520_0⟩ := at_L1 HR0.out x10_2 p520 q520
                      cases e520
                      replace hx520_0 := (HB.out.cell (World.block_lt_of_cell? w _ hx520_0)).trans hx520_0
                      have HR520_0 := Aside0.mk hi520_0
                      have HC520_0 := Aside0.mk hl520_0
                      clear hi520_0 hl520_0
                      replace p520 := eq_true p520
                      replace q520 := eq_true q520
                      have p521 : 0 ≤ (x10_2 : Int) := of_decide_eq_true (by first | (with_reducible assumption) | assumption)
                      have q521 : x10_2 < (l0.length : Int) := of_decide_eq_true (by first | (with_reducible assumption) | assumption)
                      obtain ⟨ad521, A521_0, c521_0, e521, hx521_0, hl521_0, hi521_0⟩ := at_L1 HR0.out x10_2 p521 q521
                      obtain rfl : ad520 = ad521 := (by injection e521)
                      replace hx521_0 := (HB.out.cell (World.block_lt_of_cell? w _ hx521_0)).trans hx521_0
                      have HR521_0 := Aside0.mk hi521_0
                      have HC521_0 := Aside0.mk hl521_0
                      clear hi521_0 hl521_0
                      replace p521 := eq_true p521
                      replace q521 := eq_true q521
                      have ea_ := Option.some.inj (hx520_0.symm.trans hx521_0)
                      injection ea_ with ea_ en_ ec_
                      subst ea_
                      subst ec_
                      clear en_
                      have p522 : 0 ≤ (x11_3 : Int) := of_decide_eq_true (by first | (with_reducible assumption) | assumption)
                      have q522 : x11_3 < ((rd_L1 l0 x10_2).length : Int) := of_decide_eq_true (by first | (with_reducible assumption) | assumption)
                      obtain ⟨ad522, e522, hx522_0⟩ := Kd.at_int HR521_0.out x11_3 p522 q522
                      cases e522
                      replace hx522_0 := (HB.out.cell (World.block_lt_of_cell? w _ hx522_0)).trans hx522_0
                      replace p522 := eq_true p522
                      replace q522 := eq_true q522
                      obtain ⟨Ao67, co67, eo67⟩ := Kd.R_slice HO_5.out
                      subst eo67
                      have p523 : 0 ≤ ((rd (rd_L1 l0 x10_2) x11_3) : Int) := of_decide_eq_true (by first | (with_reducible assumption) | assumption)
                      have q523 : (rd (rd_L1 l0 x10_2) x11_3) < (x5_1.length : Int) := of_decide_eq_true (by first | (with_reducible assumption) | assumption)
                      obtain ⟨ad523, e523, hx523_0⟩ := Kd.at_int (Kd.R_reads' HO_5.out).2.2 (rd (rd_L1 l0 x10_2) x11_3) p523 q523
                      cases e523
                      replace p523 := eq_true p523
                      replace q523 := eq_true q523
                      have p524 : 0 ≤ (x10_2 : Int) := of_decide_eq_true (by first | (with_reducible assumption) | assumption)
                      have q524 : x10_2 < (x5_1.length : Int) := of_decide_eq_true (by first | (with_reducible assumption) | assumption)
                      obtain ⟨ad524, e524, hx524_0⟩ := Kd.at_int (Kd.R_reads' HO_5.out).2.2 x10_2 p524 q524
                      obtain rfl : ad523 = ad524 := (by injection e524)
                      replace p524 := eq_true p524
                      replace q524 := eq_true q524
                      go_wp2
                      repeat (go_quiet (fail); try go_wp2)
                      go_roundg k3
                      case measure => have := HK1.out; have := HK2.out; have := HK3.out; omega
                      case rel => exact ⟨(wrap64 (x11_3 + 1)), (by first | rfl | (simp; done) | (simp [*]; done)), H', ⟨by have := HK1.out; have := HK2.out; have := HK3.out; omega⟩, ⟨by (with_reducible repeat (first | apply Kd.R_alloc | apply Kd.R_drewN | apply Kd.R_drew)); exact HO_5.out⟩, ⟨by repeat (first | (with_reducible first | exact HB.out | apply below_alloc | apply pw_below_drewN | apply below_drew1) | exact HB.out)⟩⟩
                    ·
                     rw [if_neg c64] at H
                     exact absurd H (by simp)
                   ·
                    rw [if_neg c63] at H
                    exact absurd H (by simp)
                  ·
                   rw [if_neg c62] at H
                   exact absurd H (by simp)
                 ·
                  rw [if_neg c61] at H
                  exact absurd H (by simp)
                ·
                 rw [if_neg c60] at H
                 have c60b0 : decide (x11_3 < ((rd_L1 l0 x10_2).length : Int)) = false := decide_eq_false c60
                 clear c60
                 have H' := Aside0.mk H
                 clear H
                 have p520 : 0 ≤ (x10_2 : Int) := of_decide_eq_true (by first | (with_reducible assumption) | assumption)
                 have q520 : x10_2 < (l0.length : Int) := of_decide_eq_true (by first | (with_reducible assumption) | assumption)
                 obtain ⟨ad520, A520_0, c520_0, e520, hx520_0, hl520_0, hi520_0⟩ := at_L1 HR0.out x10_2 p520 q520
                 cases e520
                 replace hx520_0 := (HB.out.cell (World.block_lt_of_cell? w _ hx520_0)).trans hx520_0
                 have HR520_0 := Aside0.mk hi520_0
                 have HC520_0 := Aside0.mk hl520_0
                 clear hi520_0 hl520_0
                 replace p520 := eq_true p520
                 replace q520 := eq_true q520
                 go_wp2
                 repeat (go_quiet (fail); try go_wp2)
                 go_roundg k3
                 case measure => have := HK1.out; have := HK2.out; have := HK3.out; omega
                 case rel => exact ⟨(wrap64 (x10_2 + 1)), (by first | rfl | (simp; done) | (simp [*]; done)), H', ⟨by have := HK1.out; have := HK2.out; have := HK3.out; omega⟩, ⟨by (with_reducible repeat (first | apply Kd.R_alloc | apply Kd.R_drewN | apply Kd.R_drew)); exact HO_5.out⟩, ⟨by repeat (first | (with_reducible first | exact HB.out | apply below_alloc | apply pw_below_drewN | apply below_drew1) | exact HB.out)⟩⟩
               ·
                rw [if_neg c59] at H
                exact absurd H (by simp)
              ·
               rw [if_neg c58] at H
               exact absurd H (by simp)
           ·
            rw [if_neg c57] at H
            have c57b0 : decide (x10_2 < (l0.length : Int)) = false := decide_eq_false c57
            clear c57
            obtain rfl := Option.some.inj H
            go_wp2
            repeat (go_quiet (fail); try go_wp2)
            go_ret
            exact ⟨by first | rfl | (simp <;> rfl) | (simp [*] <;> rfl), by repeat (first | (with_reducible first | exact HB.out | apply below_alloc | apply pw_below_drewN | apply below_drew1) | exact HB.out)⟩
     ·
      rw [if_neg c14] at H
      exact absurd H (by simp)
    ·
     rw [if_neg c13] at H
     exact absurd H (by simp)
  ·
   rw [if_neg c9] at H
   have c9b0 : (t498 == 0) = false := beq_eq_false_iff_ne.mpr c9
   have c9b1 : (t498 != 0) = true := bne_iff_ne.mpr c9
   by_cases c68 : t498 = 4
   ·
    rw [if_pos c68] at H
    have c68b0 : (t498 == 4) = true := beq_iff_eq.mpr c68
    have c68b1 : (t498 != 4) = false := bne_eq_false_iff_eq.mpr c68
    clear c68
    obtain rfl := Option.some.inj H
    obtain ⟨Ao69, co69, eo69⟩ := Kd.S_slice HO500.out
    subst eo69
    go_wp2
    repeat (go_quiet (fail); try go_wp2)
    go_ret
    exact ⟨by first | rfl | (simp <;> rfl) | (simp [*] <;> rfl), by repeat (first | (with_reducible first | exact HB.out | apply below_alloc | apply pw_below_drewN | apply below_drew1) | exact HB.out)⟩
   ·
    rw [if_neg c68] at H
    have c68b0 : (t498 == 4) = false := beq_eq_false_iff_ne.mpr c68
    have c68b1 : (t498 != 4) = true := bne_iff_ne.mpr c68
    obtain rfl := Option.some.inj H
    go_wp2
    repeat (go_quiet (fail); try go_wp2)
    go_ret
    exact ⟨by first | rfl | (simp <;> rfl) | (simp [*] <;> rfl), by repeat (first | (with_reducible first | exact HB.out | apply below_alloc | apply pw_below_drewN | apply below_drew1) | exact HB.out)⟩
 ·
  replace c5 := Bool.eq_false_iff.mpr c5
  subst c5
  have H1 : (some false) = some r := by rw [if_neg (show ¬ (false = true) by decide)] at H; exact H
  clear H
  have H := H1
  clear H1
  obtain rfl := Option.some.inj H
  go_wp2
  repeat (go_quiet (fail); try go_wp2)
  go_ret
  exact ⟨by first | rfl | (simp <;> rfl) | (simp [*] <;> rfl), by repeat (first | (with_reducible first | exact HB.out | apply below_alloc | apply pw_below_drewN | apply below_drew1) | exact HB.out)⟩

end Go.Proofs.Ytligpleningglaa.F
