/- The laws CallsParts and CallsCalled as contracts: true. Written by mkrn.py out of other texts of this seat and the print of the two laws. -/
import Derived.Test.YtligpleningglaaFx0
import Derived.Test.YtligpleningglaaFxf10
import Derived.Test.YtligpleningglaaFxf11
import Derived.Test.YtligpleningglaaFxf12
import Derived.Test.YtligpleningglaaFxf13
import Derived.Test.YtligpleningglaaFxf14
import Derived.Test.YtligpleningglaaFxf15
import Derived.Test.YtligpleningglaaFxf16
import Derived.Test.YtligpleningglaaFxf17
import Derived.Test.YtligpleningglaaFxf18
import Derived.Test.YtligpleningglaaFxf8
import Derived.Test.YtligpleningglaaFxf9
import Derived.Test.YtligpleningglaaRc
namespace Go.Proofs.Ytligpleningglaa.F
open Go.RowKit Go.Proofs.YtligpleningglaaW.PrintWords Go.Proofs.YtligpleningglaaW.PrintLast Go.Proofs.YtligpleningglaaW.PrintMore
attribute [local go_sem] max2_int min2_int max_two min_two max_three min_three max_four min_four   -- for this text's walks alone
set_option linter.unusedVariables false
set_option linter.unusedSimpArgs false
/-! ### lawParts: function 3 -/
def lawParts.f (k : Nat) (l0 : List (List Int)) : Option (Bool) := (smithylaw19_great.f k l0).bind fun t352 => (if t352 = true then ((smithylaw19_awake.f).bind fun t353 => (some t353)) else ((calls_Parts.f l0).bind fun bt354 => ((smithyref19_Parts.f k l0).bind fun bt358 => ((smithykit_SameRows.f k bt354.1 bt358.1).bind fun t362 => (if t362 = true then (if bt354.2 = bt358.2 then ((smithylaw19_awake.f).bind fun t363 => (some t363)) else (some false)) else (some false))))))
theorem lawParts.mono : ∀ a0 k, LeO (lawParts.f k a0) (lawParts.f (k + 1) a0) := by
  intro a0 k
  unfold lawParts.f
  repeat' first
      | (with_reducible exact smithykit_SameRows.mono _ _ _)
      | (with_reducible exact smithylaw19_great.mono _ _)
      | (with_reducible exact smithyref19_Parts.mono _ _)
      | (with_reducible exact LeO.refl _)
      | (with_reducible exact LeO.none _)
      | (with_reducible refine LeO.ite ?_ ?_)
      | (with_reducible refine LeO.bind ?_ (fun _ => ?_))
      | exact smithykit_SameRows.mono _ _ _
      | exact smithylaw19_great.mono _ _
      | exact smithyref19_Parts.mono _ _
      | exact LeO.none _
      | refine LeO.ite ?_ ?_
      | refine LeO.bind ?_ (fun _ => ?_)
set_option maxHeartbeats 8000000 in
set_option maxRecDepth 100000 in
theorem lawParts.calls (k : Nat) (A0 : Option Addr) (c0 : Nat) (l0 : List (List Int)) (r : Bool) (w : World) (hr0 : Kd.C (Kd.slice 3 (Kd.int .i64)) w A0 l0.length l0) (hc0 : l0.length ≤ c0) (h : lawParts.f k l0 = some r) :
    Calls Try.prog 3 #[.slice A0 l0.length c0] w fun e w' => e = .returned (.bool r) ∧ Below w.heap.size w w' := by
 have HR0 := Aside0.mk hr0
 have HC0 := Aside0.mk hc0
 clear hr0 hc0
 have HB := Aside0.mk (Below.refl w.heap.size w)
 have H : ((smithylaw19_great.f k l0).bind fun t352 => (if t352 = true then ((smithylaw19_awake.f).bind fun t353 => (some t353)) else ((calls_Parts.f l0).bind fun bt354 => ((smithyref19_Parts.f k l0).bind fun bt358 => ((smithykit_SameRows.f k bt354.1 bt358.1).bind fun t362 => (if t362 = true then (if bt354.2 = bt358.2 then ((smithylaw19_awake.f).bind fun t363 => (some t363)) else (some false)) else (some false))))))) = some r := h
 clear h
 replace H := Option.bind_eq_some_iff.mp H
 obtain ⟨t352, A20, H⟩ := H
 replace H : (if t352 = true then ((smithylaw19_awake.f).bind fun t353 => (some t353)) else ((calls_Parts.f l0).bind fun bt354 => ((smithyref19_Parts.f k l0).bind fun bt358 => ((smithykit_SameRows.f k bt354.1 bt358.1).bind fun t362 => (if t362 = true then (if bt354.2 = bt358.2 then ((smithylaw19_awake.f).bind fun t363 => (some t363)) else (some false)) else (some false)))))) = some r := H
 have A2 := Aside0.mk A20
 clear A20
 have HF3 := Aside0.mk H
 clear H
 go_enter Try.func3, Try.ntmps3
 go_upto_if 8 with (first | ((with_reducible refine gate_callee (f := 8) rfl ?_); refine goesL_ (some 8) rfl rfl Try.func8 (by kernel_rfl) rfl #[.slice A0 l0.length c0] rfl (by (try simp only [List.map_toArray, List.map_cons, List.map_nil]); first | done | rfl | (simp only [List.length_drop, List.length_take]; rfl)) ?_; (with_reducible refine (smithylaw19_great.calls k _ _ l0 t352 _ ?side1 ?side2 A2.out).mono ?_); (case side1 => repeat (first | exact HR0.out | (with_reducible refine Kd.C_alloc ?_ _) | (with_reducible refine Kd.C_drewN ?_ _) | (with_reducible refine Kd.C_drew ?_))); (case side2 => exact HC0.out); rintro e w' ⟨rfl, ⟨nd, rfl⟩⟩; refine ⟨_, rfl, ?_⟩))
 (try simp only [Act.put, List.setIfInBounds_toArray, List.set_cons_zero, List.set_cons_succ])
 have H := HF3.out
 clear HF3
 by_cases c4 : t352 = true
 ·
  subst c4
  have H1 : ((smithylaw19_awake.f).bind fun t353 => (some t353)) = some r := by rw [if_pos rfl] at H; exact H
  clear H
  have H := H1
  clear H1
  replace H := Option.bind_eq_some_iff.mp H
  obtain ⟨t353, A50, H⟩ := H
  replace H : (some t353) = some r := H
  have A5 := Aside0.mk A50
  clear A50
  obtain rfl := Option.some.inj H
  go_wp2_with (first | ((with_reducible refine gate_callee (f := 9) rfl ?_); refine goesL_ (some 9) rfl rfl Try.func9 (by kernel_rfl) rfl #[] rfl (by (try simp only [List.map_toArray, List.map_cons, List.map_nil]); first | done | rfl | (simp only [List.length_drop, List.length_take]; rfl)) ?_; (with_reducible refine (smithylaw19_awake.calls  t353 _ A5.out).mono ?_); rintro e w6 ⟨rfl, hb⟩; refine ⟨_, rfl, ?_⟩; have n0_ := Aside0.mk (below_step (by repeat (first | (with_reducible first | exact HB.out | apply below_alloc | apply pw_below_drewN | apply below_drew1) | exact HB.out)) hb); clear HB; have HB := n0_; clear n0_; (try clear hb); (try clear hb2); (try clear hk); (try clear hi)))
  go_ret
  exact ⟨by first | rfl | (simp <;> rfl) | (simp [*] <;> rfl), by repeat (first | (with_reducible first | exact HB.out | apply below_alloc | apply pw_below_drewN | apply below_drew1) | exact HB.out)⟩
 ·
  replace c4 := Bool.eq_false_iff.mpr c4
  subst c4
  have H1 : ((calls_Parts.f l0).bind fun bt354 => ((smithyref19_Parts.f k l0).bind fun bt358 => ((smithykit_SameRows.f k bt354.1 bt358.1).bind fun t362 => (if t362 = true then (if bt354.2 = bt358.2 then ((smithylaw19_awake.f).bind fun t363 => (some t363)) else (some false)) else (some false))))) = some r := by rw [if_neg (show ¬ (false = true) by decide)] at H; exact H
  clear H
  have H := H1
  clear H1
  replace H := Option.bind_eq_some_iff.mp H
  obtain ⟨⟨t354, t355⟩, A70, H⟩ := H
  replace H : ((smithyref19_Parts.f k l0).bind fun bt358 => ((smithykit_SameRows.f k t354 bt358.1).bind fun t362 => (if t362 = true then (if t355 = bt358.2 then ((smithylaw19_awake.f).bind fun t363 => (some t363)) else (some false)) else (some false)))) = some r := H
  have A7 := Aside0.mk A70
  clear A70
  replace H := Option.bind_eq_some_iff.mp H
  obtain ⟨⟨t358, t359⟩, A80, H⟩ := H
  replace H : ((smithykit_SameRows.f k t354 t358).bind fun t362 => (if t362 = true then (if t355 = t359 then ((smithylaw19_awake.f).bind fun t363 => (some t363)) else (some false)) else (some false))) = some r := H
  have A8 := Aside0.mk A80
  clear A80
  replace H := Option.bind_eq_some_iff.mp H
  obtain ⟨t362, A90, H⟩ := H
  replace H : (if t362 = true then (if t355 = t359 then ((smithylaw19_awake.f).bind fun t363 => (some t363)) else (some false)) else (some false)) = some r := H
  have A9 := Aside0.mk A90
  clear A90
  by_cases c10 : t362 = true
  ·
   subst c10
   have H1 : (if t355 = t359 then ((smithylaw19_awake.f).bind fun t363 => (some t363)) else (some false)) = some r := by rw [if_pos rfl] at H; exact H
   clear H
   have H := H1
   clear H1
   by_cases c11 : t355 = t359
   ·
    rw [if_pos c11] at H
    have c11b0 : (t355 == t359) = true := beq_iff_eq.mpr c11
    have c11b1 : (t355 != t359) = false := bne_eq_false_iff_eq.mpr c11
    clear c11
    replace H := Option.bind_eq_some_iff.mp H
    obtain ⟨t363, A120, H⟩ := H
    replace H : (some t363) = some r := H
    have A12 := Aside0.mk A120
    clear A120
    obtain rfl := Option.some.inj H
    go_wp2_with (first | ((with_reducible refine gate_callee (f := 10) rfl ?_); refine goesL_ (some 12) rfl rfl Try.func10 (by kernel_rfl) rfl #[.slice A0 l0.length c0] rfl (by (try simp only [List.map_toArray, List.map_cons, List.map_nil]); first | done | rfl | (simp only [List.length_drop, List.length_take]; rfl)) ?_; (with_reducible refine (calls_Parts.calls _ _ l0 t354 t355 _ ?side1 ?side2 A7.out).mono ?_); (case side1 => repeat (first | exact (Kd.C_below HR0.out HB.out) | (with_reducible refine Kd.C_alloc ?_ _) | (with_reducible refine Kd.C_drewN ?_ _) | (with_reducible refine Kd.C_drew ?_))); (case side2 => exact HC0.out); rintro e w13 ⟨v356, rfl, ho0, hb⟩; refine ⟨_, rfl, ?_⟩; have n0_ := Aside0.mk (Kd.S_lower ho0 (below_size (by repeat (first | (with_reducible first | exact HB.out | apply below_alloc | apply pw_below_drewN | apply below_drew1) | exact HB.out)))); have n1_ := Aside0.mk (below_step (by repeat (first | (with_reducible first | exact HB.out | apply below_alloc | apply pw_below_drewN | apply below_drew1) | exact HB.out)) hb); clear HB; have HO357 := n0_; have HB := n1_; clear n0_ n1_; (try clear hb); (try clear hb2); (try clear hk); (try clear hi); (try clear ho0)) | ((with_reducible refine gate_callee (f := 11) rfl ?_); refine goesL_ (some 17) rfl rfl Try.func11 (by kernel_rfl) rfl #[.slice A0 l0.length c0] rfl (by (try simp only [List.map_toArray, List.map_cons, List.map_nil]); first | done | rfl | (simp only [List.length_drop, List.length_take]; rfl)) ?_; (with_reducible refine (smithyref19_Parts.calls k _ _ l0 t358 t359 _ ?side1 ?side2 A8.out).mono ?_); (case side1 => repeat (first | exact (Kd.C_below HR0.out HB.out) | (with_reducible refine Kd.C_alloc ?_ _) | (with_reducible refine Kd.C_drewN ?_ _) | (with_reducible refine Kd.C_drew ?_))); (case side2 => exact HC0.out); rintro e w14 ⟨v360, rfl, ho0, hb⟩; refine ⟨_, rfl, ?_⟩; have n0_ := Aside0.mk (Kd.S_elder' (by (with_reducible repeat (first | apply Kd.S_alloc | apply Kd.S_drewN | apply Kd.S_drew)); exact HO357.out) (Kd.S_base ho0) hb); have n1_ := Aside0.mk (Kd.S_lower (Kd.S_new' ho0 (Kd.S_lt (by (with_reducible repeat (first | apply Kd.S_alloc | apply Kd.S_drewN | apply Kd.S_drew)); exact HO357.out))) (below_size (by repeat (first | (with_reducible first | exact HB.out | apply below_alloc | apply pw_below_drewN | apply below_drew1) | exact HB.out)))); have n2_ := Aside0.mk (below_step (by repeat (first | (with_reducible first | exact HB.out | apply below_alloc | apply pw_below_drewN | apply below_drew1) | exact HB.out)) hb); clear HO357; clear HB; have HO357 := n0_; have HO361 := n1_; have HB := n2_; clear n0_ n1_ n2_; (try clear hb); (try clear hb2); (try clear hk); (try clear hi); (try clear ho0); obtain ⟨Ao15, co15, eo15⟩ := Kd.S_slice HO357.out; subst eo15; obtain ⟨Ao16, co16, eo16⟩ := Kd.S_slice HO361.out; subst eo16) | ((with_reducible refine gate_callee (f := 12) rfl ?_); refine goesL_ (some 22) rfl rfl Try.func12 (by kernel_rfl) rfl #[.slice Ao15 t354.length co15, .slice Ao16 t358.length co16] rfl (by (try simp only [List.map_toArray, List.map_cons, List.map_nil]); first | done | rfl | (simp only [List.length_drop, List.length_take]; rfl)) ?_; (with_reducible refine (smithykit_SameRows.calls k _ _ t354 _ _ t358 true _ ?side1 ?side2 ?side3 ?side4 A9.out).mono ?_); (case side1 => repeat (first | exact (Kd.S_reads' HO357.out).2.2 | (with_reducible refine Kd.C_alloc ?_ _) | (with_reducible refine Kd.C_drewN ?_ _) | (with_reducible refine Kd.C_drew ?_))); (case side2 => exact (Kd.S_reads' HO357.out).2.1); (case side3 => repeat (first | exact (Kd.S_reads' HO361.out).2.2 | (with_reducible refine Kd.C_alloc ?_ _) | (with_reducible refine Kd.C_drewN ?_ _) | (with_reducible refine Kd.C_drew ?_))); (case side4 => exact (Kd.S_reads' HO361.out).2.1); rintro e w' ⟨rfl, ⟨nd, rfl⟩⟩; refine ⟨_, rfl, ?_⟩) | (go_at_call 9; (with_reducible refine (smithylaw19_awake.calls  t363 _ A12.out).mono ?_); rintro e w17 ⟨rfl, hb⟩; have n0_ := Aside0.mk (Kd.S_below (by (with_reducible repeat (first | apply Kd.S_alloc | apply Kd.S_drewN | apply Kd.S_drew)); exact HO357.out) hb); have n1_ := Aside0.mk (Kd.S_below (by (with_reducible repeat (first | apply Kd.S_alloc | apply Kd.S_drewN | apply Kd.S_drew)); exact HO361.out) hb); have n2_ := Aside0.mk (below_step (by repeat (first | (with_reducible first | exact HB.out | apply below_alloc | apply pw_below_drewN | apply below_drew1) | exact HB.out)) hb); clear HO357; clear HO361; clear HB; have HO357 := n0_; have HO361 := n1_; have HB := n2_; clear n0_ n1_ n2_; (try clear hb); (try clear hb2); (try clear hk); (try clear hi)))
    go_ret
    exact ⟨by first | rfl | (simp <;> rfl) | (simp [*] <;> rfl), by repeat (first | (with_reducible first | exact HB.out | apply below_alloc | apply pw_below_drewN | apply below_drew1) | exact HB.out)⟩
   ·
    rw [if_neg c11] at H
    have c11b0 : (t355 == t359) = false := beq_eq_false_iff_ne.mpr c11
    have c11b1 : (t355 != t359) = true := bne_iff_ne.mpr c11
    obtain rfl := Option.some.inj H
    go_wp2_with (first | ((with_reducible refine gate_callee (f := 10) rfl ?_); refine goesL_ (some 12) rfl rfl Try.func10 (by kernel_rfl) rfl #[.slice A0 l0.length c0] rfl (by (try simp only [List.map_toArray, List.map_cons, List.map_nil]); first | done | rfl | (simp only [List.length_drop, List.length_take]; rfl)) ?_; (with_reducible refine (calls_Parts.calls _ _ l0 t354 t355 _ ?side1 ?side2 A7.out).mono ?_); (case side1 => repeat (first | exact (Kd.C_below HR0.out HB.out) | (with_reducible refine Kd.C_alloc ?_ _) | (with_reducible refine Kd.C_drewN ?_ _) | (with_reducible refine Kd.C_drew ?_))); (case side2 => exact HC0.out); rintro e w18 ⟨v356, rfl, ho0, hb⟩; refine ⟨_, rfl, ?_⟩; have n0_ := Aside0.mk (Kd.S_lower ho0 (below_size (by repeat (first | (with_reducible first | exact HB.out | apply below_alloc | apply pw_below_drewN | apply below_drew1) | exact HB.out)))); have n1_ := Aside0.mk (below_step (by repeat (first | (with_reducible first | exact HB.out | apply below_alloc | apply pw_below_drewN | apply below_drew1) | exact HB.out)) hb); clear HB; have HO357 := n0_; have HB := n1_; clear n0_ n1_; (try clear hb); (try clear hb2); (try clear hk); (try clear hi); (try clear ho0)) | ((with_reducible refine gate_callee (f := 11) rfl ?_); refine goesL_ (some 17) rfl rfl Try.func11 (by kernel_rfl) rfl #[.slice A0 l0.length c0] rfl (by (try simp only [List.map_toArray, List.map_cons, List.map_nil]); first | done | rfl | (simp only [List.length_drop, List.length_take]; rfl)) ?_; (with_reducible refine (smithyref19_Parts.calls k _ _ l0 t358 t359 _ ?side1 ?side2 A8.out).mono ?_); (case side1 => repeat (first | exact (Kd.C_below HR0.out HB.out) | (with_reducible refine Kd.C_alloc ?_ _) | (with_reducible refine Kd.C_drewN ?_ _) | (with_reducible refine Kd.C_drew ?_))); (case side2 => exact HC0.out); rintro e w19 ⟨v360, rfl, ho0, hb⟩; refine ⟨_, rfl, ?_⟩; have n0_ := Aside0.mk (Kd.S_elder' (by (with_reducible repeat (first | apply Kd.S_alloc | apply Kd.S_drewN | apply Kd.S_drew)); exact HO357.out) (Kd.S_base ho0) hb); have n1_ := Aside0.mk (Kd.S_lower (Kd.S_new' ho0 (Kd.S_lt (by (with_reducible repeat (first | apply Kd.S_alloc | apply Kd.S_drewN | apply Kd.S_drew)); exact HO357.out))) (below_size (by repeat (first | (with_reducible first | exact HB.out | apply below_alloc | apply pw_below_drewN | apply below_drew1) | exact HB.out)))); have n2_ := Aside0.mk (below_step (by repeat (first | (with_reducible first | exact HB.out | apply below_alloc | apply pw_below_drewN | apply below_drew1) | exact HB.out)) hb); clear HO357; clear HB; have HO357 := n0_; have HO361 := n1_; have HB := n2_; clear n0_ n1_ n2_; (try clear hb); (try clear hb2); (try clear hk); (try clear hi); (try clear ho0); obtain ⟨Ao20, co20, eo20⟩ := Kd.S_slice HO357.out; subst eo20; obtain ⟨Ao21, co21, eo21⟩ := Kd.S_slice HO361.out; subst eo21) | ((with_reducible refine gate_callee (f := 12) rfl ?_); refine goesL_ (some 22) rfl rfl Try.func12 (by kernel_rfl) rfl #[.slice Ao20 t354.length co20, .slice Ao21 t358.length co21] rfl (by (try simp only [List.map_toArray, List.map_cons, List.map_nil]); first | done | rfl | (simp only [List.length_drop, List.length_take]; rfl)) ?_; (with_reducible refine (smithykit_SameRows.calls k _ _ t354 _ _ t358 true _ ?side1 ?side2 ?side3 ?side4 A9.out).mono ?_); (case side1 => repeat (first | exact (Kd.S_reads' HO357.out).2.2 | (with_reducible refine Kd.C_alloc ?_ _) | (with_reducible refine Kd.C_drewN ?_ _) | (with_reducible refine Kd.C_drew ?_))); (case side2 => exact (Kd.S_reads' HO357.out).2.1); (case side3 => repeat (first | exact (Kd.S_reads' HO361.out).2.2 | (with_reducible refine Kd.C_alloc ?_ _) | (with_reducible refine Kd.C_drewN ?_ _) | (with_reducible refine Kd.C_drew ?_))); (case side4 => exact (Kd.S_reads' HO361.out).2.1); rintro e w' ⟨rfl, ⟨nd, rfl⟩⟩; refine ⟨_, rfl, ?_⟩))
    go_ret
    exact ⟨by first | rfl | (simp <;> rfl) | (simp [*] <;> rfl), by repeat (first | (with_reducible first | exact HB.out | apply below_alloc | apply pw_below_drewN | apply below_drew1) | exact HB.out)⟩
  ·
   replace c10 := Bool.eq_false_iff.mpr c10
   subst c10
   have H1 : (some false) = some r := by rw [if_neg (show ¬ (false = true) by decide)] at H; exact H
   clear H
   have H := H1
   clear H1
   obtain rfl := Option.some.inj H
   go_wp2_with (first | ((with_reducible refine gate_callee (f := 10) rfl ?_); refine goesL_ (some 12) rfl rfl Try.func10 (by kernel_rfl) rfl #[.slice A0 l0.length c0] rfl (by (try simp only [List.map_toArray, List.map_cons, List.map_nil]); first | done | rfl | (simp only [List.length_drop, List.length_take]; rfl)) ?_; (with_reducible refine (calls_Parts.calls _ _ l0 t354 t355 _ ?side1 ?side2 A7.out).mono ?_); (case side1 => repeat (first | exact (Kd.C_below HR0.out HB.out) | (with_reducible refine Kd.C_alloc ?_ _) | (with_reducible refine Kd.C_drewN ?_ _) | (with_reducible refine Kd.C_drew ?_))); (case side2 => exact HC0.out); rintro e w22 ⟨v356, rfl, ho0, hb⟩; refine ⟨_, rfl, ?_⟩; have n0_ := Aside0.mk (Kd.S_lower ho0 (below_size (by repeat (first | (with_reducible first | exact HB.out | apply below_alloc | apply pw_below_drewN | apply below_drew1) | exact HB.out)))); have n1_ := Aside0.mk (below_step (by repeat (first | (with_reducible first | exact HB.out | apply below_alloc | apply pw_below_drewN | apply below_drew1) | exact HB.out)) hb); clear HB; have HO357 := n0_; have HB := n1_; clear n0_ n1_; (try clear hb); (try clear hb2); (try clear hk); (try clear hi); (try clear ho0)) | ((with_reducible refine gate_callee (f := 11) rfl ?_); refine goesL_ (some 17) rfl rfl Try.func11 (by kernel_rfl) rfl #[.slice A0 l0.length c0] rfl (by (try simp only [List.map_toArray, List.map_cons, List.map_nil]); first | done | rfl | (simp only [List.length_drop, List.length_take]; rfl)) ?_; (with_reducible refine (smithyref19_Parts.calls k _ _ l0 t358 t359 _ ?side1 ?side2 A8.out).mono ?_); (case side1 => repeat (first | exact (Kd.C_below HR0.out HB.out) | (with_reducible refine Kd.C_alloc ?_ _) | (with_reducible refine Kd.C_drewN ?_ _) | (with_reducible refine Kd.C_drew ?_))); (case side2 => exact HC0.out); rintro e w23 ⟨v360, rfl, ho0, hb⟩; refine ⟨_, rfl, ?_⟩; have n0_ := Aside0.mk (Kd.S_elder' (by (with_reducible repeat (first | apply Kd.S_alloc | apply Kd.S_drewN | apply Kd.S_drew)); exact HO357.out) (Kd.S_base ho0) hb); have n1_ := Aside0.mk (Kd.S_lower (Kd.S_new' ho0 (Kd.S_lt (by (with_reducible repeat (first | apply Kd.S_alloc | apply Kd.S_drewN | apply Kd.S_drew)); exact HO357.out))) (below_size (by repeat (first | (with_reducible first | exact HB.out | apply below_alloc | apply pw_below_drewN | apply below_drew1) | exact HB.out)))); have n2_ := Aside0.mk (below_step (by repeat (first | (with_reducible first | exact HB.out | apply below_alloc | apply pw_below_drewN | apply below_drew1) | exact HB.out)) hb); clear HO357; clear HB; have HO357 := n0_; have HO361 := n1_; have HB := n2_; clear n0_ n1_ n2_; (try clear hb); (try clear hb2); (try clear hk); (try clear hi); (try clear ho0); obtain ⟨Ao24, co24, eo24⟩ := Kd.S_slice HO357.out; subst eo24; obtain ⟨Ao25, co25, eo25⟩ := Kd.S_slice HO361.out; subst eo25) | ((with_reducible refine gate_callee (f := 12) rfl ?_); refine goesL_ (some 22) rfl rfl Try.func12 (by kernel_rfl) rfl #[.slice Ao24 t354.length co24, .slice Ao25 t358.length co25] rfl (by (try simp only [List.map_toArray, List.map_cons, List.map_nil]); first | done | rfl | (simp only [List.length_drop, List.length_take]; rfl)) ?_; (with_reducible refine (smithykit_SameRows.calls k _ _ t354 _ _ t358 false _ ?side1 ?side2 ?side3 ?side4 A9.out).mono ?_); (case side1 => repeat (first | exact (Kd.S_reads' HO357.out).2.2 | (with_reducible refine Kd.C_alloc ?_ _) | (with_reducible refine Kd.C_drewN ?_ _) | (with_reducible refine Kd.C_drew ?_))); (case side2 => exact (Kd.S_reads' HO357.out).2.1); (case side3 => repeat (first | exact (Kd.S_reads' HO361.out).2.2 | (with_reducible refine Kd.C_alloc ?_ _) | (with_reducible refine Kd.C_drewN ?_ _) | (with_reducible refine Kd.C_drew ?_))); (case side4 => exact (Kd.S_reads' HO361.out).2.1); rintro e w' ⟨rfl, ⟨nd, rfl⟩⟩; refine ⟨_, rfl, ?_⟩))
   go_ret
   exact ⟨by first | rfl | (simp <;> rfl) | (simp [*] <;> rfl), by repeat (first | (with_reducible first | exact HB.out | apply below_alloc | apply pw_below_drewN | apply below_drew1) | exact HB.out)⟩

/-! ### lawCalled: function 4 -/
def lawCalled.f (k : Nat) (l0 : List (S42)) : Option (Bool) := (smithylaw19_wide.f k l0).bind fun t362 => (if t362 = true then ((smithylaw19_awake.f).bind fun t363 => (some t363)) else ((calls_Called.f l0).bind fun t364 => ((smithyref19_Called.f l0).bind fun t367 => ((smithykit_SameRows.f k t364 t367).bind fun t370 => (if t370 = true then ((calls_Round.f l0).bind fun t371 => ((smithyref19_Round.f k l0).bind fun t374 => ((smithykit_SameTruths.f k t371 t374).bind fun t377 => (if t377 = true then ((smithylaw19_awake.f).bind fun t378 => (some t378)) else (some false))))) else (some false))))))
theorem lawCalled.mono : ∀ a0 k, LeO (lawCalled.f k a0) (lawCalled.f (k + 1) a0) := by
  intro a0 k
  unfold lawCalled.f
  repeat' first
      | (with_reducible exact smithykit_SameRows.mono _ _ _)
      | (with_reducible exact smithykit_SameTruths.mono _ _ _)
      | (with_reducible exact smithylaw19_wide.mono _ _)
      | (with_reducible exact smithyref19_Round.mono _ _)
      | (with_reducible exact LeO.refl _)
      | (with_reducible exact LeO.none _)
      | (with_reducible refine LeO.ite ?_ ?_)
      | (with_reducible refine LeO.bind ?_ (fun _ => ?_))
      | exact smithykit_SameRows.mono _ _ _
      | exact smithykit_SameTruths.mono _ _ _
      | exact smithylaw19_wide.mono _ _
      | exact smithyref19_Round.mono _ _
      | exact LeO.none _
      | refine LeO.ite ?_ ?_
      | refine LeO.bind ?_ (fun _ => ?_)
set_option maxHeartbeats 8000000 in
set_option maxRecDepth 100000 in
theorem lawCalled.calls (k : Nat) (A0 : Option Addr) (c0 : Nat) (l0 : List (S42)) (r : Bool) (w : World) (hr0 : Kd.C k42 w A0 l0.length l0) (hc0 : l0.length ≤ c0) (h : lawCalled.f k l0 = some r) :
    Calls Try.prog 4 #[.slice A0 l0.length c0] w fun e w' => e = .returned (.bool r) ∧ Below w.heap.size w w' := by
 have HR0 := Aside0.mk hr0
 have HC0 := Aside0.mk hc0
 clear hr0 hc0
 have HB := Aside0.mk (Below.refl w.heap.size w)
 have H : ((smithylaw19_wide.f k l0).bind fun t362 => (if t362 = true then ((smithylaw19_awake.f).bind fun t363 => (some t363)) else ((calls_Called.f l0).bind fun t364 => ((smithyref19_Called.f l0).bind fun t367 => ((smithykit_SameRows.f k t364 t367).bind fun t370 => (if t370 = true then ((calls_Round.f l0).bind fun t371 => ((smithyref19_Round.f k l0).bind fun t374 => ((smithykit_SameTruths.f k t371 t374).bind fun t377 => (if t377 = true then ((smithylaw19_awake.f).bind fun t378 => (some t378)) else (some false))))) else (some false))))))) = some r := h
 clear h
 replace H := Option.bind_eq_some_iff.mp H
 obtain ⟨t362, A20, H⟩ := H
 replace H : (if t362 = true then ((smithylaw19_awake.f).bind fun t363 => (some t363)) else ((calls_Called.f l0).bind fun t364 => ((smithyref19_Called.f l0).bind fun t367 => ((smithykit_SameRows.f k t364 t367).bind fun t370 => (if t370 = true then ((calls_Round.f l0).bind fun t371 => ((smithyref19_Round.f k l0).bind fun t374 => ((smithykit_SameTruths.f k t371 t374).bind fun t377 => (if t377 = true then ((smithylaw19_awake.f).bind fun t378 => (some t378)) else (some false))))) else (some false)))))) = some r := H
 have A2 := Aside0.mk A20
 clear A20
 have HF3 := Aside0.mk H
 clear H
 go_enter Try.func4, Try.ntmps4
 go_upto_if 4 with (first | ((with_reducible refine gate_callee (f := 13) rfl ?_); refine goesL_ (some 4) rfl rfl Try.func13 (by kernel_rfl) rfl #[.slice A0 l0.length c0] rfl (by (try simp only [List.map_toArray, List.map_cons, List.map_nil]); first | done | rfl | (simp only [List.length_drop, List.length_take]; rfl)) ?_; (with_reducible refine (smithylaw19_wide.calls k _ _ l0 t362 _ ?side1 ?side2 A2.out).mono ?_); (case side1 => repeat (first | exact HR0.out | (with_reducible refine Kd.C_alloc ?_ _) | (with_reducible refine Kd.C_drewN ?_ _) | (with_reducible refine Kd.C_drew ?_))); (case side2 => exact HC0.out); rintro e w' ⟨rfl, ⟨nd, rfl⟩⟩; refine ⟨_, rfl, ?_⟩))
 (try simp only [Act.put, List.setIfInBounds_toArray, List.set_cons_zero, List.set_cons_succ])
 have H := HF3.out
 clear HF3
 by_cases c4 : t362 = true
 ·
  subst c4
  have H1 : ((smithylaw19_awake.f).bind fun t363 => (some t363)) = some r := by rw [if_pos rfl] at H; exact H
  clear H
  have H := H1
  clear H1
  replace H := Option.bind_eq_some_iff.mp H
  obtain ⟨t363, A50, H⟩ := H
  replace H : (some t363) = some r := H
  have A5 := Aside0.mk A50
  clear A50
  obtain rfl := Option.some.inj H
  go_wp2_with (first | ((with_reducible refine gate_callee (f := 9) rfl ?_); refine goesL_ (some 5) rfl rfl Try.func9 (by kernel_rfl) rfl #[] rfl (by (try simp only [List.map_toArray, List.map_cons, List.map_nil]); first | done | rfl | (simp only [List.length_drop, List.length_take]; rfl)) ?_; (with_reducible refine (smithylaw19_awake.calls  t363 _ A5.out).mono ?_); rintro e w6 ⟨rfl, hb⟩; refine ⟨_, rfl, ?_⟩; have n0_ := Aside0.mk (below_step (by repeat (first | (with_reducible first | exact HB.out | apply below_alloc | apply pw_below_drewN | apply below_drew1) | exact HB.out)) hb); clear HB; have HB := n0_; clear n0_; (try clear hb); (try clear hb2); (try clear hk); (try clear hi)))
  go_ret
  exact ⟨by first | rfl | (simp <;> rfl) | (simp [*] <;> rfl), by repeat (first | (with_reducible first | exact HB.out | apply below_alloc | apply pw_below_drewN | apply below_drew1) | exact HB.out)⟩
 ·
  replace c4 := Bool.eq_false_iff.mpr c4
  subst c4
  have H1 : ((calls_Called.f l0).bind fun t364 => ((smithyref19_Called.f l0).bind fun t367 => ((smithykit_SameRows.f k t364 t367).bind fun t370 => (if t370 = true then ((calls_Round.f l0).bind fun t371 => ((smithyref19_Round.f k l0).bind fun t374 => ((smithykit_SameTruths.f k t371 t374).bind fun t377 => (if t377 = true then ((smithylaw19_awake.f).bind fun t378 => (some t378)) else (some false))))) else (some false))))) = some r := by rw [if_neg (show ¬ (false = true) by decide)] at H; exact H
  clear H
  have H := H1
  clear H1
  replace H := Option.bind_eq_some_iff.mp H
  obtain ⟨t364, A70, H⟩ := H
  replace H : ((smithyref19_Called.f l0).bind fun t367 => ((smithykit_SameRows.f k t364 t367).bind fun t370 => (if t370 = true then ((calls_Round.f l0).bind fun t371 => ((smithyref19_Round.f k l0).bind fun t374 => ((smithykit_SameTruths.f k t371 t374).bind fun t377 => (if t377 = true then ((smithylaw19_awake.f).bind fun t378 => (some t378)) else (some false))))) else (some false)))) = some r := H
  have A7 := Aside0.mk A70
  clear A70
  replace H := Option.bind_eq_some_iff.mp H
  obtain ⟨t367, A80, H⟩ := H
  replace H : ((smithykit_SameRows.f k t364 t367).bind fun t370 => (if t370 = true then ((calls_Round.f l0).bind fun t371 => ((smithyref19_Round.f k l0).bind fun t374 => ((smithykit_SameTruths.f k t371 t374).bind fun t377 => (if t377 = true then ((smithylaw19_awake.f).bind fun t378 => (some t378)) else (some false))))) else (some false))) = some r := H
  have A8 := Aside0.mk A80
  clear A80
  replace H := Option.bind_eq_some_iff.mp H
  obtain ⟨t370, A90, H⟩ := H
  replace H : (if t370 = true then ((calls_Round.f l0).bind fun t371 => ((smithyref19_Round.f k l0).bind fun t374 => ((smithykit_SameTruths.f k t371 t374).bind fun t377 => (if t377 = true then ((smithylaw19_awake.f).bind fun t378 => (some t378)) else (some false))))) else (some false)) = some r := H
  have A9 := Aside0.mk A90
  clear A90
  by_cases c10 : t370 = true
  ·
   subst c10
   have H1 : ((calls_Round.f l0).bind fun t371 => ((smithyref19_Round.f k l0).bind fun t374 => ((smithykit_SameTruths.f k t371 t374).bind fun t377 => (if t377 = true then ((smithylaw19_awake.f).bind fun t378 => (some t378)) else (some false))))) = some r := by rw [if_pos rfl] at H; exact H
   clear H
   have H := H1
   clear H1
   replace H := Option.bind_eq_some_iff.mp H
   obtain ⟨t371, A110, H⟩ := H
   replace H : ((smithyref19_Round.f k l0).bind fun t374 => ((smithykit_SameTruths.f k t371 t374).bind fun t377 => (if t377 = true then ((smithylaw19_awake.f).bind fun t378 => (some t378)) else (some false)))) = some r := H
   have A11 := Aside0.mk A110
   clear A110
   replace H := Option.bind_eq_some_iff.mp H
   obtain ⟨t374, A120, H⟩ := H
   replace H : ((smithykit_SameTruths.f k t371 t374).bind fun t377 => (if t377 = true then ((smithylaw19_awake.f).bind fun t378 => (some t378)) else (some false))) = some r := H
   have A12 := Aside0.mk A120
   clear A120
   replace H := Option.bind_eq_some_iff.mp H
   obtain ⟨t377, A130, H⟩ := H
   replace H : (if t377 = true then ((smithylaw19_awake.f).bind fun t378 => (some t378)) else (some false)) = some r := H
   have A13 := Aside0.mk A130
   clear A130
   by_cases c14 : t377 = true
   ·
    subst c14
    have H1 : ((smithylaw19_awake.f).bind fun t378 => (some t378)) = some r := by rw [if_pos rfl] at H; exact H
    clear H
    have H := H1
    clear H1
    replace H := Option.bind_eq_some_iff.mp H
    obtain ⟨t378, A150, H⟩ := H
    replace H : (some t378) = some r := H
    have A15 := Aside0.mk A150
    clear A150
    obtain rfl := Option.some.inj H
    go_wp2_with (first | ((with_reducible refine gate_callee (f := 14) rfl ?_); refine goesL_ (some 7) rfl rfl Try.func14 (by kernel_rfl) rfl #[.slice A0 l0.length c0] rfl (by (try simp only [List.map_toArray, List.map_cons, List.map_nil]); first | done | rfl | (simp only [List.length_drop, List.length_take]; rfl)) ?_; (with_reducible refine (calls_Called.calls _ _ l0 t364 _ ?side1 ?side2 A7.out).mono ?_); (case side1 => repeat (first | exact (Kd.C_below HR0.out HB.out) | (with_reducible refine Kd.C_alloc ?_ _) | (with_reducible refine Kd.C_drewN ?_ _) | (with_reducible refine Kd.C_drew ?_))); (case side2 => exact HC0.out); rintro e w16 ⟨v365, rfl, ho0, hb⟩; refine ⟨_, rfl, ?_⟩; have n0_ := Aside0.mk (Kd.S_lower ho0 (below_size (by repeat (first | (with_reducible first | exact HB.out | apply below_alloc | apply pw_below_drewN | apply below_drew1) | exact HB.out)))); have n1_ := Aside0.mk (below_step (by repeat (first | (with_reducible first | exact HB.out | apply below_alloc | apply pw_below_drewN | apply below_drew1) | exact HB.out)) hb); clear HB; have HO366 := n0_; have HB := n1_; clear n0_ n1_; (try clear hb); (try clear hb2); (try clear hk); (try clear hi); (try clear ho0)) | ((with_reducible refine gate_callee (f := 15) rfl ?_); refine goesL_ (some 9) rfl rfl Try.func15 (by kernel_rfl) rfl #[.slice A0 l0.length c0] rfl (by (try simp only [List.map_toArray, List.map_cons, List.map_nil]); first | done | rfl | (simp only [List.length_drop, List.length_take]; rfl)) ?_; (with_reducible refine (smithyref19_Called.calls _ _ l0 t367 _ ?side1 ?side2 A8.out).mono ?_); (case side1 => repeat (first | exact (Kd.C_below HR0.out HB.out) | (with_reducible refine Kd.C_alloc ?_ _) | (with_reducible refine Kd.C_drewN ?_ _) | (with_reducible refine Kd.C_drew ?_))); (case side2 => exact HC0.out); rintro e w17 ⟨v368, rfl, ho0, hb⟩; refine ⟨_, rfl, ?_⟩; have n0_ := Aside0.mk (Kd.S_elder' (by (with_reducible repeat (first | apply Kd.S_alloc | apply Kd.S_drewN | apply Kd.S_drew)); exact HO366.out) (Kd.S_base ho0) hb); have n1_ := Aside0.mk (Kd.S_lower (Kd.S_new' ho0 (Kd.S_lt (by (with_reducible repeat (first | apply Kd.S_alloc | apply Kd.S_drewN | apply Kd.S_drew)); exact HO366.out))) (below_size (by repeat (first | (with_reducible first | exact HB.out | apply below_alloc | apply pw_below_drewN | apply below_drew1) | exact HB.out)))); have n2_ := Aside0.mk (below_step (by repeat (first | (with_reducible first | exact HB.out | apply below_alloc | apply pw_below_drewN | apply below_drew1) | exact HB.out)) hb); clear HO366; clear HB; have HO366 := n0_; have HO369 := n1_; have HB := n2_; clear n0_ n1_ n2_; (try clear hb); (try clear hb2); (try clear hk); (try clear hi); (try clear ho0); obtain ⟨Ao18, co18, eo18⟩ := Kd.S_slice HO366.out; subst eo18; obtain ⟨Ao19, co19, eo19⟩ := Kd.S_slice HO369.out; subst eo19) | ((with_reducible refine gate_callee (f := 12) rfl ?_); refine goesL_ (some 10) rfl rfl Try.func12 (by kernel_rfl) rfl #[.slice Ao18 t364.length co18, .slice Ao19 t367.length co19] rfl (by (try simp only [List.map_toArray, List.map_cons, List.map_nil]); first | done | rfl | (simp only [List.length_drop, List.length_take]; rfl)) ?_; (with_reducible refine (smithykit_SameRows.calls k _ _ t364 _ _ t367 true _ ?side1 ?side2 ?side3 ?side4 A9.out).mono ?_); (case side1 => repeat (first | exact (Kd.S_reads' HO366.out).2.2 | (with_reducible refine Kd.C_alloc ?_ _) | (with_reducible refine Kd.C_drewN ?_ _) | (with_reducible refine Kd.C_drew ?_))); (case side2 => exact (Kd.S_reads' HO366.out).2.1); (case side3 => repeat (first | exact (Kd.S_reads' HO369.out).2.2 | (with_reducible refine Kd.C_alloc ?_ _) | (with_reducible refine Kd.C_drewN ?_ _) | (with_reducible refine Kd.C_drew ?_))); (case side4 => exact (Kd.S_reads' HO369.out).2.1); rintro e w' ⟨rfl, ⟨nd, rfl⟩⟩; refine ⟨_, rfl, ?_⟩) | (go_at_call 17; (with_reducible refine (calls_Round.calls _ _ l0 t371 _ ?side1 ?side2 A11.out).mono ?_); (case side1 => repeat (first | exact (Kd.C_below HR0.out (by repeat (first | (with_reducible first | exact HB.out | apply below_alloc | apply pw_below_drewN | apply below_drew1) | exact HB.out))) | (with_reducible refine Kd.C_alloc ?_ _) | (with_reducible refine Kd.C_drewN ?_ _) | (with_reducible refine Kd.C_drew ?_))); (case side2 => exact HC0.out); rintro e w20 ⟨v372, rfl, ho0, hb⟩; have n0_ := Aside0.mk (Kd.S_below (by (with_reducible repeat (first | apply Kd.S_alloc | apply Kd.S_drewN | apply Kd.S_drew)); exact HO366.out) hb); have n1_ := Aside0.mk (Kd.S_below (by (with_reducible repeat (first | apply Kd.S_alloc | apply Kd.S_drewN | apply Kd.S_drew)); exact HO369.out) hb); have n2_ := Aside0.mk (Kd.R_lower ho0 (below_size (by repeat (first | (with_reducible first | exact HB.out | apply below_alloc | apply pw_below_drewN | apply below_drew1) | exact HB.out)))); have n3_ := Aside0.mk (below_step (by repeat (first | (with_reducible first | exact HB.out | apply below_alloc | apply pw_below_drewN | apply below_drew1) | exact HB.out)) hb); clear HO366; clear HO369; clear HB; have HO366 := n0_; have HO369 := n1_; have HO373 := n2_; have HB := n3_; clear n0_ n1_ n2_ n3_; (try clear hb); (try clear hb2); (try clear hk); (try clear hi); (try clear ho0)) | (go_at_call 18; (with_reducible refine (smithyref19_Round.calls k _ _ l0 t374 _ ?side1 ?side2 A12.out).mono ?_); (case side1 => repeat (first | exact (Kd.C_below HR0.out HB.out) | (with_reducible refine Kd.C_alloc ?_ _) | (with_reducible refine Kd.C_drewN ?_ _) | (with_reducible refine Kd.C_drew ?_))); (case side2 => exact HC0.out); rintro e w21 ⟨v375, rfl, ho0, hb⟩; have n0_ := Aside0.mk (Kd.S_below (by (with_reducible repeat (first | apply Kd.S_alloc | apply Kd.S_drewN | apply Kd.S_drew)); exact HO366.out) hb); have n1_ := Aside0.mk (Kd.S_below (by (with_reducible repeat (first | apply Kd.S_alloc | apply Kd.S_drewN | apply Kd.S_drew)); exact HO369.out) hb); have n2_ := Aside0.mk (Kd.R_elder' (by (with_reducible repeat (first | apply Kd.R_alloc | apply Kd.R_drewN | apply Kd.R_drew)); exact HO373.out) (Kd.R_base ho0) hb); have n3_ := Aside0.mk (Kd.R_lower (Kd.R_new' ho0 (Kd.R_lt (by (with_reducible repeat (first | apply Kd.R_alloc | apply Kd.R_drewN | apply Kd.R_drew)); exact HO373.out))) (below_size (by repeat (first | (with_reducible first | exact HB.out | apply below_alloc | apply pw_below_drewN | apply below_drew1) | exact HB.out)))); have n4_ := Aside0.mk (below_step (by repeat (first | (with_reducible first | exact HB.out | apply below_alloc | apply pw_below_drewN | apply below_drew1) | exact HB.out)) hb); clear HO366; clear HO369; clear HO373; clear HB; have HO366 := n0_; have HO369 := n1_; have HO373 := n2_; have HO376 := n3_; have HB := n4_; clear n0_ n1_ n2_ n3_ n4_; (try clear hb); (try clear hb2); (try clear hk); (try clear hi); (try clear ho0); obtain ⟨Ao22, co22, eo22⟩ := Kd.R_slice HO373.out; subst eo22; obtain ⟨Ao23, co23, eo23⟩ := Kd.R_slice HO376.out; subst eo23) | (go_at_call 16; (with_reducible refine (smithykit_SameTruths.calls k _ _ t371 _ _ t374 true _ ?side1 ?side2 ?side3 ?side4 A13.out).mono ?_); (case side1 => repeat (first | exact (Kd.R_reads' HO373.out).2.2 | (with_reducible refine Kd.C_alloc ?_ _) | (with_reducible refine Kd.C_drewN ?_ _) | (with_reducible refine Kd.C_drew ?_))); (case side2 => exact (Kd.R_reads' HO373.out).2.1); (case side3 => repeat (first | exact (Kd.R_reads' HO376.out).2.2 | (with_reducible refine Kd.C_alloc ?_ _) | (with_reducible refine Kd.C_drewN ?_ _) | (with_reducible refine Kd.C_drew ?_))); (case side4 => exact (Kd.R_reads' HO376.out).2.1); rintro e w' ⟨rfl, ⟨nd, rfl⟩⟩) | (go_at_call 9; (with_reducible refine (smithylaw19_awake.calls  t378 _ A15.out).mono ?_); rintro e w24 ⟨rfl, hb⟩; have n0_ := Aside0.mk (Kd.S_below (by (with_reducible repeat (first | apply Kd.S_alloc | apply Kd.S_drewN | apply Kd.S_drew)); exact HO366.out) hb); have n1_ := Aside0.mk (Kd.S_below (by (with_reducible repeat (first | apply Kd.S_alloc | apply Kd.S_drewN | apply Kd.S_drew)); exact HO369.out) hb); have n2_ := Aside0.mk (Kd.R_below (by (with_reducible repeat (first | apply Kd.R_alloc | apply Kd.R_drewN | apply Kd.R_drew)); exact HO373.out) hb); have n3_ := Aside0.mk (Kd.R_below (by (with_reducible repeat (first | apply Kd.R_alloc | apply Kd.R_drewN | apply Kd.R_drew)); exact HO376.out) hb); have n4_ := Aside0.mk (below_step (by repeat (first | (with_reducible first | exact HB.out | apply below_alloc | apply pw_below_drewN | apply below_drew1) | exact HB.out)) hb); clear HO366; clear HO369; clear HO373; clear HO376; clear HB; have HO366 := n0_; have HO369 := n1_; have HO373 := n2_; have HO376 := n3_; have HB := n4_; clear n0_ n1_ n2_ n3_ n4_; (try clear hb); (try clear hb2); (try clear hk); (try clear hi)))
    go_ret
    exact ⟨by first | rfl | (simp <;> rfl) | (simp [*] <;> rfl), by repeat (first | (with_reducible first | exact HB.out | apply below_alloc | apply pw_below_drewN | apply below_drew1) | exact HB.out)⟩
   ·
    replace c14 := Bool.eq_false_iff.mpr c14
    subst c14
    have H1 : (some false) = some r := by rw [if_neg (show ¬ (false = true) by decide)] at H; exact H
    clear H
    have H := H1
    clear H1
    obtain rfl := Option.some.inj H
    go_wp2_with (first | ((with_reducible refine gate_callee (f := 14) rfl ?_); refine goesL_ (some 7) rfl rfl Try.func14 (by kernel_rfl) rfl #[.slice A0 l0.length c0] rfl (by (try simp only [List.map_toArray, List.map_cons, List.map_nil]); first | done | rfl | (simp only [List.length_drop, List.length_take]; rfl)) ?_; (with_reducible refine (calls_Called.calls _ _ l0 t364 _ ?side1 ?side2 A7.out).mono ?_); (case side1 => repeat (first | exact (Kd.C_below HR0.out HB.out) | (with_reducible refine Kd.C_alloc ?_ _) | (with_reducible refine Kd.C_drewN ?_ _) | (with_reducible refine Kd.C_drew ?_))); (case side2 => exact HC0.out); rintro e w25 ⟨v365, rfl, ho0, hb⟩; refine ⟨_, rfl, ?_⟩; have n0_ := Aside0.mk (Kd.S_lower ho0 (below_size (by repeat (first | (with_reducible first | exact HB.out | apply below_alloc | apply pw_below_drewN | apply below_drew1) | exact HB.out)))); have n1_ := Aside0.mk (below_step (by repeat (first | (with_reducible first | exact HB.out | apply below_alloc | apply pw_below_drewN | apply below_drew1) | exact HB.out)) hb); clear HB; have HO366 := n0_; have HB := n1_; clear n0_ n1_; (try clear hb); (try clear hb2); (try clear hk); (try clear hi); (try clear ho0)) | ((with_reducible refine gate_callee (f := 15) rfl ?_); refine goesL_ (some 9) rfl rfl Try.func15 (by kernel_rfl) rfl #[.slice A0 l0.length c0] rfl (by (try simp only [List.map_toArray, List.map_cons, List.map_nil]); first | done | rfl | (simp only [List.length_drop, List.length_take]; rfl)) ?_; (with_reducible refine (smithyref19_Called.calls _ _ l0 t367 _ ?side1 ?side2 A8.out).mono ?_); (case side1 => repeat (first | exact (Kd.C_below HR0.out HB.out) | (with_reducible refine Kd.C_alloc ?_ _) | (with_reducible refine Kd.C_drewN ?_ _) | (with_reducible refine Kd.C_drew ?_))); (case side2 => exact HC0.out); rintro e w26 ⟨v368, rfl, ho0, hb⟩; refine ⟨_, rfl, ?_⟩; have n0_ := Aside0.mk (Kd.S_elder' (by (with_reducible repeat (first | apply Kd.S_alloc | apply Kd.S_drewN | apply Kd.S_drew)); exact HO366.out) (Kd.S_base ho0) hb); have n1_ := Aside0.mk (Kd.S_lower (Kd.S_new' ho0 (Kd.S_lt (by (with_reducible repeat (first | apply Kd.S_alloc | apply Kd.S_drewN | apply Kd.S_drew)); exact HO366.out))) (below_size (by repeat (first | (with_reducible first | exact HB.out | apply below_alloc | apply pw_below_drewN | apply below_drew1) | exact HB.out)))); have n2_ := Aside0.mk (below_step (by repeat (first | (with_reducible first | exact HB.out | apply below_alloc | apply pw_below_drewN | apply below_drew1) | exact HB.out)) hb); clear HO366; clear HB; have HO366 := n0_; have HO369 := n1_; have HB := n2_; clear n0_ n1_ n2_; (try clear hb); (try clear hb2); (try clear hk); (try clear hi); (try clear ho0); obtain ⟨Ao27, co27, eo27⟩ := Kd.S_slice HO366.out; subst eo27; obtain ⟨Ao28, co28, eo28⟩ := Kd.S_slice HO369.out; subst eo28) | ((with_reducible refine gate_callee (f := 12) rfl ?_); refine goesL_ (some 10) rfl rfl Try.func12 (by kernel_rfl) rfl #[.slice Ao27 t364.length co27, .slice Ao28 t367.length co28] rfl (by (try simp only [List.map_toArray, List.map_cons, List.map_nil]); first | done | rfl | (simp only [List.length_drop, List.length_take]; rfl)) ?_; (with_reducible refine (smithykit_SameRows.calls k _ _ t364 _ _ t367 true _ ?side1 ?side2 ?side3 ?side4 A9.out).mono ?_); (case side1 => repeat (first | exact (Kd.S_reads' HO366.out).2.2 | (with_reducible refine Kd.C_alloc ?_ _) | (with_reducible refine Kd.C_drewN ?_ _) | (with_reducible refine Kd.C_drew ?_))); (case side2 => exact (Kd.S_reads' HO366.out).2.1); (case side3 => repeat (first | exact (Kd.S_reads' HO369.out).2.2 | (with_reducible refine Kd.C_alloc ?_ _) | (with_reducible refine Kd.C_drewN ?_ _) | (with_reducible refine Kd.C_drew ?_))); (case side4 => exact (Kd.S_reads' HO369.out).2.1); rintro e w' ⟨rfl, ⟨nd, rfl⟩⟩; refine ⟨_, rfl, ?_⟩) | (go_at_call 17; (with_reducible refine (calls_Round.calls _ _ l0 t371 _ ?side1 ?side2 A11.out).mono ?_); (case side1 => repeat (first | exact (Kd.C_below HR0.out (by repeat (first | (with_reducible first | exact HB.out | apply below_alloc | apply pw_below_drewN | apply below_drew1) | exact HB.out))) | (with_reducible refine Kd.C_alloc ?_ _) | (with_reducible refine Kd.C_drewN ?_ _) | (with_reducible refine Kd.C_drew ?_))); (case side2 => exact HC0.out); rintro e w29 ⟨v372, rfl, ho0, hb⟩; have n0_ := Aside0.mk (Kd.S_below (by (with_reducible repeat (first | apply Kd.S_alloc | apply Kd.S_drewN | apply Kd.S_drew)); exact HO366.out) hb); have n1_ := Aside0.mk (Kd.S_below (by (with_reducible repeat (first | apply Kd.S_alloc | apply Kd.S_drewN | apply Kd.S_drew)); exact HO369.out) hb); have n2_ := Aside0.mk (Kd.R_lower ho0 (below_size (by repeat (first | (with_reducible first | exact HB.out | apply below_alloc | apply pw_below_drewN | apply below_drew1) | exact HB.out)))); have n3_ := Aside0.mk (below_step (by repeat (first | (with_reducible first | exact HB.out | apply below_alloc | apply pw_below_drewN | apply below_drew1) | exact HB.out)) hb); clear HO366; clear HO369; clear HB; have HO366 := n0_; have HO369 := n1_; have HO373 := n2_; have HB := n3_; clear n0_ n1_ n2_ n3_; (try clear hb); (try clear hb2); (try clear hk); (try clear hi); (try clear ho0)) | (go_at_call 18; (with_reducible refine (smithyref19_Round.calls k _ _ l0 t374 _ ?side1 ?side2 A12.out).mono ?_); (case side1 => repeat (first | exact (Kd.C_below HR0.out HB.out) | (with_reducible refine Kd.C_alloc ?_ _) | (with_reducible refine Kd.C_drewN ?_ _) | (with_reducible refine Kd.C_drew ?_))); (case side2 => exact HC0.out); rintro e w30 ⟨v375, rfl, ho0, hb⟩; have n0_ := Aside0.mk (Kd.S_below (by (with_reducible repeat (first | apply Kd.S_alloc | apply Kd.S_drewN | apply Kd.S_drew)); exact HO366.out) hb); have n1_ := Aside0.mk (Kd.S_below (by (with_reducible repeat (first | apply Kd.S_alloc | apply Kd.S_drewN | apply Kd.S_drew)); exact HO369.out) hb); have n2_ := Aside0.mk (Kd.R_elder' (by (with_reducible repeat (first | apply Kd.R_alloc | apply Kd.R_drewN | apply Kd.R_drew)); exact HO373.out) (Kd.R_base ho0) hb); have n3_ := Aside0.mk (Kd.R_lower (Kd.R_new' ho0 (Kd.R_lt (by (with_reducible repeat (first | apply Kd.R_alloc | apply Kd.R_drewN | apply Kd.R_drew)); exact HO373.out))) (below_size (by repeat (first | (with_reducible first | exact HB.out | apply below_alloc | apply pw_below_drewN | apply below_drew1) | exact HB.out)))); have n4_ := Aside0.mk (below_step (by repeat (first | (with_reducible first | exact HB.out | apply below_alloc | apply pw_below_drewN | apply below_drew1) | exact HB.out)) hb); clear HO366; clear HO369; clear HO373; clear HB; have HO366 := n0_; have HO369 := n1_; have HO373 := n2_; have HO376 := n3_; have HB := n4_; clear n0_ n1_ n2_ n3_ n4_; (try clear hb); (try clear hb2); (try clear hk); (try clear hi); (try clear ho0); obtain ⟨Ao31, co31, eo31⟩ := Kd.R_slice HO373.out; subst eo31; obtain ⟨Ao32, co32, eo32⟩ := Kd.R_slice HO376.out; subst eo32) | (go_at_call 16; (with_reducible refine (smithykit_SameTruths.calls k _ _ t371 _ _ t374 false _ ?side1 ?side2 ?side3 ?side4 A13.out).mono ?_); (case side1 => repeat (first | exact (Kd.R_reads' HO373.out).2.2 | (with_reducible refine Kd.C_alloc ?_ _) | (with_reducible refine Kd.C_drewN ?_ _) | (with_reducible refine Kd.C_drew ?_))); (case side2 => exact (Kd.R_reads' HO373.out).2.1); (case side3 => repeat (first | exact (Kd.R_reads' HO376.out).2.2 | (with_reducible refine Kd.C_alloc ?_ _) | (with_reducible refine Kd.C_drewN ?_ _) | (with_reducible refine Kd.C_drew ?_))); (case side4 => exact (Kd.R_reads' HO376.out).2.1); rintro e w' ⟨rfl, ⟨nd, rfl⟩⟩))
    go_ret
    exact ⟨by first | rfl | (simp <;> rfl) | (simp [*] <;> rfl), by repeat (first | (with_reducible first | exact HB.out | apply below_alloc | apply pw_below_drewN | apply below_drew1) | exact HB.out)⟩
  ·
   replace c10 := Bool.eq_false_iff.mpr c10
   subst c10
   have H1 : (some false) = some r := by rw [if_neg (show ¬ (false = true) by decide)] at H; exact H
   clear H
   have H := H1
   clear H1
   obtain rfl := Option.some.inj H
   go_wp2_with (first | ((with_reducible refine gate_callee (f := 14) rfl ?_); refine goesL_ (some 7) rfl rfl Try.func14 (by kernel_rfl) rfl #[.slice A0 l0.length c0] rfl (by (try simp only [List.map_toArray, List.map_cons, List.map_nil]); first | done | rfl | (simp only [List.length_drop, List.length_take]; rfl)) ?_; (with_reducible refine (calls_Called.calls _ _ l0 t364 _ ?side1 ?side2 A7.out).mono ?_); (case side1 => repeat (first | exact (Kd.C_below HR0.out HB.out) | (with_reducible refine Kd.C_alloc ?_ _) | (with_reducible refine Kd.C_drewN ?_ _) | (with_reducible refine Kd.C_drew ?_))); (case side2 => exact HC0.out); rintro e w33 ⟨v365, rfl, ho0, hb⟩; refine ⟨_, rfl, ?_⟩; have n0_ := Aside0.mk (Kd.S_lower ho0 (below_size (by repeat (first | (with_reducible first | exact HB.out | apply below_alloc | apply pw_below_drewN | apply below_drew1) | exact HB.out)))); have n1_ := Aside0.mk (below_step (by repeat (first | (with_reducible first | exact HB.out | apply below_alloc | apply pw_below_drewN | apply below_drew1) | exact HB.out)) hb); clear HB; have HO366 := n0_; have HB := n1_; clear n0_ n1_; (try clear hb); (try clear hb2); (try clear hk); (try clear hi); (try clear ho0)) | ((with_reducible refine gate_callee (f := 15) rfl ?_); refine goesL_ (some 9) rfl rfl Try.func15 (by kernel_rfl) rfl #[.slice A0 l0.length c0] rfl (by (try simp only [List.map_toArray, List.map_cons, List.map_nil]); first | done | rfl | (simp only [List.length_drop, List.length_take]; rfl)) ?_; (with_reducible refine (smithyref19_Called.calls _ _ l0 t367 _ ?side1 ?side2 A8.out).mono ?_); (case side1 => repeat (first | exact (Kd.C_below HR0.out HB.out) | (with_reducible refine Kd.C_alloc ?_ _) | (with_reducible refine Kd.C_drewN ?_ _) | (with_reducible refine Kd.C_drew ?_))); (case side2 => exact HC0.out); rintro e w34 ⟨v368, rfl, ho0, hb⟩; refine ⟨_, rfl, ?_⟩; have n0_ := Aside0.mk (Kd.S_elder' (by (with_reducible repeat (first | apply Kd.S_alloc | apply Kd.S_drewN | apply Kd.S_drew)); exact HO366.out) (Kd.S_base ho0) hb); have n1_ := Aside0.mk (Kd.S_lower (Kd.S_new' ho0 (Kd.S_lt (by (with_reducible repeat (first | apply Kd.S_alloc | apply Kd.S_drewN | apply Kd.S_drew)); exact HO366.out))) (below_size (by repeat (first | (with_reducible first | exact HB.out | apply below_alloc | apply pw_below_drewN | apply below_drew1) | exact HB.out)))); have n2_ := Aside0.mk (below_step (by repeat (first | (with_reducible first | exact HB.out | apply below_alloc | apply pw_below_drewN | apply below_drew1) | exact HB.out)) hb); clear HO366; clear HB; have HO366 := n0_; have HO369 := n1_; have HB := n2_; clear n0_ n1_ n2_; (try clear hb); (try clear hb2); (try clear hk); (try clear hi); (try clear ho0); obtain ⟨Ao35, co35, eo35⟩ := Kd.S_slice HO366.out; subst eo35; obtain ⟨Ao36, co36, eo36⟩ := Kd.S_slice HO369.out; subst eo36) | ((with_reducible refine gate_callee (f := 12) rfl ?_); refine goesL_ (some 10) rfl rfl Try.func12 (by kernel_rfl) rfl #[.slice Ao35 t364.length co35, .slice Ao36 t367.length co36] rfl (by (try simp only [List.map_toArray, List.map_cons, List.map_nil]); first | done | rfl | (simp only [List.length_drop, List.length_take]; rfl)) ?_; (with_reducible refine (smithykit_SameRows.calls k _ _ t364 _ _ t367 false _ ?side1 ?side2 ?side3 ?side4 A9.out).mono ?_); (case side1 => repeat (first | exact (Kd.S_reads' HO366.out).2.2 | (with_reducible refine Kd.C_alloc ?_ _) | (with_reducible refine Kd.C_drewN ?_ _) | (with_reducible refine Kd.C_drew ?_))); (case side2 => exact (Kd.S_reads' HO366.out).2.1); (case side3 => repeat (first | exact (Kd.S_reads' HO369.out).2.2 | (with_reducible refine Kd.C_alloc ?_ _) | (with_reducible refine Kd.C_drewN ?_ _) | (with_reducible refine Kd.C_drew ?_))); (case side4 => exact (Kd.S_reads' HO369.out).2.1); rintro e w' ⟨rfl, ⟨nd, rfl⟩⟩; refine ⟨_, rfl, ?_⟩))
   go_ret
   exact ⟨by first | rfl | (simp <;> rfl) | (simp [*] <;> rfl), by repeat (first | (with_reducible first | exact HB.out | apply below_alloc | apply pw_below_drewN | apply below_drew1) | exact HB.out)⟩

end Go.Proofs.Ytligpleningglaa.F
namespace Go.Proofs.Ytligpleningglaa.Cw
open Go Go.RowKit Go.Proofs.Ytligpleningglaa.Tarjan Go.Proofs.YtligpleningglaaW.PrintWords Go.Proofs.Ytligpleningglaa.F
set_option linter.unusedVariables false
set_option linter.unusedSimpArgs false
set_option linter.unusedSectionVars false
/-- with fuel enough. -/
def Ev {α : Type} (F : Nat → Option α) (r : α) : Prop := ∃ K, ∀ k, K ≤ k → F k = some r
theorem Ev.next {α : Type} {F G : Nat → Option α} {r : α} (h : Ev G r) (e : ∀ k, F (k + 1) = G k) : Ev F r := by
  obtain ⟨K, hK⟩ := h
  refine ⟨K + 1, fun k hk => ?_⟩
  obtain ⟨m, rfl⟩ : ∃ m, k = m + 1 := ⟨k - 1, by omega⟩
  rw [e]; exact hK m (by omega)
theorem Ev.now {α : Type} {F : Nat → Option α} {r : α} (e : ∀ k, F (k + 1) = some r) : Ev F r := by
  refine ⟨1, fun k hk => ?_⟩
  obtain ⟨m, rfl⟩ : ∃ m, k = m + 1 := ⟨k - 1, by omega⟩
  exact e m
theorem Ev.bind {α β : Type} {A : Nat → Option α} {B : α → Nat → Option β} {a : α} {r : β} (h : Ev A a) (g : Ev (B a) r) : Ev (fun k => (A k).bind fun x => B x k) r := by
  obtain ⟨K, hK⟩ := h
  obtain ⟨L, hL⟩ := g
  exact ⟨max K L, fun k hk => by
    show (A k).bind _ = _
    rw [hK k (by omega), Option.bind_some]; exact hL k (by omega)⟩
theorem Ev.same {α : Type} {F G : Nat → Option α} {r : α} (h : Ev G r) (e : ∀ k, F k = G k) : Ev F r := by
  obtain ⟨K, hK⟩ := h
  exact ⟨K, fun k hk => by rw [e]; exact hK k hk⟩
/-- the edges of a node, as they stand. -/
def es (l0 : List (List Int)) (v : Nat) : List Nat := (l0.getD v []).map Int.toNat
theorem row_at {l0 : List (List Int)} {v : Nat} : rd_L1 l0 (v : Int) = l0.getD v [] := by unfold rd_L1; rw [Int.toNat_natCast]
theorem row_len {l0 : List (List Int)} {v : Nat} : (rd_L1 l0 (v : Int)).length = (es l0 v).length := by rw [row_at]; unfold es; rw [List.length_map]
theorem okB_at {l0 : List (List Int)} (h : okB l0 = true) {v : Nat} {x : Int} (hx : x ∈ l0.getD v []) : 0 ≤ x ∧ x < (l0.length : Int) := by
  rw [List.getD_eq_getElem?_getD] at hx
  cases hv : l0[v]? with
  | none => rw [hv] at hx; cases hx
  | some l =>
    rw [hv] at hx
    have h1 := List.all_eq_true.1 (List.all_eq_true.1 h l (List.mem_of_getElem? hv)) x hx
    rw [Bool.and_eq_true, decide_eq_true_eq, decide_eq_true_eq] at h1
    exact h1
theorem edge_at {l0 : List (List Int)} (h : okB l0 = true) {v j : Nat} (hj : j < (es l0 v).length) : rd (rd_L1 l0 (v : Int)) (j : Int) = (((es l0 v)[j] : Nat) : Int) ∧ (es l0 v)[j] < l0.length := by
  have hj' : j < (l0.getD v []).length := by unfold es at hj; rwa [List.length_map] at hj
  have e : (es l0 v)[j] = ((l0.getD v [])[j]).toNat := List.getElem_map ..
  have h1 := okB_at h (List.getElem_mem hj')
  rw [e, row_at]
  unfold rd
  rw [Int.toNat_natCast, List.getD_eq_getElem?_getD, List.getElem?_eq_getElem hj']
  show (l0.getD v [])[j] = _ ∧ _
  omega
theorem es_lt {l0 : List (List Int)} (h : okB l0 = true) (v : Nat) : ∀ x ∈ es l0 v, x < l0.length := fun x hx => by
  obtain ⟨y, hy, rfl⟩ := List.mem_map.1 hx
  have := okB_at h hy
  omega
theorem w1_ {k : Nat} (h : k ≤ 17592186044416) : wrap64 ((k : Int) + 1) = ((k + 1 : Nat) : Int) := by unfold wrap64; omega
theorem great_ev {l0 : List (List Int)} (hN : l0.length ≤ 5864062014805) : ∃ b, Ev (fun k => smithylaw19_great.f k l0) b := by
  have key : ∀ d (x3 : Int) (j : Nat), j + d = l0.length → ∃ b, Ev (fun k => smithylaw19_great.l0 k l0 x3 (j : Int)) b := by
    intro d
    induction d with
    | zero =>
      intro x3 j hj
      refine ⟨_, Ev.now (r := if (l0.length : Int) > 120 then true else decide (x3 > 2400)) (fun k => ?_)⟩
      rw [smithylaw19_great.l0, if_neg (by omega)]
      split <;> rfl
    | succ d ih =>
      intro x3 j hj
      by_cases h : x3 ≤ 2400
      · obtain ⟨b, hb⟩ := ih (wrap64 (x3 + ((rd_L1 l0 (j : Int)).length : Int))) (j + 1) (by omega)
        refine ⟨b, Ev.next hb (fun k => ?_)⟩
        rw [smithylaw19_great.l0, if_pos (by omega), if_pos h, if_pos (by omega), w1_ (by omega)]
      · refine ⟨_, Ev.now (r := if (l0.length : Int) > 120 then true else decide (x3 > 2400)) (fun k => ?_)⟩
        rw [smithylaw19_great.l0, if_pos (by omega), if_neg h]
        split <;> rfl
  exact key l0.length _ 0 (by omega)
theorem wm_ {k : Nat} (h : k ≤ 17592186044416) : wrap64 (((k + 1 : Nat) : Int) - 1) = (k : Int) := w0_' h
where w0_' {k : Nat} (h : k ≤ 17592186044416) : wrap64 (((k + 1 : Nat) : Int) - 1) = (k : Int) := by unfold wrap64; omega
theorem has_ev (l : List Int) (x : Int) (hl : l.length ≤ 17592186044416) : Ev (fun k => smithyref19_has.f k l x) (l.contains x) := by
  have key : ∀ d j, j + d = l.length → Ev (fun k => smithyref19_has.l0 k l x (j : Int)) ((l.drop j).contains x) := by
    intro d
    induction d with
    | zero =>
      intro j hj
      rw [List.drop_of_length_le (by omega)]
      refine Ev.now (fun k => ?_)
      rw [smithyref19_has.l0, if_neg (by omega)]
      rfl
    | succ d ih =>
      intro j hj
      have hjl : j < l.length := by omega
      have hr : rd l (j : Int) = l[j] := by unfold rd; rw [Int.toNat_natCast, List.getD_eq_getElem?_getD, List.getElem?_eq_getElem hjl]; rfl
      rw [List.drop_eq_getElem_cons hjl, List.contains_cons]
      by_cases e : l[j] = x
      · have hb : (x == l[j]) = true := by simpa using e.symm
        rw [hb, Bool.true_or]
        refine Ev.now (fun k => ?_)
        rw [smithyref19_has.l0, if_pos (by omega), if_pos (by omega), hr, if_pos e]
      · have hb : (x == l[j]) = false := by simpa using fun h => e h.symm
        rw [hb, Bool.false_or]
        refine Ev.next (ih (j + 1) (by omega)) (fun k => ?_)
        rw [smithyref19_has.l0, if_pos (by omega), if_pos (by omega), hr, if_neg e, w1_ (by omega)]
  have := key l.length 0 (by omega)
  rw [List.drop_zero] at this
  exact this
theorem sameInts_ev (l : List Int) (hl : l.length ≤ 17592186044416) : Ev (fun k => smithykit_SameInts.f k l l) true := by
  have key : ∀ d j, j + d = l.length → Ev (fun k => smithykit_SameInts.l0 k l l (j : Int)) true := by
    intro d
    induction d with
    | zero =>
      intro j hj
      refine Ev.now (fun k => ?_)
      rw [smithykit_SameInts.l0, if_neg (by omega)]
    | succ d ih =>
      intro j hj
      refine Ev.next (ih (j + 1) (by omega)) (fun k => ?_)
      rw [smithykit_SameInts.l0, if_pos (by omega), if_pos (by omega), if_pos (by omega), if_pos rfl, w1_ (by omega)]
  exact Ev.same (key l.length 0 (by omega)) (fun k => by unfold smithykit_SameInts.f; rw [if_pos rfl]; rfl)
theorem sameRows_ev (l : List (List Int)) (hl : l.length ≤ 17592186044416) (hr : ∀ v : Nat, (rd_L1 l (v : Int)).length ≤ 17592186044416) : Ev (fun k => smithykit_SameRows.f k l l) true := by
  have key : ∀ d j, j + d = l.length → Ev (fun k => smithykit_SameRows.l0 k l l (j : Int)) true := by
    intro d
    induction d with
    | zero =>
      intro j hj
      refine Ev.now (fun k => ?_)
      rw [smithykit_SameRows.l0, if_neg (by omega)]
    | succ d ih =>
      intro j hj
      have G : Ev (fun k => (smithykit_SameInts.f k (rd_L1 l (j : Int)) (rd_L1 l (j : Int))).bind fun t243 => (if t243 = true then (smithykit_SameRows.l0 k l l ((j + 1 : Nat) : Int)) else (some false))) true :=
        Ev.bind (B := fun (t243 : Bool) k => if t243 = true then (smithykit_SameRows.l0 k l l ((j + 1 : Nat) : Int)) else (some false)) (sameInts_ev _ (hr j)) (Ev.same (ih (j + 1) (by omega)) (fun k => if_pos rfl))
      refine Ev.next G (fun k => ?_)
      rw [smithykit_SameRows.l0, if_pos (by omega), if_pos (by omega), if_pos (by omega), w1_ (by omega)]
  exact Ev.same (key l.length 0 (by omega)) (fun k => by unfold smithykit_SameRows.f; rw [if_pos rfl]; rfl)
/-- what a row of truths says. -/
def Rb (N : Nat) (m : Nat → Bool) (x : List Bool) : Prop := x.length = N ∧ ∀ v, v < N → rdOf false x (v : Int) = m v
theorem rdOf_set {x : List Bool} {k : Nat} {y : Bool} (hk : k < x.length) (v : Nat) : rdOf false (x.set ((k : Nat) : Int).toNat y) (v : Int) = if v = k then y else rdOf false x (v : Int) := by
  unfold rdOf
  rw [Int.toNat_natCast, Int.toNat_natCast, List.getD_eq_getElem?_getD, List.getD_eq_getElem?_getD]
  by_cases e : v = k
  · subst e; rw [if_pos rfl, List.getElem?_set_self hk]; rfl
  · rw [if_neg e, List.getElem?_set_ne (fun h => e h.symm)]
theorem Rb.put {N : Nat} {m : Nat → Bool} {x : List Bool} (h : Rb N m x) {k : Nat} (hk : k < N) : Rb N (upB m k) (x.set ((k : Nat) : Int).toNat true) :=
  ⟨by rw [List.length_set]; exact h.1, fun v hv => by
    rw [rdOf_set (by rw [h.1]; exact hk)]
    unfold upB
    by_cases e : v = k
    · rw [if_pos e, if_pos e]
    · rw [if_neg e, if_neg e]; exact h.2 v hv⟩
theorem Rb.zero (N : Nat) : Rb N (fun _ => false) (List.replicate N false) := ⟨List.length_replicate, fun v hv => by
  unfold rdOf
  rw [Int.toNat_natCast, List.getD_eq_getElem?_getD, List.getElem?_replicate, if_pos hv]; rfl⟩
def zs (l : List Nat) : List Int := l.map fun v : Nat => (v : Int)
theorem zs_len (l : List Nat) : (zs l).length = l.length := List.length_map ..
section
variable {l0 : List (List Int)} (hok : okB l0 = true) (hN : l0.length ≤ 5864062014805) (hrl : ∀ v, (es l0 v).length ≤ 17592186044416)
include hok hN hrl
theorem reached_l1 (g : (Nat → Bool) × List Nat → Nat → Bool) (i : Nat) (hi : i < l0.length) :
    ∀ d j, j + d = (es l0 i).length → ∀ (m : Nat → Bool) (w : List Nat) (x5 : List Bool), Rb l0.length m x5 → cnt l0.length m + w.length ≤ l0.length + 1 →
    (∀ x5', Rb l0.length (((es l0 i).drop j).foldl seeR (m, w)).1 x5' → ∃ x, Rb l0.length (g (((es l0 i).drop j).foldl seeR (m, w))) x ∧ Ev (fun k => smithyref19_reached.l0 k l0 x5' (zs (((es l0 i).drop j).foldl seeR (m, w)).2)) x) →
    ∃ x, Rb l0.length (g (((es l0 i).drop j).foldl seeR (m, w))) x ∧ Ev (fun k => smithyref19_reached.l1 k l0 x5 (zs w) (i : Int) (j : Int)) x := by
  intro d
  induction d with
  | zero =>
    intro j hj m w x5 hR hc hcont
    have hd : (es l0 i).drop j = [] := List.drop_of_length_le (by omega)
    rw [hd] at hcont ⊢
    obtain ⟨x, h1, h2⟩ := hcont x5 hR
    refine ⟨x, h1, Ev.next h2 (fun k => ?_)⟩
    rw [smithyref19_reached.l1, if_pos (by omega), if_pos (by omega), row_len, if_neg (by omega)]
    rfl
  | succ d ih =>
    intro j hj m w x5 hR hc hcont
    have hjl : j < (es l0 i).length := by omega
    have hjb : j ≤ 17592186044416 := by have := hrl i; omega
    obtain ⟨he, hen⟩ := edge_at hok hjl
    have hd : (es l0 i).drop j = (es l0 i)[j] :: (es l0 i).drop (j + 1) := List.drop_eq_getElem_cons hjl
    obtain ⟨n, en⟩ : ∃ n, n = (es l0 i)[j] := ⟨_, rfl⟩
    rw [← en] at he hen hd
    rw [hd] at hcont ⊢
    have hx5 := hR.2 n hen
    by_cases hm : m n = true
    · have hs : seeR (m, w) n = (m, w) := by unfold seeR; rw [if_pos hm]
      rw [List.foldl_cons, hs] at hcont ⊢
      obtain ⟨x, h1, h2⟩ := ih (j + 1) (by omega) m w x5 hR hc hcont
      refine ⟨x, h1, Ev.next h2 (fun k => ?_)⟩
      rw [hm] at hx5
      rw [smithyref19_reached.l1, if_pos (by omega), if_pos (by omega), row_len, if_pos (by omega), if_pos (by omega), he, if_pos (by omega), if_pos (by rw [hR.1]; omega), if_pos hx5, w1_ hjb]
    · have hm' : m n = false := by simpa using hm
      have hs : seeR (m, w) n = (upB m n, w ++ [n]) := by unfold seeR; rw [if_neg hm]
      have hc2 := see_cnt (m, w) n hen
      rw [hs] at hc2
      simp only [] at hc2
      rw [List.foldl_cons, hs] at hcont ⊢
      obtain ⟨x, h1, h2⟩ := ih (j + 1) (by omega) (upB m n) (w ++ [n]) _ (hR.put hen) (by omega) hcont
      refine ⟨x, h1, Ev.next h2 (fun k => ?_)⟩
      rw [hm'] at hx5
      rw [smithyref19_reached.l1, if_pos (by omega), if_pos (by omega), row_len, if_pos (by omega), if_pos (by omega), he, if_pos (by omega), if_pos (by rw [hR.1]; omega), if_neg (by rw [hx5]; decide), if_pos (by rw [zs_len]; omega), w1_ hjb]
      unfold zs
      rw [List.map_append]
      rfl
theorem reached_l0 : ∀ f (m : Nat → Bool) (w : List Nat) (x5 : List Bool), Rb l0.length m x5 → cnt l0.length m + w.length ≤ l0.length + 1 → cnt l0.length m + w.length ≤ f → (∀ v ∈ w, v < l0.length) →
    ∃ x, Rb l0.length (reachR (es l0) f (m, w)).1 x ∧ Ev (fun k => smithyref19_reached.l0 k l0 x5 (zs w)) x := by
  intro f
  induction f with
  | zero =>
    intro m w x5 hR hc hf hw
    obtain rfl : w = [] := List.eq_nil_of_length_eq_zero (by omega)
    refine ⟨x5, hR, Ev.now (fun k => ?_)⟩
    rw [smithyref19_reached.l0]
    rfl
  | succ f ih =>
    intro m w x5 hR hc hf hw
    cases hrv : w.reverse with
    | nil =>
      obtain rfl : w = [] := by simpa using hrv
      refine ⟨x5, hR, Ev.now (fun k => ?_)⟩
      rw [smithyref19_reached.l0]
      rfl
    | cons i u =>
      have ew : w = u.reverse ++ [i] := by
        have := congrArg List.reverse hrv
        simpa using this
      have hi : i < l0.length := hw i (by rw [ew]; simp)
      have hlen : w.length = u.reverse.length + 1 := by rw [ew]; simp
      have hq : reachR (es l0) (f + 1) (m, w) = reachR (es l0) f ((es l0 i).foldl seeR (m, u.reverse)) := by
        show (match w.reverse with | [] => (m, w) | i :: w => reachR (es l0) f ((es l0 i).foldl seeR (m, w.reverse))) = _
        rw [hrv]
      have hcn : cnt l0.length m + u.reverse.length ≤ l0.length + 1 := by omega
      have hl1 := reached_l1 hok hN hrl (fun s => (reachR (es l0) f s).1) i hi (es l0 i).length 0 (by omega) m u.reverse x5 hR hcn (fun x5' hR' => by
        rw [List.drop_zero] at hR' ⊢
        have hs := sees_cnt (es l0 i) (m, u.reverse) (es_lt hok i)
        simp only at hs
        exact ih _ _ x5' hR' (by omega) (by omega) (fun v hv => by
          rcases (sees_wait _ _ _).1 hv with h1 | ⟨h1, _⟩
          · exact hw v (by rw [ew]; exact List.mem_append_left _ h1)
          · exact es_lt hok i v h1))
      rw [List.drop_zero] at hl1
      obtain ⟨x, h1, h2⟩ := hl1
      rw [hq]
      refine ⟨x, h1, Ev.next h2 (fun k => ?_)⟩
      have hub : u.reverse.length ≤ 17592186044416 := by omega
      have hzl : (zs w).length = u.reverse.length + 1 := by rw [zs_len, hlen]
      have hzi : rd (zs w) (u.reverse.length : Int) = (i : Int) := by
        unfold rd zs
        rw [Int.toNat_natCast, List.getD_eq_getElem?_getD, List.getElem?_map, ew, List.getElem?_append_right (Nat.le_refl _)]
        simp
      have hzt : (zs w).take u.reverse.length = zs u.reverse := by
        unfold zs
        rw [← List.map_take, ew, List.take_left]
      rw [smithyref19_reached.l0, hzl, if_pos (by omega), wm_ hub, if_pos (by omega), if_pos (by omega), if_pos (by omega), Int.toNat_natCast, hzt, hzi]
      rfl
theorem reached_ev {a : Nat} (ha : a < l0.length) : ∃ x, (x.length = l0.length ∧ ∀ v, v < l0.length → (rdOf false x (v : Int) = true ↔ Re1 (es l0) a v)) ∧ Ev (fun k => smithyref19_reached.f k l0 (a : Int)) x := by
  have hc := cnt_le l0.length (fun _ => false)
  obtain ⟨x, h1, h2⟩ := reached_l0 hok hN hrl (l0.length + 1) (fun _ => false) [a] _ (Rb.zero _) (by simp; omega) (by simp; omega) (fun v hv => by rw [List.mem_singleton] at hv; rw [hv]; exact ha)
  refine ⟨x, ⟨h1.1, fun v hv => by rw [h1.2 v hv]; exact reachR_told (N := l0.length) (es_lt hok) a v⟩, Ev.same h2 (fun k => ?_)⟩
  unfold smithyref19_reached.f
  rw [if_pos (by omega), if_pos (by omega), Int.toNat_natCast]
  rfl
/-- the document's walk. -/
def stepD (nx : Nat → List Nat) (f : Nat) (s : (Nat → Bool) × List Nat) (k : Nat) : (Nat → Bool) × List Nat := if s.1 k then s else walkD nx f k s
theorem nxc_range (i : Nat) : nxc l0 i = (List.range l0.length).filter (fun k => (es l0 i).contains k) := by
  refine sorted_eq (cmpN_lt _) ((range_sorted _).filter _) (fun x => ?_)
  rw [List.mem_filter, List.mem_range]
  unfold nxc
  rw [cmpN_mem]
  constructor
  · intro h; exact ⟨es_lt hok i x h, List.contains_iff_mem.2 h⟩
  · intro h; exact List.contains_iff_mem.1 h.2
end
section
variable {l0 : List (List Int)} (hok : okB l0 = true) (hN : l0.length ≤ 5864062014805) (hrl : ∀ v, (es l0 v).length ≤ 17592186044416)
theorem zs_contains (l : List Nat) (x : Nat) : (zs l).contains (x : Int) = l.contains x := by
  rw [Bool.eq_iff_iff]
  unfold zs
  simp only [List.contains_iff_mem, List.mem_map]
  constructor
  · rintro ⟨y, hy, e⟩
    have : y = x := by omega
    rwa [this] at hy
  · intro h; exact ⟨x, h, rfl⟩
include hok in
theorem row_zs (v : Nat) : rd_L1 l0 (v : Int) = zs (es l0 v) := by
  rw [row_at]
  unfold zs es
  rw [List.map_map]
  have : ∀ x ∈ l0.getD v [], ((fun v : Nat => (v : Int)) ∘ Int.toNat) x = x := fun x hx => by
    have := (okB_at hok hx).1
    show ((x.toNat : Nat) : Int) = x
    omega
  rw [List.map_congr_left this, List.map_id']
theorem zs_snoc (l : List Nat) (x : Nat) : zs l ++ [(x : Int)] = zs (l ++ [x]) := by unfold zs; rw [List.map_append]; rfl
include hok hN hrl
theorem walk_loop (i : Nat) (hi : i < l0.length) (f B : Nat) (hB : B + 1 ≤ 5864062014805)
    (IH : ∀ i, i < l0.length → ∀ (s : (Nat → Bool) × List Nat) (x2 : List Bool) (B : Nat), s.1 i = false → cnt l0.length s.1 ≤ f → s.2.length + cnt l0.length s.1 ≤ B → B ≤ 5864062014805 → Rb l0.length s.1 x2 →
      (∃ x2', Rb l0.length (walkD (nxc l0) f i s).1 x2' ∧ Ev (fun k => smithyref19_walk.f k l0 (i : Int) x2 (zs s.2)) (zs (walkD (nxc l0) f i s).2, x2')) ∧ (walkD (nxc l0) f i s).2.length + cnt l0.length (walkD (nxc l0) f i s).1 ≤ B) :
    ∀ d j, j + d = l0.length → ∀ (s : (Nat → Bool) × List Nat) (x2 : List Bool), Rb l0.length s.1 x2 → cnt l0.length s.1 ≤ f → s.2.length + cnt l0.length s.1 ≤ B →
      (∃ x2', Rb l0.length (((List.range' j d).filter (fun k => (es l0 i).contains k)).foldl (stepD (nxc l0) f) s).1 x2' ∧ Ev (fun k => smithyref19_walk.l0 k l0 (i : Int) x2 (zs s.2) (j : Int)) (zs ((((List.range' j d).filter (fun k => (es l0 i).contains k)).foldl (stepD (nxc l0) f) s).2 ++ [i]), x2')) ∧
      (((List.range' j d).filter (fun k => (es l0 i).contains k)).foldl (stepD (nxc l0) f) s).2.length + cnt l0.length (((List.range' j d).filter (fun k => (es l0 i).contains k)).foldl (stepD (nxc l0) f) s).1 ≤ B := by
  intro d
  induction d with
  | zero =>
    intro j hj s x2 hR hc hb
    refine ⟨⟨x2, hR, Ev.now (fun k => ?_)⟩, hb⟩
    rw [smithyref19_walk.l0, if_neg (by omega), if_pos (by rw [zs_len]; omega), zs_snoc]
    rfl
  | succ d ih =>
    intro j hj s x2 hR hc hb
    have hjN : j < l0.length := by omega
    have hjb : j ≤ 17592186044416 := by omega
    have hhas := has_ev (rd_L1 l0 (i : Int)) (j : Int) (by rw [row_len]; exact hrl i)
    rw [row_zs hok, zs_contains] at hhas
    rw [List.range'_succ, List.filter_cons]
    by_cases he : (es l0 i).contains j = true
    · rw [if_pos he, List.foldl_cons]
      rw [he] at hhas
      have hx := hR.2 j hjN
      by_cases hm : s.1 j = true
      · have hs : stepD (nxc l0) f s j = s := by unfold stepD; rw [if_pos hm]
        rw [hs]
        obtain ⟨⟨x2', h1, h2⟩, h3⟩ := ih (j + 1) (by omega) s x2 hR hc hb
        refine ⟨⟨x2', h1, ?_⟩, h3⟩
        have G : Ev (fun k => (smithyref19_has.f k (zs (es l0 i)) (j : Int)).bind fun t285 => (if t285 = true then (smithyref19_walk.l0 k l0 (i : Int) x2 (zs s.2) ((j + 1 : Nat) : Int)) else (smithyref19_walk.l0 k l0 (i : Int) x2 (zs s.2) ((j + 1 : Nat) : Int)))) _ :=
          Ev.bind (B := fun (t285 : Bool) k => if t285 = true then (smithyref19_walk.l0 k l0 (i : Int) x2 (zs s.2) ((j + 1 : Nat) : Int)) else (smithyref19_walk.l0 k l0 (i : Int) x2 (zs s.2) ((j + 1 : Nat) : Int))) hhas (Ev.same h2 (fun k => if_pos rfl))
        refine Ev.next G (fun k => ?_)
        rw [hm] at hx
        rw [smithyref19_walk.l0, if_pos (by omega), if_pos (by omega), if_pos (by omega), row_zs hok, w1_ hjb, if_pos (show (0 : Int) ≤ (j : Int) by omega), if_pos (show (j : Int) < (x2.length : Int) by rw [hR.1]; omega), if_pos hx]
      · have hm' : s.1 j = false := by simpa using hm
        have hs : stepD (nxc l0) f s j = walkD (nxc l0) f j s := by unfold stepD; rw [if_neg hm]
        rw [hs]
        obtain ⟨⟨y2, g1, g2⟩, g3⟩ := IH j hjN s x2 B hm' hc hb (by omega) hR
        have hmono : cnt l0.length (walkD (nxc l0) f j s).1 ≤ cnt l0.length s.1 := cnt_mono (fun v hv => walkD_mono f j s v hv)
        obtain ⟨⟨x2', h1, h2⟩, h3⟩ := ih (j + 1) (by omega) (walkD (nxc l0) f j s) y2 g1 (by omega) g3
        refine ⟨⟨x2', h1, ?_⟩, h3⟩
        have G2 : Ev (fun k => (smithyref19_walk.f k l0 (j : Int) x2 (zs s.2)).bind fun bt287 => smithyref19_walk.l0 k l0 (i : Int) bt287.2 bt287.1 ((j + 1 : Nat) : Int)) _ :=
          Ev.bind (B := fun (bt287 : List Int × List Bool) k => smithyref19_walk.l0 k l0 (i : Int) bt287.2 bt287.1 ((j + 1 : Nat) : Int)) g2 h2
        have G : Ev (fun k => (smithyref19_has.f k (zs (es l0 i)) (j : Int)).bind fun t285 => (if t285 = true then ((smithyref19_walk.f k l0 (j : Int) x2 (zs s.2)).bind fun bt287 => smithyref19_walk.l0 k l0 (i : Int) bt287.2 bt287.1 ((j + 1 : Nat) : Int)) else (smithyref19_walk.l0 k l0 (i : Int) x2 (zs s.2) ((j + 1 : Nat) : Int)))) _ :=
          Ev.bind (B := fun (t285 : Bool) k => if t285 = true then ((smithyref19_walk.f k l0 (j : Int) x2 (zs s.2)).bind fun bt287 => smithyref19_walk.l0 k l0 (i : Int) bt287.2 bt287.1 ((j + 1 : Nat) : Int)) else (smithyref19_walk.l0 k l0 (i : Int) x2 (zs s.2) ((j + 1 : Nat) : Int))) hhas (Ev.same G2 (fun k => if_pos rfl))
        refine Ev.next G (fun k => ?_)
        rw [hm'] at hx
        rw [smithyref19_walk.l0, if_pos (by omega), if_pos (by omega), if_pos (by omega), row_zs hok, w1_ hjb, if_pos (show (0 : Int) ≤ (j : Int) by omega), if_pos (show (j : Int) < (x2.length : Int) by rw [hR.1]; omega), if_neg (show ¬ rdOf false x2 (j : Int) = true by rw [hx]; decide)]
    · have he' : (es l0 i).contains j = false := by simpa using he
      rw [if_neg he]
      rw [he'] at hhas
      obtain ⟨⟨x2', h1, h2⟩, h3⟩ := ih (j + 1) (by omega) s x2 hR hc hb
      refine ⟨⟨x2', h1, ?_⟩, h3⟩
      have G : Ev (fun k => (smithyref19_has.f k (zs (es l0 i)) (j : Int)).bind fun t285 => (if t285 = true then (if 0 ≤ (j : Int) then (if (j : Int) < (x2.length : Int) then (if rdOf false x2 (j : Int) = true then (smithyref19_walk.l0 k l0 (i : Int) x2 (zs s.2) ((j + 1 : Nat) : Int)) else ((smithyref19_walk.f k l0 (j : Int) x2 (zs s.2)).bind fun bt287 => smithyref19_walk.l0 k l0 (i : Int) bt287.2 bt287.1 ((j + 1 : Nat) : Int))) else (none)) else (none)) else (smithyref19_walk.l0 k l0 (i : Int) x2 (zs s.2) ((j + 1 : Nat) : Int)))) _ :=
        Ev.bind (B := fun (t285 : Bool) k => (if t285 = true then (if 0 ≤ (j : Int) then (if (j : Int) < (x2.length : Int) then (if rdOf false x2 (j : Int) = true then (smithyref19_walk.l0 k l0 (i : Int) x2 (zs s.2) ((j + 1 : Nat) : Int)) else ((smithyref19_walk.f k l0 (j : Int) x2 (zs s.2)).bind fun bt287 => smithyref19_walk.l0 k l0 (i : Int) bt287.2 bt287.1 ((j + 1 : Nat) : Int))) else (none)) else (none)) else (smithyref19_walk.l0 k l0 (i : Int) x2 (zs s.2) ((j + 1 : Nat) : Int)))) hhas (Ev.same h2 (fun k => if_neg (by decide)))
      refine Ev.next G (fun k => ?_)
      rw [smithyref19_walk.l0, if_pos (by omega), if_pos (by omega), if_pos (by omega), row_zs hok, w1_ hjb]
theorem walk_ev : ∀ f, ∀ i, i < l0.length → ∀ (s : (Nat → Bool) × List Nat) (x2 : List Bool) (B : Nat), s.1 i = false → cnt l0.length s.1 ≤ f → s.2.length + cnt l0.length s.1 ≤ B → B ≤ 5864062014805 → Rb l0.length s.1 x2 →
      (∃ x2', Rb l0.length (walkD (nxc l0) f i s).1 x2' ∧ Ev (fun k => smithyref19_walk.f k l0 (i : Int) x2 (zs s.2)) (zs (walkD (nxc l0) f i s).2, x2')) ∧ (walkD (nxc l0) f i s).2.length + cnt l0.length (walkD (nxc l0) f i s).1 ≤ B := by
  intro f
  induction f with
  | zero => intro i hi s x2 B hm hc; have := cnt_pos hi hm; omega
  | succ f ih =>
    intro i hi s x2 B hm hc hb hB hR
    have hu := cnt_up hi hm
    obtain ⟨B', eB⟩ : ∃ B', B = B' + 1 := ⟨B - 1, by omega⟩
    obtain ⟨⟨x2', h1, h2⟩, h3⟩ := walk_loop hok hN hrl i hi f B' (by omega) ih l0.length 0 (by omega) (upB s.1 i, s.2) _ (hR.put hi) (by show cnt l0.length (upB s.1 i) ≤ f; omega) (by show s.2.length + cnt l0.length (upB s.1 i) ≤ B'; omega)
    have hw : walkD (nxc l0) (f + 1) i s = ((((List.range' 0 l0.length).filter (fun k => (es l0 i).contains k)).foldl (stepD (nxc l0) f) (upB s.1 i, s.2)).1, (((List.range' 0 l0.length).filter (fun k => (es l0 i).contains k)).foldl (stepD (nxc l0) f) (upB s.1 i, s.2)).2 ++ [i]) := by
      have e := nxc_range hok hN hrl i
      rw [List.range_eq_range'] at e
      rw [← e]
      rfl
    rw [hw]
    refine ⟨⟨x2', h1, Ev.next h2 (fun k => ?_)⟩, by simp only [List.length_append, List.length_cons, List.length_nil]; omega⟩
    rw [smithyref19_walk.f, if_pos (by omega), if_pos (by rw [hR.1]; omega)]
    rfl
end
section
variable {l0 : List (List Int)} (hok : okB l0 = true) (hN : l0.length ≤ 5864062014805) (hrl : ∀ v, (es l0 v).length ≤ 17592186044416)
/-- who is reached, row by row. -/
def AL (l0 : List (List Int)) (al : Nat → Nat → Bool) (n : Nat) (x4 : List (List Bool)) : Prop := x4.length = n ∧ ∀ v, v < n → (rd_L18 x4 (v : Int)).length = l0.length ∧ ∀ u, u < l0.length → rdOf false (rd_L18 x4 (v : Int)) (u : Int) = al v u
def qP (al : Nat → Nat → Bool) (v k : Nat) : Bool := k == v || al k v && al v k
def lastP (r : List Nat) (l : List Nat) : Bool := l.all (fun k => !r.contains k)
theorem lastP_snoc (r l : List Nat) (k : Nat) : lastP r (l ++ [k]) = (lastP r l && !r.contains k) := by unfold lastP; rw [List.all_append]; simp
include hok hN hrl
theorem parts_l5 (al : Nat → Nat → Bool) (x4 : List (List Bool)) (hA : AL l0 al l0.length x4) (left : List Nat) (hll : left.length ≤ l0.length) (hlN : ∀ v ∈ left, v < l0.length) (x12 : List (List Int)) (n : Nat) (hn : n < left.length) (hx12 : x12.length ≤ n) (r : List (List Int) × Int)
    (hcont : ∀ x12', x12' = x12 ++ (if lastP (left.drop (n + 1)) ((List.range l0.length).filter (qP al left[n])) then [zs ((List.range l0.length).filter (qP al left[n]))] else []) → Ev (fun k => smithyref19_Parts.l4 k l0 x4 (zs left) x12' ((n + 1 : Nat) : Int)) r) :
    ∀ d j, j + d = l0.length → Ev (fun k => smithyref19_Parts.l5 k l0 x4 (zs left) x12 (n : Int) (zs ((List.range j).filter (qP al left[n]))) (lastP (left.drop (n + 1)) ((List.range j).filter (qP al left[n]))) (j : Int)) r := by
  have hnb : n ≤ 17592186044416 := by omega
  obtain ⟨v, ev⟩ : ∃ v, v = left[n] := ⟨_, rfl⟩
  have hvN : v < l0.length := hlN v (by rw [ev]; exact List.getElem_mem hn)
  have hrd : rd (zs left) (n : Int) = (v : Int) := by
    unfold rd zs
    rw [Int.toNat_natCast, List.getD_eq_getElem?_getD, List.getElem?_map, List.getElem?_eq_getElem hn, ev]; rfl
  rw [← ev] at hcont ⊢
  intro d
  induction d with
  | zero =>
    intro j hj
    obtain rfl : j = l0.length := by omega
    have hc := hcont _ rfl
    by_cases hl : lastP (left.drop (n + 1)) ((List.range l0.length).filter (qP al v)) = true
    · rw [if_pos hl] at hc
      refine Ev.next hc (fun k => ?_)
      rw [smithyref19_Parts.l5, if_neg (by omega), hl, if_pos rfl, if_pos (by omega), w1_ hnb]
    · have hl' : lastP (left.drop (n + 1)) ((List.range l0.length).filter (qP al v)) = false := by simpa using hl
      rw [if_neg hl, List.append_nil] at hc
      refine Ev.next hc (fun k => ?_)
      rw [smithyref19_Parts.l5, if_neg (by omega), hl', if_neg (by decide), w1_ hnb]
  | succ d ih =>
    intro j hj
    have hjN : j < l0.length := by omega
    have hjb : j ≤ 17592186044416 := by omega
    have hnx := ih (j + 1) (by omega)
    obtain ⟨P, eP⟩ : ∃ P, P = (List.range j).filter (qP al v) := ⟨_, rfl⟩
    have hPl : P.length ≤ j := by rw [eP]; exact Nat.le_trans (List.length_filter_le _ _) (by rw [List.length_range]; exact Nat.le_refl _)
    rw [List.range_succ, List.filter_append, ← eP] at hnx
    rw [← eP]
    have hzl : (zs left).drop (n + 1) = zs (left.drop (n + 1)) := by unfold zs; rw [List.map_drop]
    have hdl : (left.drop (n + 1)).length ≤ 17592186044416 := by rw [List.length_drop]; omega
    have hhas := has_ev (zs (left.drop (n + 1))) (j : Int) (by rw [zs_len]; exact hdl)
    rw [zs_contains] at hhas
    -- j stands in the part
    have add : qP al v j = true → Ev (fun k => (some (zs P ++ [(j : Int)] : List Int)).bind fun y => (if lastP (left.drop (n + 1)) P = true then (if 0 ≤ (wrap64 ((n : Int) + 1)) then (if (wrap64 ((n : Int) + 1)) ≤ ((zs left).length : Int) then ((smithyref19_has.f k ((zs left).drop ((wrap64 ((n : Int) + 1)) : Int).toNat) (j : Int)).bind fun t334 => (smithyref19_Parts.l5 k l0 x4 (zs left) x12 (n : Int) y (!t334) (wrap64 ((j : Int) + 1)))) else (none)) else (none)) else (smithyref19_Parts.l5 k l0 x4 (zs left) x12 (n : Int) y false (wrap64 ((j : Int) + 1))))) r := fun hq => by
      have e1 : [j].filter (qP al v) = [j] := by simp [hq]
      rw [e1] at hnx
      rw [← zs_snoc, lastP_snoc] at hnx
      by_cases hl : lastP (left.drop (n + 1)) P = true
      · rw [hl, Bool.true_and] at hnx
        have G : Ev (fun k => (smithyref19_has.f k (zs (left.drop (n + 1))) (j : Int)).bind fun t334 => (smithyref19_Parts.l5 k l0 x4 (zs left) x12 (n : Int) (zs P ++ [(j : Int)]) (!t334) ((j + 1 : Nat) : Int))) r :=
          Ev.bind (B := fun (t334 : Bool) k => smithyref19_Parts.l5 k l0 x4 (zs left) x12 (n : Int) (zs P ++ [(j : Int)]) (!t334) ((j + 1 : Nat) : Int)) hhas hnx
        refine Ev.same G (fun k => ?_)
        rw [Option.bind_some, if_pos hl, w1_ hnb, w1_ hjb, if_pos (by omega), if_pos (by rw [zs_len]; omega), Int.toNat_natCast, hzl]
      · have hl' : lastP (left.drop (n + 1)) P = false := by simpa using hl
        rw [hl', Bool.false_and] at hnx
        refine Ev.same hnx (fun k => ?_)
        rw [Option.bind_some, if_neg hl, w1_ hjb]
    have skip : qP al v j = false → Ev (fun k => smithyref19_Parts.l5 k l0 x4 (zs left) x12 (n : Int) (zs P) (lastP (left.drop (n + 1)) P) (wrap64 ((j : Int) + 1))) r := fun hq => by
      have e1 : [j].filter (qP al v) = [] := by simp [hq]
      rw [e1, List.append_nil] at hnx
      rw [w1_ hjb]
      exact hnx
    have hzP : (zs P).length < 17592186044416 := by rw [zs_len]; omega
    obtain ⟨hr1, hr2⟩ := hA.2 j hjN
    obtain ⟨hs1, hs2⟩ := hA.2 v hvN
    have hx1 := hr2 v hvN
    have hx2 := hs2 j hjN
    have hx4 := hA.1
    clear hnx hcont ih
    by_cases hjv : j = v
    · refine Ev.next (add (by unfold qP; simp [hjv])) (fun k => ?_)
      rw [smithyref19_Parts.l5, if_pos (by omega), if_pos (by omega), if_pos (by rw [zs_len]; omega), hrd, if_pos (show (j : Int) = (v : Int) by omega), if_pos hzP]
    · have hb : (j == v) = false := by simpa using hjv
      by_cases h1 : al j v = true
      · by_cases h2 : al v j = true
        · refine Ev.next (add (by unfold qP; rw [h1, h2, hb]; rfl)) (fun k => ?_)
          rw [smithyref19_Parts.l5, if_pos (by omega), if_pos (by omega), if_pos (by rw [zs_len]; omega), hrd, if_neg (show ¬ (j : Int) = (v : Int) by omega), if_pos (show (0 : Int) ≤ (j : Int) by omega), if_pos (show (j : Int) < (x4.length : Int) by omega), if_pos (show (0 : Int) ≤ (v : Int) by omega), if_pos (show (v : Int) < ((rd_L18 x4 (j : Int)).length : Int) by omega), hx1, if_pos h1, if_pos (show (v : Int) < (x4.length : Int) by omega), if_pos (show (j : Int) < ((rd_L18 x4 (v : Int)).length : Int) by omega), hx2, if_pos h2, if_pos hzP]
        · refine Ev.next (skip (by unfold qP; rw [h1, hb]; simpa using h2)) (fun k => ?_)
          rw [smithyref19_Parts.l5, if_pos (by omega), if_pos (by omega), if_pos (by rw [zs_len]; omega), hrd, if_neg (show ¬ (j : Int) = (v : Int) by omega), if_pos (show (0 : Int) ≤ (j : Int) by omega), if_pos (show (j : Int) < (x4.length : Int) by omega), if_pos (show (0 : Int) ≤ (v : Int) by omega), if_pos (show (v : Int) < ((rd_L18 x4 (j : Int)).length : Int) by omega), hx1, if_pos h1, if_pos (show (v : Int) < (x4.length : Int) by omega), if_pos (show (j : Int) < ((rd_L18 x4 (v : Int)).length : Int) by omega), hx2, if_neg h2]
      · refine Ev.next (skip (by unfold qP; rw [hb]; simp [h1])) (fun k => ?_)
        rw [smithyref19_Parts.l5, if_pos (by omega), if_pos (by omega), if_pos (by rw [zs_len]; omega), hrd, if_neg (show ¬ (j : Int) = (v : Int) by omega), if_pos (show (0 : Int) ≤ (j : Int) by omega), if_pos (show (j : Int) < (x4.length : Int) by omega), if_pos (show (0 : Int) ≤ (v : Int) by omega), if_pos (show (v : Int) < ((rd_L18 x4 (j : Int)).length : Int) by omega), hx1, if_neg h1]
theorem parts_l4 (al : Nat → Nat → Bool) (x4 : List (List Bool)) (hA : AL l0 al l0.length x4) (left : List Nat) (hll : left.length ≤ l0.length) (hlN : ∀ v ∈ left, v < l0.length) :
    ∀ d n, n + d = left.length → ∀ x12 : List (List Int), x12.length ≤ n → Ev (fun k => smithyref19_Parts.l4 k l0 x4 (zs left) x12 (n : Int)) (x12 ++ (refP al l0.length (left.drop n)).map zs, 0) := by
  intro d
  induction d with
  | zero =>
    intro n hn x12 hx
    rw [List.drop_of_length_le (by omega)]
    refine Ev.now (fun k => ?_)
    rw [smithyref19_Parts.l4, if_neg (by rw [zs_len]; omega)]
    simp [refP]
  | succ d ih =>
    intro n hn x12 hx
    have hnl : n < left.length := by omega
    have h5 := parts_l5 hok hN hrl al x4 hA left hll hlN x12 n hnl hx (x12 ++ (refP al l0.length (left.drop n)).map zs, 0) (fun x12' e => by
      have hr : refP al l0.length (left.drop n) = (if lastP (left.drop (n + 1)) ((List.range l0.length).filter (qP al left[n])) then [(List.range l0.length).filter (qP al left[n])] else []) ++ refP al l0.length (left.drop (n + 1)) := by
        rw [List.drop_eq_getElem_cons hnl]
        rfl
      have hlen : x12'.length ≤ n + 1 := by
        rw [e, List.length_append]
        split <;> simp <;> omega
      have := ih (n + 1) (by omega) x12' hlen
      rw [hr, List.map_append, ← List.append_assoc]
      have e2 : x12 ++ (if lastP (left.drop (n + 1)) ((List.range l0.length).filter (qP al left[n])) then [(List.range l0.length).filter (qP al left[n])] else []).map zs = x12' := by
        rw [e]
        split <;> rfl
      rw [e2]
      exact this) l0.length 0 (by omega)
    refine Ev.next h5 (fun k => ?_)
    rw [smithyref19_Parts.l4, if_pos (by rw [zs_len]; omega)]
    rfl
theorem parts_l3 (al : Nat → Nat → Bool) (x4 : List (List Bool)) (hA : AL l0 al l0.length x4) (r : List (List Int) × Int)
    (hcont : ∀ s : (Nat → Bool) × List Nat, s = uptoD (nxc l0) l0.length l0.length → s.2.length ≤ l0.length → Ev (fun k => smithyref19_Parts.l4 k l0 x4 (zs s.2) [] 0) r) :
    ∀ d j, j + d = l0.length → ∀ x9, Rb l0.length (uptoD (nxc l0) l0.length j).1 x9 → (uptoD (nxc l0) l0.length j).2.length + cnt l0.length (uptoD (nxc l0) l0.length j).1 ≤ l0.length →
      Ev (fun k => smithyref19_Parts.l3 k l0 x4 x9 (zs (uptoD (nxc l0) l0.length j).2) (j : Int)) r := by
  intro d
  induction d with
  | zero =>
    intro j hj x9 hR hb
    obtain rfl : j = l0.length := by omega
    refine Ev.next (hcont _ rfl (by omega)) (fun k => ?_)
    rw [smithyref19_Parts.l3, if_neg (by omega)]
  | succ d ih =>
    intro j hj x9 hR hb
    have hjN : j < l0.length := by omega
    have hjb : j ≤ 17592186044416 := by omega
    have hx := hR.2 j hjN
    by_cases hm : (uptoD (nxc l0) l0.length j).1 j = true
    · have hs : uptoD (nxc l0) l0.length (j + 1) = uptoD (nxc l0) l0.length j := by rw [uptoD_succ, if_pos hm]
      have h := ih (j + 1) (by omega) x9 (by rw [hs]; exact hR) (by rw [hs]; exact hb)
      rw [hs] at h
      refine Ev.next h (fun k => ?_)
      rw [smithyref19_Parts.l3, if_pos (by omega), if_pos (by omega), if_pos (by rw [hR.1]; omega), hx, if_pos hm, w1_ hjb]
    · have hm' : (uptoD (nxc l0) l0.length j).1 j = false := by simpa using hm
      have hs : uptoD (nxc l0) l0.length (j + 1) = walkD (nxc l0) l0.length j (uptoD (nxc l0) l0.length j) := by rw [uptoD_succ, if_neg hm]
      obtain ⟨⟨x2', h1, h2⟩, h3⟩ := walk_ev hok hN hrl l0.length j hjN _ x9 l0.length hm' (cnt_le _ _) hb hN hR
      rw [← hs] at h1 h2 h3
      have h := ih (j + 1) (by omega) x2' h1 h3
      have G : Ev (fun k => (smithyref19_walk.f k l0 (j : Int) x9 (zs (uptoD (nxc l0) l0.length j).2)).bind fun bt322 => (smithyref19_Parts.l3 k l0 x4 bt322.2 bt322.1 ((j + 1 : Nat) : Int))) r :=
        Ev.bind (B := fun (bt322 : List Int × List Bool) k => smithyref19_Parts.l3 k l0 x4 bt322.2 bt322.1 ((j + 1 : Nat) : Int)) h2 h
      refine Ev.next G (fun k => ?_)
      rw [smithyref19_Parts.l3, if_pos (by omega), if_pos (by omega), if_pos (by rw [hR.1]; omega), hx, if_neg hm, w1_ hjb]
theorem parts_l2 (r : List (List Int) × Int) (hcont : ∀ al x4, (∀ a b, a < l0.length → b < l0.length → (al a b = true ↔ Re1 (es l0) a b)) → AL l0 al l0.length x4 → Ev (fun k => smithyref19_Parts.l3 k l0 x4 (List.replicate l0.length false) ([] : List Int) 0) r) :
    ∀ d j, j + d = l0.length → ∀ (al : Nat → Nat → Bool) x4, (∀ a b, a < j → b < l0.length → (al a b = true ↔ Re1 (es l0) a b)) → AL l0 al j x4 → Ev (fun k => smithyref19_Parts.l2 k l0 x4 (j : Int)) r := by
  intro d
  induction d with
  | zero =>
    intro j hj al x4 hal hA
    obtain rfl : j = l0.length := by omega
    refine Ev.next (hcont al x4 hal hA) (fun k => ?_)
    rw [smithyref19_Parts.l2, if_neg (by omega), if_pos (by omega), if_pos (by omega), Int.toNat_natCast]
  | succ d ih =>
    intro j hj al x4 hal hA
    have hjN : j < l0.length := by omega
    have hjb : j ≤ 17592186044416 := by omega
    obtain ⟨x, ⟨hx1, hx2⟩, hx3⟩ := reached_ev hok hN hrl hjN
    have hrdo : ∀ a : Nat, a < j → rd_L18 (x4 ++ [x]) (a : Int) = rd_L18 x4 (a : Int) := fun a ha => by
      unfold rd_L18
      rw [Int.toNat_natCast, List.getD_eq_getElem?_getD, List.getD_eq_getElem?_getD, List.getElem?_append_left (by rw [hA.1]; exact ha)]
    have hrdn : rd_L18 (x4 ++ [x]) (j : Int) = x := by
      unfold rd_L18
      rw [Int.toNat_natCast, List.getD_eq_getElem?_getD, List.getElem?_append_right (by rw [hA.1]; exact Nat.le_refl _), hA.1, Nat.sub_self]; rfl
    have h := ih (j + 1) (by omega) (fun a b => if a = j then rdOf false x (b : Int) else al a b) (x4 ++ [x]) (fun a b ha hb => by
      by_cases e : a = j
      · rw [if_pos e, hx2 b hb, e]
      · rw [if_neg e]; exact hal a b (by omega) hb) ⟨by rw [List.length_append, hA.1]; rfl, fun v hv => by
      by_cases e : v = j
      · subst e
        rw [hrdn]
        exact ⟨hx1, fun u hu => by show rdOf false x (u : Int) = if v = v then rdOf false x (u : Int) else al v u; rw [if_pos rfl]⟩
      · rw [hrdo v (by omega)]
        obtain ⟨h1, h2⟩ := hA.2 v (by omega)
        exact ⟨h1, fun u hu => by show _ = if v = j then rdOf false x (u : Int) else al v u; rw [if_neg e]; exact h2 u hu⟩⟩
    have G : Ev (fun k => (smithyref19_reached.f k l0 (j : Int)).bind fun t312 => (if x4.length < 5864062014805 then (smithyref19_Parts.l2 k l0 (x4 ++ [t312]) ((j + 1 : Nat) : Int)) else (none))) r :=
      Ev.bind (B := fun (t312 : List Bool) k => if x4.length < 5864062014805 then (smithyref19_Parts.l2 k l0 (x4 ++ [t312]) ((j + 1 : Nat) : Int)) else (none)) hx3 (Ev.same h (fun k => if_pos (by rw [hA.1]; omega)))
    refine Ev.next G (fun k => ?_)
    rw [smithyref19_Parts.l2, if_pos (by omega), w1_ hjb]
end
theorem net_rows' {l0 : List (List Int)} (h : netOk l0 = true) : l0.length ≤ 5864062014805 ∧ ∀ v, (es l0 v).length ≤ 17592186044416 := by
  unfold netOk at h
  rw [Bool.and_eq_true, decide_eq_true_eq, List.all_eq_true] at h
  refine ⟨h.1, fun v => ?_⟩
  unfold es
  rw [List.length_map, List.getD_eq_getElem?_getD]
  cases hv : l0[v]? with
  | none => simp
  | some l => simpa using h.2 l (List.mem_of_getElem? hv)
theorem refParts_ok {l0 : List (List Int)} (hok : okB l0 = true) (hnet : netOk l0 = true) : Ev (fun k => smithyref19_Parts.f k l0) (partsZ l0, 0) := by
  obtain ⟨hN, hrl⟩ := net_rows' hnet
  have hz : (partsZ l0, (0 : Int)) = ([] ++ (partsP cmpN (nxc l0) l0.length).map zs, 0) := rfl
  have h2 : Ev (fun k => smithyref19_Parts.l2 k l0 ([] : List (List Bool)) 0) (partsZ l0, 0) := by
    refine parts_l2 hok hN hrl _ (fun al x4 hal hA => ?_) l0.length 0 (by omega) (fun _ _ => false) [] (fun a b ha => absurd ha (Nat.not_lt_zero a)) ⟨rfl, fun v hv => absurd hv (Nat.not_lt_zero v)⟩
    have hc := cnt_le l0.length (fun _ => false)
    refine parts_l3 hok hN hrl al x4 hA _ (fun s es_ hsl => ?_) l0.length 0 (by omega) _ (Rb.zero _) (by show 0 + cnt l0.length (fun _ => false) ≤ _; omega)
    have hleft := uptoD_left (nxc_lt hok) l0.length (Nat.le_refl _)
    rw [← es_] at hleft
    have h4 := parts_l4 hok hN hrl al x4 hA s.2 hsl hleft s.2.length 0 (by omega) [] (Nat.le_refl _)
    rw [List.drop_zero] at h4
    have hp := parts_ref (cmp := cmpN) cmpN_mem cmpN_lt (nxc_lt hok) (al := al) (fun a b ha hb => by
      rw [hal a b ha hb]
      exact ⟨fun h => h.same (fun v x hx => by unfold nxc; rw [cmpN_mem]; exact hx), fun h => h.same (fun v x hx => by unfold nxc at hx; rw [cmpN_mem] at hx; exact hx)⟩)
    have hld : leftD (nxc l0) l0.length = s.2 := by unfold leftD; rw [es_]
    rw [hld] at hp
    rw [hp, ← hz] at h4
    exact h4
  have hrowl : ∀ v : Nat, (rd_L1 l0 (v : Int)).length = (es l0 v).length := fun v => row_len
  have h0 : ∀ d j, j + d = l0.length → Ev (fun k => smithyref19_Parts.l0 k l0 (j : Int)) (partsZ l0, 0) := by
    intro d
    induction d with
    | zero =>
      intro j hj
      refine Ev.next h2 (fun k => ?_)
      rw [smithyref19_Parts.l0, if_neg (by omega)]
    | succ d ih =>
      intro j hj
      have hjN : j < l0.length := by omega
      have hjb : j ≤ 17592186044416 := by omega
      have h1 : ∀ e t, t + e = (es l0 j).length → Ev (fun k => smithyref19_Parts.l1 k l0 (j : Int) (t : Int)) (partsZ l0, 0) := by
        intro e
        induction e with
        | zero =>
          intro t ht
          refine Ev.next (ih (j + 1) (by omega)) (fun k => ?_)
          rw [smithyref19_Parts.l1, if_pos (by omega), if_pos (by omega), row_len, if_neg (by omega), w1_ hjb]
        | succ e ihe =>
          intro t ht
          have htl : t < (es l0 j).length := by omega
          have htb : t ≤ 17592186044416 := by have := hrl j; omega
          obtain ⟨he, hen⟩ := edge_at hok htl
          refine Ev.next (ihe (t + 1) (by omega)) (fun k => ?_)
          rw [smithyref19_Parts.l1, if_pos (by omega), if_pos (by omega), row_len, if_pos (by omega), if_pos (by omega), he, if_neg (by omega), if_neg (by omega), w1_ htb]
      refine Ev.next (h1 (es l0 j).length 0 (by omega)) (fun k => ?_)
      rw [smithyref19_Parts.l0, if_pos (by omega)]
      rfl
  exact Ev.same (h0 l0.length 0 (by omega)) (fun k => rfl)
theorem refParts_bad {l0 : List (List Int)} (hok : okB l0 = false) (hnet : netOk l0 = true) : Ev (fun k => smithyref19_Parts.f k l0) ([], 4) := by
  obtain ⟨hN, hrl⟩ := net_rows' hnet
  have hbad : ∃ l ∈ l0, ∃ x ∈ l, ¬ (0 ≤ x ∧ x < (l0.length : Int)) := by
    by_cases h : ∃ l ∈ l0, ∃ x ∈ l, ¬ (0 ≤ x ∧ x < (l0.length : Int))
    · exact h
    · exfalso
      have : okB l0 = true := List.all_eq_true.2 (fun l hl => List.all_eq_true.2 (fun x hx => by
        rw [Bool.and_eq_true, decide_eq_true_eq, decide_eq_true_eq]
        by_cases hx2 : 0 ≤ x ∧ x < (l0.length : Int)
        · exact hx2
        · exact absurd ⟨l, hl, x, hx, hx2⟩ h))
      rw [hok] at this
      cases this
  have key : ∀ d j, j + d = l0.length → (∃ l ∈ l0.drop j, ∃ x ∈ l, ¬ (0 ≤ x ∧ x < (l0.length : Int))) → Ev (fun k => smithyref19_Parts.l0 k l0 (j : Int)) ([], 4) := by
    intro d
    induction d with
    | zero =>
      intro j hj h
      rw [List.drop_of_length_le (by omega)] at h
      obtain ⟨l, hl, _⟩ := h
      cases hl
    | succ d ih =>
      intro j hj h
      have hjN : j < l0.length := by omega
      have hjb : j ≤ 17592186044416 := by omega
      obtain ⟨row, erow⟩ : ∃ row, row = l0.getD j [] := ⟨_, rfl⟩
      have hrd : rd_L1 l0 (j : Int) = row := by rw [row_at, erow]
      have hrow : l0[j] = row := by rw [erow, List.getD_eq_getElem?_getD, List.getElem?_eq_getElem hjN]; rfl
      have hrb : row.length ≤ 17592186044416 := by have := hrl j; unfold es at this; rw [List.length_map, ← erow] at this; exact this
      have h1 : ∀ e t, t + e = row.length → ((∃ x ∈ row.drop t, ¬ (0 ≤ x ∧ x < (l0.length : Int))) ∨ (∃ l ∈ l0.drop (j + 1), ∃ x ∈ l, ¬ (0 ≤ x ∧ x < (l0.length : Int)))) → Ev (fun k => smithyref19_Parts.l1 k l0 (j : Int) (t : Int)) ([], 4) := by
        intro e
        induction e with
        | zero =>
          intro t ht hh
          rw [List.drop_of_length_le (by omega)] at hh
          have h3 := hh.resolve_left (fun h => by obtain ⟨x, hx, _⟩ := h; cases hx)
          refine Ev.next (ih (j + 1) (by omega) h3) (fun k => ?_)
          rw [smithyref19_Parts.l1, if_pos (by omega), if_pos (by omega), hrd, if_neg (by omega), w1_ hjb]
        | succ e ihe =>
          intro t ht hh
          have htl : t < row.length := by omega
          have htb : t ≤ 17592186044416 := by omega
          have hx : rd row (t : Int) = row[t] := by unfold rd; rw [Int.toNat_natCast, List.getD_eq_getElem?_getD, List.getElem?_eq_getElem htl]; rfl
          by_cases h0 : row[t] < 0
          · refine Ev.now (fun k => ?_)
            rw [smithyref19_Parts.l1, if_pos (by omega), if_pos (by omega), hrd, if_pos (by omega), if_pos (by omega), hx, if_pos h0]
          · by_cases hN2 : row[t] ≥ (l0.length : Int)
            · refine Ev.now (fun k => ?_)
              rw [smithyref19_Parts.l1, if_pos (by omega), if_pos (by omega), hrd, if_pos (by omega), if_pos (by omega), hx, if_neg h0, if_pos hN2]
            · have h4 : (∃ x ∈ row.drop (t + 1), ¬ (0 ≤ x ∧ x < (l0.length : Int))) ∨ (∃ l ∈ l0.drop (j + 1), ∃ x ∈ l, ¬ (0 ≤ x ∧ x < (l0.length : Int))) := by
                rcases hh with ⟨x, hx2, hx3⟩ | h5
                · rw [List.drop_eq_getElem_cons htl, List.mem_cons] at hx2
                  rcases hx2 with h6 | h6
                  · rw [h6] at hx3; exact absurd ⟨by omega, by omega⟩ hx3
                  · exact .inl ⟨x, h6, hx3⟩
                · exact .inr h5
              refine Ev.next (ihe (t + 1) (by omega) h4) (fun k => ?_)
              rw [smithyref19_Parts.l1, if_pos (by omega), if_pos (by omega), hrd, if_pos (by omega), if_pos (by omega), hx, if_neg h0, if_neg hN2, w1_ htb]
      refine Ev.next (h1 row.length 0 (by omega) ?_) (fun k => ?_)
      · rw [List.drop_zero]
        obtain ⟨l, hl, h7⟩ := h
        rw [List.drop_eq_getElem_cons hjN, List.mem_cons] at hl
        rcases hl with h8 | h8
        · rw [h8, hrow] at h7; exact .inl h7
        · exact .inr ⟨l, h8, h7⟩
      · rw [smithyref19_Parts.l0, if_pos (by omega)]
        rfl
  exact Ev.same (key l0.length 0 (by omega) (by rw [List.drop_zero]; exact hbad)) (fun k => rfl)
theorem refParts_ev {l0 : List (List Int)} (hnet : netOk l0 = true) : Ev (fun k => smithyref19_Parts.f k l0) (resP l0) := by
  cases hok : okB l0 with
  | true =>
    have e : resP l0 = (partsZ l0, 0) := by unfold resP; rw [hok]; rfl
    rw [e]; exact refParts_ok hok hnet
  | false =>
    have e : resP l0 = ([], 4) := by unfold resP; rw [hok]; rfl
    rw [e]; exact refParts_bad hok hnet
/-- the parts are no more, and no longer, than the nodes. -/
theorem resP_small {l0 : List (List Int)} (hnet : netOk l0 = true) : (resP l0).1.length ≤ 17592186044416 ∧ ∀ v : Nat, (rd_L1 (resP l0).1 (v : Int)).length ≤ 17592186044416 := by
  obtain ⟨hN, hrl⟩ := net_rows' hnet
  cases hok : okB l0 with
  | false =>
    have e : resP l0 = ([], 4) := by unfold resP; rw [hok]; rfl
    rw [e]
    refine ⟨by simp, fun v => ?_⟩
    rw [row_at]; simp
  | true =>
    have e : resP l0 = (partsZ l0, 0) := by unfold resP; rw [hok]; rfl
    rw [e]
    have K := parts_ok cmpN_mem (nxc_lt hok)
    have hf := K.flat_len (parts_sorted cmpN_lt)
    have h5 : ∀ Q : List (List Nat), (∀ m ∈ Q, m ≠ []) → Q.length ≤ Q.flatten.length := by
      intro Q
      induction Q with
      | nil => intro _; simp
      | cons m Q ihQ =>
        intro hQ
        have h6 := ihQ (fun x hx => hQ x (List.mem_cons_of_mem _ hx))
        have h7 : 0 < m.length := List.length_pos_iff.2 (hQ m List.mem_cons_self)
        rw [List.flatten_cons, List.length_append, List.length_cons]; omega
    have h6 := h5 _ (fun m hm => (K.sc m hm).1)
    refine ⟨by show (partsZ l0).length ≤ _; unfold partsZ; rw [List.length_map]; omega, fun v => ?_⟩
    show (rd_L1 (partsZ l0) (v : Int)).length ≤ _
    rw [row_at, List.getD_eq_getElem?_getD]
    cases hv : (partsZ l0)[v]? with
    | none => simp
    | some l =>
      have := parts_small hok (List.mem_of_getElem? hv)
      show l.length ≤ _
      omega
theorem callsParts_plain {l0 : List (List Int)} (hnet : netOk l0 = true) : ∃ k, lawParts.f k l0 = some true := by
  obtain ⟨hN, hrl⟩ := net_rows' hnet
  have hp : calls_Parts.f l0 = some (resP l0) := by unfold calls_Parts.f; rw [if_pos hnet]
  obtain ⟨K1, h1⟩ := refParts_ev hnet
  obtain ⟨b, K2, h2⟩ := great_ev hN
  obtain ⟨hs1, hs2⟩ := resP_small hnet
  obtain ⟨K3, h3⟩ := sameRows_ev _ hs1 hs2
  refine ⟨max K1 (max K2 K3), ?_⟩
  have h1' := h1 (max K1 (max K2 K3)) (by omega)
  have h2' := h2 (max K1 (max K2 K3)) (by omega)
  have h3' := h3 (max K1 (max K2 K3)) (by omega)
  simp only at h1' h2' h3'
  unfold lawParts.f smithylaw19_awake.f
  rw [h2', Option.bind_some]
  cases b with
  | true => rfl
  | false => rw [if_neg (by decide), hp, Option.bind_some, h1', Option.bind_some, h3', Option.bind_some, if_pos rfl, if_pos rfl]; rfl
def wB (b : S64) : Nat := b.f0.length
def wG (g : S42) : Nat := g.f5.length + (g.f5.map wB).sum
/-- no list in a program is longer than memory lets it be. -/
def ProgOk (p : List S42) : Prop := p.length ≤ 17592186044416 ∧ ∀ g ∈ p, g.f5.length ≤ 17592186044416 ∧ ∀ b ∈ g.f5, b.f0.length ≤ 17592186044416
theorem wadd {a b : Nat} (h : a + b ≤ 9000000000000000000) : wrap64 ((a : Int) + (b : Int)) = ((a + b : Nat) : Int) := by unfold wrap64; omega
theorem t42_at {p : List S42} {i : Nat} (hi : i < p.length) : rd_T42 p (i : Int) = p[i] := by
  unfold rd_T42; rw [Int.toNat_natCast, List.getD_eq_getElem?_getD, List.getElem?_eq_getElem hi]; rfl
theorem t64_at {p : List S64} {i : Nat} (hi : i < p.length) : rd_T64 p (i : Int) = p[i] := by
  unfold rd_T64; rw [Int.toNat_natCast, List.getD_eq_getElem?_getD, List.getElem?_eq_getElem hi]; rfl
theorem wide_l1 {p : List S42} (hp : ProgOk p) (i : Nat) (hi : i < p.length)
    (ih : ∀ m : Nat, m ≤ 20000000000000 → ∃ b, Ev (fun k => smithylaw19_wide.l0 k p (m : Int) ((i + 1 : Nat) : Int)) b ∧ (b = false → p.length ≤ 120 ∧ m + ((p.drop (i + 1)).map wG).sum ≤ 3600)) :
    ∀ e j, j + e = p[i].f5.length → ∀ m : Nat, m ≤ 20000000000000 → ∃ b, Ev (fun k => smithylaw19_wide.l1 k p (m : Int) (i : Int) (j : Int)) b ∧ (b = false → p.length ≤ 120 ∧ m + ((p[i].f5.drop j).map wB).sum + ((p.drop (i + 1)).map wG).sum ≤ 3600) := by
  obtain ⟨hb1, hb2⟩ := hp.2 _ (List.getElem_mem hi)
  have hib : i ≤ 17592186044416 := by have := hp.1; omega
  intro e
  induction e with
  | zero =>
    intro j hj m hm
    obtain ⟨b, h1, h2⟩ := ih m hm
    refine ⟨b, Ev.next h1 (fun k => ?_), fun hb => ?_⟩
    · rw [smithylaw19_wide.l1, if_pos (by omega), if_pos (by omega), t42_at hi, if_neg (by omega), w1_ hib]
    · rw [List.drop_of_length_le (by omega)]
      obtain ⟨h3, h4⟩ := h2 hb
      exact ⟨h3, by simpa using h4⟩
  | succ e ihe =>
    intro j hj m hm
    have hjl : j < p[i].f5.length := by omega
    have hjb : j ≤ 17592186044416 := by omega
    have hd : p[i].f5.drop j = p[i].f5[j] :: p[i].f5.drop (j + 1) := List.drop_eq_getElem_cons hjl
    have hbl := hb2 _ (List.getElem_mem hjl)
    by_cases hm2 : m ≤ 3600
    · obtain ⟨b, h1, h2⟩ := ihe (j + 1) (by omega) (m + p[i].f5[j].f0.length) (by omega)
      refine ⟨b, Ev.next h1 (fun k => ?_), fun hb => ?_⟩
      · rw [smithylaw19_wide.l1, if_pos (by omega), if_pos (by omega), t42_at hi, if_pos (by omega), if_pos (by omega), if_pos (by omega), t64_at hjl, wadd (by omega), w1_ hjb]
      · obtain ⟨h3, h4⟩ := h2 hb
        refine ⟨h3, ?_⟩
        rw [hd, List.map_cons, List.sum_cons]
        show m + (p[i].f5[j].f0.length + _) + _ ≤ 3600
        omega
    · obtain ⟨b, h1, h2⟩ := ih m hm
      refine ⟨b, Ev.next h1 (fun k => ?_), fun hb => ?_⟩
      · rw [smithylaw19_wide.l1, if_pos (by omega), if_pos (by omega), t42_at hi, if_pos (by omega), if_neg (by omega), w1_ hib]
      · obtain ⟨h3, h4⟩ := h2 hb
        omega
theorem wide_end {p : List S42} (x4 : Int) (m : Nat) : ∃ b, Ev (fun k => smithylaw19_wide.j1 k p (m : Int) x4 false) b ∧ (b = false → p.length ≤ 120 ∧ m ≤ 3600) := by
  by_cases h : p.length ≤ 120
  · refine ⟨decide ((m : Int) > 3600), Ev.now (fun k => ?_), fun hb => ⟨h, ?_⟩⟩
    · rw [smithylaw19_wide.j1, if_neg (by decide), if_neg (by omega)]
    · have := of_decide_eq_false hb; omega
  · refine ⟨true, Ev.now (fun k => ?_), fun hb => by cases hb⟩
    rw [smithylaw19_wide.j1, if_neg (by decide), if_pos (by omega)]
theorem wide_l0 {p : List S42} (hp : ProgOk p) : ∀ d i, i + d = p.length → ∀ m : Nat, m ≤ 20000000000000 → ∃ b, Ev (fun k => smithylaw19_wide.l0 k p (m : Int) (i : Int)) b ∧ (b = false → p.length ≤ 120 ∧ m + ((p.drop i).map wG).sum ≤ 3600) := by
  intro d
  induction d with
  | zero =>
    intro i hi m hm
    obtain ⟨b, h1, h2⟩ := wide_end (p := p) (i : Int) m
    refine ⟨b, Ev.next h1 (fun k => ?_), fun hb => ?_⟩
    · rw [smithylaw19_wide.l0, if_neg (by omega)]
    · rw [List.drop_of_length_le (by omega)]
      obtain ⟨h3, h4⟩ := h2 hb
      exact ⟨h3, by simpa using h4⟩
  | succ d ih =>
    intro i hi m hm
    have hil : i < p.length := by omega
    have hd : p.drop i = p[i] :: p.drop (i + 1) := List.drop_eq_getElem_cons hil
    obtain ⟨hb1, hb2⟩ := hp.2 _ (List.getElem_mem hil)
    by_cases hm2 : m ≤ 3600
    · obtain ⟨b, h1, h2⟩ := wide_l1 hp i hil (fun m hm => ih (i + 1) (by omega) m hm) p[i].f5.length 0 (by omega) (m + p[i].f5.length) (by omega)
      refine ⟨b, Ev.next (G := fun k => smithylaw19_wide.j1 k p (m : Int) (i : Int) true) (Ev.next h1 (fun k => ?_)) (fun k => ?_), fun hb => ?_⟩
      · rw [smithylaw19_wide.j1, if_pos rfl, if_pos (by omega), if_pos (by omega), t42_at hil, wadd (by omega)]
        rfl
      · rw [smithylaw19_wide.l0, if_pos (by omega), decide_eq_true (by omega)]
      · obtain ⟨h3, h4⟩ := h2 hb
        rw [List.drop_zero] at h4
        refine ⟨h3, ?_⟩
        rw [hd, List.map_cons, List.sum_cons]
        unfold wG at h4 ⊢
        omega
    · obtain ⟨b, h1, h2⟩ := wide_end (p := p) (i : Int) m
      refine ⟨b, Ev.next h1 (fun k => ?_), fun hb => ?_⟩
      · rw [smithylaw19_wide.l0, if_pos (by omega), decide_eq_false (by omega)]
      · obtain ⟨h3, h4⟩ := h2 hb
        omega
theorem sum_mem {α : Type} (f : α → Nat) : ∀ {l : List α} {x : α}, x ∈ l → f x ≤ (l.map f).sum := by
  intro l
  induction l with
  | nil => intro x hx; cases hx
  | cons a l ih =>
    intro x hx
    rw [List.map_cons, List.sum_cons]
    rcases List.mem_cons.1 hx with rfl | h
    · omega
    · have := ih h; omega
theorem refs_len (n : Nat) (g : S42) : (refsG n g).length ≤ wG g := by
  unfold refsG wG
  have : ∀ l : List S64, (l.flatMap (refsB n)).length ≤ (l.map wB).sum := by
    intro l
    induction l with
    | nil => exact Nat.le_refl _
    | cons b l ih =>
      rw [List.flatMap_cons, List.length_append, List.map_cons, List.sum_cons]
      have h1 : (refsB n b).length ≤ wB b := by unfold refsB wB; rw [List.length_map]; exact List.length_filter_le _ _
      omega
  have := this g.f5
  omega
theorem wide_ev {p : List S42} (hp : ProgOk p) : ∃ b, Ev (fun k => smithylaw19_wide.f k p) b ∧ (b = false → callOk p = true) := by
  have := hp.1
  obtain ⟨b, h1, h2⟩ := wide_l0 hp p.length 0 (by omega) p.length (by omega)
  refine ⟨b, Ev.same h1 (fun k => rfl), fun hb => ?_⟩
  obtain ⟨h3, h4⟩ := h2 hb
  rw [List.drop_zero] at h4
  unfold callOk
  rw [Bool.and_eq_true, decide_eq_true_eq, List.all_eq_true]
  refine ⟨by omega, fun g hg => decide_eq_true ?_⟩
  have h5 := refs_len p.length g
  have h6 := sum_mem wG hg
  omega
/-- what Round says of a node of a part. -/
def valR (nx : List (List Int)) (n : Nat) (v : Nat) : Bool := decide (1 < n) || (nx.getD v []).contains (v : Int)
theorem row_val (nx : List (List Int)) (n v : Nat) : ∀ (l : List Int) (o : List Bool), (∀ x ∈ l, 0 ≤ x ∧ x.toNat < o.length) → (l.foldl (setR nx n) o).getD v false = if (v : Int) ∈ l then valR nx n v else o.getD v false := by
  intro l
  induction l with
  | nil => intro o _; rfl
  | cons a l ih =>
    intro o ho
    have ha := ho a List.mem_cons_self
    have hsl : (setR nx n o a).length = o.length := by unfold setR; rw [List.length_set]
    rw [List.foldl_cons, ih (setR nx n o a) (fun x hx => by rw [hsl]; exact ho x (List.mem_cons_of_mem _ hx))]
    by_cases h1 : (v : Int) ∈ l
    · rw [if_pos h1, if_pos (List.mem_cons_of_mem _ h1)]
    · rw [if_neg h1]
      unfold setR
      rw [getD_set ha.2]
      by_cases h2 : v = a.toNat
      · have e : (v : Int) = a := by omega
        rw [if_pos h2, if_pos (by rw [e]; exact List.mem_cons_self), ← h2, ← e]
        rfl
      · rw [if_neg h2, if_neg (fun h => by
          rcases List.mem_cons.1 h with h3 | h3
          · omega
          · exact h1 h3)]
theorem rounds_val (nx : List (List Int)) (n v : Nat) : ∀ (P : List (List Int)) (o : List Bool), (∀ l ∈ P, ∀ x ∈ l, 0 ≤ x ∧ x.toNat < o.length) → (∀ l ∈ P, (v : Int) ∈ l → l.length = n) → ((∃ l ∈ P, (v : Int) ∈ l) ∨ o.getD v false = valR nx n v) →
    (P.foldl (roundRow nx) o).getD v false = valR nx n v := by
  intro P
  induction P with
  | nil =>
    intro o _ _ h
    rcases h with ⟨l, hl, _⟩ | h
    · cases hl
    · exact h
  | cons l P ih =>
    intro o ho hn h
    rw [List.foldl_cons]
    have hlen : (roundRow nx o l).length = o.length := by unfold roundRow; exact foldl_row_len nx l.length l o
    refine ih _ (fun m hm x hx => by rw [hlen]; exact ho m (List.mem_cons_of_mem _ hm) x hx) (fun m hm hv => hn m (List.mem_cons_of_mem _ hm) hv) ?_
    have hrv := row_val nx l.length v l o (ho l List.mem_cons_self)
    by_cases hvl : (v : Int) ∈ l
    · refine .inr ?_
      unfold roundRow
      rw [hrv, if_pos hvl, hn l List.mem_cons_self hvl]
    · rcases h with ⟨m, hm, hvm⟩ | h
      · rcases List.mem_cons.1 hm with rfl | hm
        · exact absurd hvm hvl
        · exact .inl ⟨m, hm, hvm⟩
      · refine .inr ?_
        unfold roundRow
        rw [hrv, if_neg hvl]; exact h
theorem rounds_len (nx : List (List Int)) : ∀ (P : List (List Int)) (o : List Bool), (P.foldl (roundRow nx) o).length = o.length := by
  intro P
  induction P with
  | nil => intro o; rfl
  | cons l P ih => intro o; rw [List.foldl_cons, ih]; unfold roundRow; exact foldl_row_len nx l.length l o
theorem roundL_len (p : List S42) : (roundL p).length = p.length := by unfold roundL; rw [rounds_len, List.length_replicate]
theorem resP_called (p : List S42) : resP (calledL p) = (partsZ (calledL p), 0) := by unfold resP; rw [if_pos (okB_called p)]
/-- a node stands in one part alone. -/
theorem parts_same {l0 : List (List Int)} (hok : okB l0 = true) {l m : List Int} (hl : l ∈ partsZ l0) (hm : m ∈ partsZ l0) {x : Int} (hx : x ∈ l) (hx2 : x ∈ m) : l = m := by
  have K := parts_ok cmpN_mem (nxc_lt hok)
  unfold partsZ at hl hm
  obtain ⟨a, ha, rfl⟩ := List.mem_map.1 hl
  obtain ⟨b, hb, rfl⟩ := List.mem_map.1 hm
  obtain ⟨u, hu, rfl⟩ := List.mem_map.1 hx
  obtain ⟨w, hw, e⟩ := List.mem_map.1 hx2
  have e' : w = u := Int.ofNat.inj e
  rw [e'] at hw
  obtain ⟨i, hi, ei⟩ := List.getElem_of_mem ha
  obtain ⟨j, hj, ej⟩ := List.getElem_of_mem hb
  by_cases hij : i = j
  · subst hij
    rw [← ei, ← ej]
  · exact absurd hw (K.one i j a b (by rw [List.getElem?_eq_getElem hi, ei]) (by rw [List.getElem?_eq_getElem hj, ej]) hij u hu)
theorem roundL_at (p : List S42) {l : List Int} (hl : l ∈ partsZ (calledL p)) {v : Nat} (hv : (v : Int) ∈ l) : (roundL p).getD v false = valR (calledL p) l.length v := by
  unfold roundL
  rw [resP_called]
  refine rounds_val (calledL p) l.length v _ _ (fun m hm x hx => ?_) (fun m hm hvm => ?_) (.inl ⟨l, hl, hv⟩)
  · have := parts_in (okB_called p) hm hx
    rw [called_len] at this
    rw [List.length_replicate]; omega
  · rw [parts_same (okB_called p) hm hl hvm hv]
theorem in_nxc {l0 : List (List Int)} (hok : okB l0 = true) (v x : Nat) : x ∈ nxc l0 v ↔ (x : Int) ∈ l0.getD v [] := by
  unfold nxc
  rw [cmpN_mem, List.mem_map]
  constructor
  · rintro ⟨y, hy, rfl⟩
    rw [Int.toNat_of_nonneg (okB_at hok hy).1]; exact hy
  · intro h; exact ⟨(x : Int), h, Int.toNat_natCast x⟩
theorem round_re {p : List S42} {v : Nat} (hv : v < p.length) {b : Bool} (hb : b = true ↔ Re1 (es (calledL p)) v v) : (roundL p).getD v false = b := by
  have hok := okB_called p
  have K := parts_ok cmpN_mem (nxc_lt hok)
  obtain ⟨m, hm, hvm⟩ := (K.all v).1 (by rw [called_len]; exact hv)
  have hl : m.map Int.ofNat ∈ partsZ (calledL p) := List.mem_map.2 ⟨m, hm, rfl⟩
  rw [roundL_at p hl (v := v) (List.mem_map.2 ⟨v, hvm, rfl⟩), Bool.eq_iff_iff, hb]
  have h1 : Re1 (es (calledL p)) v v ↔ Re1 (nxc (calledL p)) v v :=
    ⟨fun h => h.same (fun v x hx => by unfold nxc; rw [cmpN_mem]; exact hx), fun h => h.same (fun v x hx => by unfold nxc at hx; rw [cmpN_mem] at hx; exact hx)⟩
  rw [h1, K.round (parts_sorted cmpN_lt) hm hvm, in_nxc hok]
  unfold valR
  rw [Bool.or_eq_true, decide_eq_true_eq, List.length_map, List.contains_iff_mem]
theorem refRound_ev {p : List S42} (hc : callOk p = true) (hpN : p.length ≤ 5864062014805) : Ev (fun k => smithyref19_Round.f k p) (roundL p) := by
  have hok := okB_called p
  obtain ⟨hN, hrl⟩ := net_rows' (called_small hc)
  have hcl := called_len p
  have hrN := roundL_len p
  have key : ∀ d j, j + d = p.length → Ev (fun k => smithyref19_Round.l0 k p (calledL p) ((roundL p).take j) (j : Int)) (roundL p) := by
    intro d
    induction d with
    | zero =>
      intro j hj
      refine Ev.now (fun k => ?_)
      rw [smithyref19_Round.l0, if_neg (by omega), List.take_of_length_le (by omega)]
    | succ d ih =>
      intro j hj
      have hjN : j < (calledL p).length := by omega
      have hjb : j ≤ 17592186044416 := by omega
      have hjr : j < (roundL p).length := by omega
      obtain ⟨x, ⟨hx1, hx2⟩, hx3⟩ := reached_ev hok hN hrl hjN
      have e : (roundL p).take (j + 1) = (roundL p).take j ++ [rdOf false x (j : Int)] := by
        rw [List.take_succ_eq_append_getElem hjr]
        have := round_re (p := p) (v := j) (by omega) (hx2 j hjN)
        rw [List.getD_eq_getElem?_getD, List.getElem?_eq_getElem hjr] at this
        congr 2
      have htl : ((roundL p).take j).length = j := by rw [List.length_take]; omega
      have G : Ev (fun k => (smithyref19_reached.f k (calledL p) (j : Int)).bind fun t355 => (if 0 ≤ (j : Int) then (if (j : Int) < (t355.length : Int) then (if ((roundL p).take j).length < 140737488355328 then (smithyref19_Round.l0 k p (calledL p) ((roundL p).take j ++ [rdOf false t355 (j : Int)]) ((j + 1 : Nat) : Int)) else (none)) else (none)) else (none))) (roundL p) :=
        Ev.bind (B := fun (t355 : List Bool) k => if 0 ≤ (j : Int) then (if (j : Int) < (t355.length : Int) then (if ((roundL p).take j).length < 140737488355328 then (smithyref19_Round.l0 k p (calledL p) ((roundL p).take j ++ [rdOf false t355 (j : Int)]) ((j + 1 : Nat) : Int)) else (none)) else (none)) else (none)) hx3
          (Ev.same (ih (j + 1) (by omega)) (fun k => by rw [if_pos (by omega), if_pos (by rw [hx1]; omega), if_pos (by omega), e]))
      refine Ev.next G (fun k => ?_)
      rw [smithyref19_Round.l0, if_pos (by omega), w1_ hjb]
  refine Ev.same (key p.length 0 (by omega)) (fun k => ?_)
  unfold smithyref19_Round.f smithyref19_Called.f
  rw [if_pos hpN]
  rfl
theorem sameTruths_ev (l : List Bool) (hl : l.length ≤ 17592186044416) : Ev (fun k => smithykit_SameTruths.f k l l) true := by
  have key : ∀ d j, j + d = l.length → Ev (fun k => smithykit_SameTruths.l0 k l l (j : Int)) true := by
    intro d
    induction d with
    | zero =>
      intro j hj
      refine Ev.now (fun k => ?_)
      rw [smithykit_SameTruths.l0, if_neg (by omega)]
    | succ d ih =>
      intro j hj
      refine Ev.next (ih (j + 1) (by omega)) (fun k => ?_)
      rw [smithykit_SameTruths.l0, if_pos (by omega), if_pos (by omega), if_pos (by omega), if_neg (by simp), w1_ (by omega)]
  exact Ev.same (key l.length 0 (by omega)) (fun k => by unfold smithykit_SameTruths.f; rw [if_pos rfl]; rfl)
theorem callsCalled_plain {p : List S42} (hp : ProgOk p) : ∃ k, lawCalled.f k p = some true := by
  obtain ⟨b, ⟨K1, h1⟩, h2⟩ := wide_ev hp
  cases b with
  | true =>
    refine ⟨K1, ?_⟩
    have h1' := h1 K1 (Nat.le_refl _)
    simp only at h1'
    unfold lawCalled.f smithylaw19_awake.f
    rw [h1', Option.bind_some, if_pos rfl, Option.bind_some]
  | false =>
    have hc := h2 rfl
    have hcl := called_len p
    have hrN := roundL_len p
    obtain ⟨hN, hrl⟩ := net_rows' (called_small hc)
    obtain ⟨K2, h3⟩ := sameRows_ev (calledL p) (by omega) (fun v => by rw [row_len]; exact hrl v)
    obtain ⟨K3, h4⟩ := refRound_ev hc (by omega)
    obtain ⟨K4, h5⟩ := sameTruths_ev (roundL p) (by omega)
    refine ⟨max (max K1 K2) (max K3 K4), ?_⟩
    have h1' := h1 (max (max K1 K2) (max K3 K4)) (by omega)
    have h3' := h3 (max (max K1 K2) (max K3 K4)) (by omega)
    have h4' := h4 (max (max K1 K2) (max K3 K4)) (by omega)
    have h5' := h5 (max (max K1 K2) (max K3 K4)) (by omega)
    simp only at h1' h3' h4' h5'
    have e1 : calls_Called.f p = some (calledL p) := by unfold calls_Called.f; rw [if_pos hc]
    have e2 : calls_Round.f p = some (roundL p) := by unfold calls_Round.f; rw [if_pos hc]
    have e3 : smithyref19_Called.f p = some (calledL p) := by unfold smithyref19_Called.f; rw [if_pos (by omega)]
    unfold lawCalled.f smithylaw19_awake.f
    rw [h1', Option.bind_some, if_neg (by decide), e1, Option.bind_some, e3, Option.bind_some, h3', Option.bind_some, if_pos rfl, e2, Option.bind_some, h4', Option.bind_some, h5', Option.bind_some, if_pos rfl, Option.bind_some]
def progB (p : List S42) : Bool := decide (p.length ≤ 17592186044416) && p.all fun g => decide (g.f5.length ≤ 17592186044416) && g.f5.all fun b => decide (b.f0.length ≤ 17592186044416)
theorem progB_ok {p : List S42} (h : progB p = true) : ProgOk p := by
  unfold progB at h
  rw [Bool.and_eq_true, decide_eq_true_eq, List.all_eq_true] at h
  refine ⟨h.1, fun g hg => ?_⟩
  have h2 := h.2 g hg
  rw [Bool.and_eq_true, decide_eq_true_eq, List.all_eq_true] at h2
  exact ⟨h2.1, fun b hb => by simpa using h2.2 b hb⟩
theorem lawParts_true (w : World) (A0 : Option Addr) (c0 : Nat) (l0 : List (List Int)) (hC : Kd.C (Kd.slice 3 (Kd.int .i64)) w A0 l0.length l0) (hc : l0.length ≤ c0) (hnet : netOk l0 = true) :
    Calls Try.prog 3 #[.slice A0 l0.length c0] w fun e w' => e = .returned (.bool true) ∧ Below w.heap.size w w' := by
  obtain ⟨k, hk⟩ := callsParts_plain hnet
  exact lawParts.calls k A0 c0 l0 true w hC hc hk
theorem lawCalled_true (w : World) (A0 : Option Addr) (c0 : Nat) (p : List S42) (hC : Kd.C k42 w A0 p.length p) (hc : p.length ≤ c0) (hok : progB p = true) :
    Calls Try.prog 4 #[.slice A0 p.length c0] w fun e w' => e = .returned (.bool true) ∧ Below w.heap.size w w' := by
  obtain ⟨k, hk⟩ := callsCalled_plain (progB_ok hok)
  exact lawCalled.calls k A0 c0 p true w hC hc hk
end Go.Proofs.Ytligpleningglaa.Cw
