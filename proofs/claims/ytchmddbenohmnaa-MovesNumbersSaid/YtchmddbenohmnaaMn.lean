/- The law MovesNumbers, walked: it answers true if its plain function tells so. (Printed by px.py, a program of this session, by way of the kit's print, and cut to the ways that answer true by mkmn.py.) -/
import Derived.Test.YtchmddbenohmnaaFx0
import Derived.Test.YtchmddbenohmnaaFx6
import Derived.Test.YtchmddbenohmnaaFx7
import Derived.Test.YtchmddbenohmnaaFx8
import Derived.Test.YtchmddbenohmnaaRr
namespace Go.Proofs.Ytchmddbenohmnaa.F
open Go.RowKit Go.Proofs.YtchmddbenohmnaaW.PrintWords Go.Proofs.YtchmddbenohmnaaW.PrintLast Go.Proofs.YtchmddbenohmnaaW.PrintMore
attribute [local go_sem] max2_int min2_int max_two min_two max_three min_three max_four min_four   -- for this text's walks alone
set_option linter.unusedVariables false
set_option linter.unusedSimpArgs false

/-! ### smithylaw22_MovesRows: function 3 -/
/-- the law MovesRows itself: the walk stands in YtchmddbenohmnaaRr. -/
def smithylaw22_MovesRows.f (l0 : List (S43)) (a1 : Int) : Option Bool := if Mv.okM l0 = true ∧ (Lit.int .i64 a1).wf = true then some true else none
theorem smithylaw22_MovesRows.calls (A0 : Option Addr) (c0 : Nat) (l0 : List (S43)) (a1 : Int) (r : Bool) (w : World) (hr0 : Kd.C k43 w A0 l0.length l0) (hc0 : l0.length ≤ c0) (h : smithylaw22_MovesRows.f l0 a1 = some r) :
    Calls Try.prog 3 #[.slice A0 l0.length c0, .int .i64 a1] w fun e w' => e = .returned (.bool r) ∧ Below w.heap.size w w' := by
  unfold smithylaw22_MovesRows.f at h
  by_cases c : Mv.okM l0 = true ∧ (Lit.int .i64 a1).wf = true
  · rw [if_pos c] at h
    injection h with h
    subst h
    exact Mv.rows_calls A0 c0 l0 a1 w hr0 hc0 c.1 c.2
  · rw [if_neg c] at h; cases h

-- NOT PRINTED: function 16 (smithykit_LentInts)

/-! ### smithylaw22_MovesNumbers: function 5 -/
mutual
def smithylaw22_MovesNumbers.l0 : Nat → Int → Option (Bool)
  | 0, _ => none
  | k + 1, x1 => if x1 < 64 then ((some (([(⟨0, Int.tmod x1 4⟩ : S43), (⟨1, Int.tmod (wrap64 (Int.tdiv x1 4)) 4⟩ : S43), (⟨2, wrap64 (Int.tdiv x1 16)⟩ : S43)] : List (S43)) : List (S43))).bind fun y488 => ((smithylaw22_MovesRows.f y488 (-1)).bind fun t491 => (if t491 = true then ((smithylaw22_MovesRows.f y488 9).bind fun t492 => (if t492 = true then ((smithylaw22_MovesRows.f y488 3).bind fun t493 => (if t493 = true then (if 1 ≤ (y488.length : Int) then ((smithylaw22_MovesRows.f (y488.drop 1) 0).bind fun t499 => (if t499 = true then (smithylaw22_MovesNumbers.l0 k (wrap64 (x1 + 1))) else (some false))) else (none)) else (some false))) else (some false))) else (some false)))) else (smithylaw22_MovesNumbers.l1 k ([] : List (S43)) ([] : List (S43)) 0)
def smithylaw22_MovesNumbers.l1 : Nat → List (S43) → List (S43) → Int → Option (Bool)
  | 0, _, _, _ => none
  | k + 1, x3, x4, x5 => if x5 < 5000 then (if x3.length < 8796093022208 then (if x4.length < 8796093022208 then (smithylaw22_MovesNumbers.l1 k (x3 ++ [(⟨wrap64 (x5 + 1), x5⟩ : S43)]) (x4 ++ [(⟨x5, Int.tmod (wrap64 (x5 + 1)) 5000⟩ : S43)]) (wrap64 (x5 + 1))) else (none)) else (none)) else ((moves_Row.f k x3 (-1)).bind fun bt506 => ((moves_Row.f k x4 4611686018427387904).bind fun bt510 => (if bt506.2 = 0 then (if (bt506.1.length : Int) = 5000 then (if bt510.2 = 0 then (if (bt510.1.length : Int) > 5001 then (smithylaw22_MovesNumbers.j2 k true) else ((smithylaw22_numbers.f k 5001).bind fun t514 => ((moves_Did.f bt506.1 t514).bind fun t517 => ((smithylaw22_did.f k x3 5001).bind fun t520 => ((smithykit_SameInts.f k t517 t520).bind fun t523 => (smithylaw22_MovesNumbers.j2 k (!t523))))))) else (smithylaw22_MovesNumbers.j2 k true)) else (smithylaw22_MovesNumbers.j2 k true)) else (smithylaw22_MovesNumbers.j2 k true))))
def smithylaw22_MovesNumbers.j2 : Nat → Bool → Option (Bool)
  | 0, _ => none
  | k + 1, x107 => if x107 = true then (some false) else (smithylaw22_MovesNumbers.l2 k (([(([(⟨0, 5⟩ : S43), (⟨0, 6⟩ : S43)] : List (S43))), (([(⟨0, (-1)⟩ : S43)] : List (S43))), (([(⟨(-1), 0⟩ : S43)] : List (S43)))] : List (List (S43)))) 0)
def smithylaw22_MovesNumbers.l2 : Nat → List (List (S43)) → Int → Option (Bool)
  | 0, _, _ => none
  | k + 1, x10, x11 => if x11 < (x10.length : Int) then (if 0 ≤ x11 then ((moves_Row.f k (rd_L2 x10 x11) (-1)).bind fun bt537 => (if bt537.2 = 2 then (smithylaw22_MovesNumbers.l2 k x10 (wrap64 (x11 + 1))) else (some false))) else (none)) else ((moves_Row.f k (([(⟨0, 1⟩ : S43)] : List (S43))) 1).bind fun bt544 => ((moves_Row.f k ([] : List (S43)) (-2)).bind fun bt548 => ((moves_Row.f k (([(⟨3, 3⟩ : S43)] : List (S43))) (-1)).bind fun bt555 => (if bt544.2 = 2 then (if bt548.2 = 2 then (if (bt555.1.length : Int) = 0 then (if bt555.2 = 0 then ((smithylaw22_MovesRows.f (([(⟨4611686018427387904, 0⟩ : S43), (⟨0, 4611686018427387904⟩ : S43)] : List (S43))) 9223372036854775807).bind fun t562 => (if t562 = true then ((smithylaw22_awake.f k).bind fun t563 => (some t563)) else (some false))) else (some false)) else (some false)) else (some false)) else (some false)))))
end
def smithylaw22_MovesNumbers.f (k : Nat)  : Option (Bool) := smithylaw22_MovesNumbers.l0 k 0
set_option maxHeartbeats 8000000 in
set_option maxRecDepth 100000 in
theorem smithylaw22_MovesNumbers.calls (k : Nat)  (w : World) (h : smithylaw22_MovesNumbers.f k  = some true) :
    Calls Try.prog 5 #[] w fun e w' => e = .returned (.bool true) ∧ Below w.heap.size w w' := by
  have hu43 := Try.underlying43
  have HB := Aside0.mk (Below.refl w.heap.size w)
  have H : (smithylaw22_MovesNumbers.l0 k 0) = some true := h
  clear h
  have H' := Aside0.mk H
  clear H
  go_enter Try.func5, Try.ntmps5
  go_wp2
  go_loopg [1] k (fun kq v1 w' => ∃ (x1_1 : Int), v1 = .int .i64 x1_1 ∧ Aside0 (smithylaw22_MovesNumbers.l0 kq x1_1 = some true) ∧ Aside0 (kq ≤ k) ∧ Aside0 (Below w.heap.size w w'))
  case atStart => exact ⟨(0), (by first | rfl | (simp; done) | (simp [*]; done)), H', ⟨Nat.le_refl _⟩, ⟨by repeat (first | (with_reducible first | exact HB.out | apply below_alloc | apply pw_below_drewN | apply below_drew1) | exact HB.out)⟩⟩
  case round =>
    clear H'
    obtain ⟨x1_1, rfl, HA, HK1, HB⟩ := hrel
    cases gk with
    | zero => exact absurd HA.out (by simp [smithylaw22_MovesNumbers.l0])
    | succ k1 =>
      have H := HA.out
      clear HA
      simp only [smithylaw22_MovesNumbers.l0] at H
      by_cases c1 : x1_1 < 64
      · rw [if_pos c1] at H
        have c1b0 : decide (x1_1 < 64) = true := decide_eq_true c1
        clear c1
        obtain ⟨y488, hy488⟩ : ∃ y_ : List (S43), y_ = (([(⟨0, Int.tmod x1_1 4⟩ : S43), (⟨1, Int.tmod (wrap64 (Int.tdiv x1_1 4)) 4⟩ : S43), (⟨2, wrap64 (Int.tdiv x1_1 16)⟩ : S43)] : List (S43))) := ⟨_, rfl⟩
        replace H : ((smithylaw22_MovesRows.f y488 (-1)).bind fun t491 => (if t491 = true then ((smithylaw22_MovesRows.f y488 9).bind fun t492 => (if t492 = true then ((smithylaw22_MovesRows.f y488 3).bind fun t493 => (if t493 = true then (if 1 ≤ (y488.length : Int) then ((smithylaw22_MovesRows.f (y488.drop 1) 0).bind fun t499 => (if t499 = true then (smithylaw22_MovesNumbers.l0 k1 (wrap64 (x1_1 + 1))) else (some false))) else (none)) else (some false))) else (some false))) else (some false))) = some true := by first | (rw [hy488]; with_reducible exact H) | (have H2_ := (Option.bind_some _ _).symm.trans H; rw [hy488]; with_reducible exact H2_) | (have H2_ := (Option.bind_some _ _).symm.trans H; with_reducible exact H2_) | with_reducible exact H | (rw [hy488]; exact H) | exact H
        have Ny488 := Aside0.mk hy488
        clear hy488
        replace H := Option.bind_eq_some_iff.mp H
        obtain ⟨t491, A20, H⟩ := H
        replace H : (if t491 = true then ((smithylaw22_MovesRows.f y488 9).bind fun t492 => (if t492 = true then ((smithylaw22_MovesRows.f y488 3).bind fun t493 => (if t493 = true then (if 1 ≤ (y488.length : Int) then ((smithylaw22_MovesRows.f (y488.drop 1) 0).bind fun t499 => (if t499 = true then (smithylaw22_MovesNumbers.l0 k1 (wrap64 (x1_1 + 1))) else (some false))) else (none)) else (some false))) else (some false))) else (some false)) = some true := H
        have A2 := Aside0.mk A20
        clear A20
        by_cases c3 : t491 = true
        · subst c3
          have H1 : ((smithylaw22_MovesRows.f y488 9).bind fun t492 => (if t492 = true then ((smithylaw22_MovesRows.f y488 3).bind fun t493 => (if t493 = true then (if 1 ≤ (y488.length : Int) then ((smithylaw22_MovesRows.f (y488.drop 1) 0).bind fun t499 => (if t499 = true then (smithylaw22_MovesNumbers.l0 k1 (wrap64 (x1_1 + 1))) else (some false))) else (none)) else (some false))) else (some false))) = some true := by rw [if_pos rfl] at H; exact H
          clear H
          have H := H1
          clear H1
          replace H := Option.bind_eq_some_iff.mp H
          obtain ⟨t492, A40, H⟩ := H
          replace H : (if t492 = true then ((smithylaw22_MovesRows.f y488 3).bind fun t493 => (if t493 = true then (if 1 ≤ (y488.length : Int) then ((smithylaw22_MovesRows.f (y488.drop 1) 0).bind fun t499 => (if t499 = true then (smithylaw22_MovesNumbers.l0 k1 (wrap64 (x1_1 + 1))) else (some false))) else (none)) else (some false))) else (some false)) = some true := H
          have A4 := Aside0.mk A40
          clear A40
          by_cases c5 : t492 = true
          · subst c5
            have H1 : ((smithylaw22_MovesRows.f y488 3).bind fun t493 => (if t493 = true then (if 1 ≤ (y488.length : Int) then ((smithylaw22_MovesRows.f (y488.drop 1) 0).bind fun t499 => (if t499 = true then (smithylaw22_MovesNumbers.l0 k1 (wrap64 (x1_1 + 1))) else (some false))) else (none)) else (some false))) = some true := by rw [if_pos rfl] at H; exact H
            clear H
            have H := H1
            clear H1
            replace H := Option.bind_eq_some_iff.mp H
            obtain ⟨t493, A60, H⟩ := H
            replace H : (if t493 = true then (if 1 ≤ (y488.length : Int) then ((smithylaw22_MovesRows.f (y488.drop 1) 0).bind fun t499 => (if t499 = true then (smithylaw22_MovesNumbers.l0 k1 (wrap64 (x1_1 + 1))) else (some false))) else (none)) else (some false)) = some true := H
            have A6 := Aside0.mk A60
            clear A60
            by_cases c7 : t493 = true
            · subst c7
              have H1 : (if 1 ≤ (y488.length : Int) then ((smithylaw22_MovesRows.f (y488.drop 1) 0).bind fun t499 => (if t499 = true then (smithylaw22_MovesNumbers.l0 k1 (wrap64 (x1_1 + 1))) else (some false))) else (none)) = some true := by rw [if_pos rfl] at H; exact H
              clear H
              have H := H1
              clear H1
              by_cases c8 : 1 ≤ (y488.length : Int)
              · rw [if_pos c8] at H
                have c8b0 := eq_true c8
                have c8b1 : decide (1 ≤ (y488.length : Int)) = true := decide_eq_true c8
                clear c8
                obtain ⟨y494, hy494⟩ : ∃ y_ : List (S43), y_ = (y488.drop 1) := ⟨_, rfl⟩
                replace H : ((smithylaw22_MovesRows.f y494 0).bind fun t499 => (if t499 = true then (smithylaw22_MovesNumbers.l0 k1 (wrap64 (x1_1 + 1))) else (some false))) = some true := by first | (rw [hy494]; with_reducible exact H) | (have H2_ := (Option.bind_some _ _).symm.trans H; rw [hy494]; with_reducible exact H2_) | (have H2_ := (Option.bind_some _ _).symm.trans H; with_reducible exact H2_) | with_reducible exact H | (rw [hy494]; exact H) | exact H
                have Ny494 := Aside0.mk hy494
                clear hy494
                replace H := Option.bind_eq_some_iff.mp H
                obtain ⟨t499, A90, H⟩ := H
                replace H : (if t499 = true then (smithylaw22_MovesNumbers.l0 k1 (wrap64 (x1_1 + 1))) else (some false)) = some true := H
                have A9 := Aside0.mk A90
                clear A90
                by_cases c10 : t499 = true
                · subst c10
                  have H1 : (smithylaw22_MovesNumbers.l0 k1 (wrap64 (x1_1 + 1))) = some true := by rw [if_pos rfl] at H; exact H
                  clear H
                  have H := H1
                  clear H1
                  have H' := Aside0.mk H
                  clear H
                  go_wp2_with (first | ((with_reducible refine gate_dst (N := 34) rfl ?_); (try (refine gate_guard (by rfl) ?_; dsimp only)); refine Kd.R_lit k43 _ 43 ?hg (N := 34) ?hd (xs := ([(⟨0, Int.tmod x1_1 4⟩ : S43), (⟨1, Int.tmod (wrap64 (Int.tdiv x1_1 4)) 4⟩ : S43), (⟨2, wrap64 (Int.tdiv x1_1 16)⟩ : S43)] : List (S43))) (inner := [.int .i64 0, .int .i64 (Int.tmod x1_1 4), .int .i64 1, .int .i64 (Int.tmod (wrap64 (Int.tdiv x1_1 4)) 4), .int .i64 2, .int .i64 (wrap64 (Int.tdiv x1_1 16))]) (ok := fun _ => True) (okp := fun _ => True) ?hr ?hp (fun _ hk => hk) trivial (Below.refl _ _) (Nat.le_refl _) (by simp) ?_; (case hd => rfl); (case hg => rfl); (case hr => first | (go_simp; done) | (go_simp; rfl)); (case hp => exact (Reps.c2 (show Kd.M k43 _ _ _ (⟨0, Int.tmod x1_1 4⟩ : S43) [.int .i64 0, .int .i64 (Int.tmod x1_1 4)] from (k43_mkM _ _ _ (⟨0, Int.tmod x1_1 4⟩ : S43) )) (Reps.c2 (show Kd.M k43 _ _ _ (⟨1, Int.tmod (wrap64 (Int.tdiv x1_1 4)) 4⟩ : S43) [.int .i64 1, .int .i64 (Int.tmod (wrap64 (Int.tdiv x1_1 4)) 4)] from (k43_mkM _ _ _ (⟨1, Int.tmod (wrap64 (Int.tdiv x1_1 4)) 4⟩ : S43) )) (Reps.c2 (show Kd.M k43 _ _ _ (⟨2, wrap64 (Int.tdiv x1_1 16)⟩ : S43) [.int .i64 2, .int .i64 (wrap64 (Int.tdiv x1_1 16))] from (k43_mkM _ _ _ (⟨2, wrap64 (Int.tdiv x1_1 16)⟩ : S43) )) (Reps.none _ _))))); intro v489 w11 ho12 hb hg_ hnew_; clear hg_ hnew_; (first | rw [← Ny488.out] at ho12 | (simp only [Int.reduceToNat] at ho12; rw [← Ny488.out] at ho12)); have n0_ := Aside0.mk (Kd.R_lower ho12 (below_size (by repeat (first | (with_reducible first | exact HB.out | apply below_alloc | apply pw_below_drewN | apply below_drew1) | exact HB.out)))); have n1_ := Aside0.mk (below_step (by repeat (first | (with_reducible first | exact HB.out | apply below_alloc | apply pw_below_drewN | apply below_drew1) | exact HB.out)) hb); clear HB; have HO490 := n0_; have HB := n1_; clear n0_ n1_; clear hb ho12; obtain ⟨Ao13, co13, eo13⟩ := Kd.R_slice HO490.out; subst eo13) | ((with_reducible refine gate_callee (f := 3) rfl ?_); refine goesL_ (some 36) rfl rfl Try.func3 (by kernel_rfl) rfl #[.slice Ao13 y488.length co13, .int .i64 (-1)] rfl (by (try simp only [List.map_toArray, List.map_cons, List.map_nil]); first | done | rfl | (simp only [List.length_drop, List.length_take]; rfl)) ?_; (with_reducible refine (smithylaw22_MovesRows.calls _ _ y488 (-1) true _ ?side1 ?side2 A2.out).mono ?_); (case side1 => repeat (first | exact (Kd.R_reads' HO490.out).2.2 | (with_reducible refine Kd.C_alloc ?_ _) | (with_reducible refine Kd.C_drewN ?_ _) | (with_reducible refine Kd.C_drew ?_))); (case side2 => exact (Kd.R_reads' HO490.out).2.1); rintro e w14 ⟨rfl, hb⟩; refine ⟨_, rfl, ?_⟩; have n0_ := Aside0.mk (Kd.R_below (by (with_reducible repeat (first | apply Kd.R_alloc | apply Kd.R_drewN | apply Kd.R_drew)); exact HO490.out) hb); have n1_ := Aside0.mk (below_step (by repeat (first | (with_reducible first | exact HB.out | apply below_alloc | apply pw_below_drewN | apply below_drew1) | exact HB.out)) hb); clear HO490; clear HB; have HO490 := n0_; have HB := n1_; clear n0_ n1_; (try clear hb); (try clear hb2); (try clear hk); (try clear hi)) | (go_at_call 3; (with_reducible refine (smithylaw22_MovesRows.calls _ _ y488 9 true _ ?side1 ?side2 A4.out).mono ?_); (case side1 => repeat (first | exact (Kd.R_reads' HO490.out).2.2 | (with_reducible refine Kd.C_alloc ?_ _) | (with_reducible refine Kd.C_drewN ?_ _) | (with_reducible refine Kd.C_drew ?_))); (case side2 => exact (Kd.R_reads' HO490.out).2.1); rintro e w15 ⟨rfl, hb⟩; have n0_ := Aside0.mk (Kd.R_below (by (with_reducible repeat (first | apply Kd.R_alloc | apply Kd.R_drewN | apply Kd.R_drew)); exact HO490.out) hb); have n1_ := Aside0.mk (below_step (by repeat (first | (with_reducible first | exact HB.out | apply below_alloc | apply pw_below_drewN | apply below_drew1) | exact HB.out)) hb); clear HO490; clear HB; have HO490 := n0_; have HB := n1_; clear n0_ n1_; (try clear hb); (try clear hb2); (try clear hk); (try clear hi)) | (go_at_call 3; (with_reducible refine (smithylaw22_MovesRows.calls _ _ y488 3 true _ ?side1 ?side2 A6.out).mono ?_); (case side1 => repeat (first | exact (Kd.R_reads' HO490.out).2.2 | (with_reducible refine Kd.C_alloc ?_ _) | (with_reducible refine Kd.C_drewN ?_ _) | (with_reducible refine Kd.C_drew ?_))); (case side2 => exact (Kd.R_reads' HO490.out).2.1); rintro e w16 ⟨rfl, hb⟩; have n0_ := Aside0.mk (Kd.R_below (by (with_reducible repeat (first | apply Kd.R_alloc | apply Kd.R_drewN | apply Kd.R_drew)); exact HO490.out) hb); have n1_ := Aside0.mk (below_step (by repeat (first | (with_reducible first | exact HB.out | apply below_alloc | apply pw_below_drewN | apply below_drew1) | exact HB.out)) hb); clear HO490; clear HB; have HO490 := n0_; have HB := n1_; clear n0_ n1_; (try clear hb); (try clear hb2); (try clear hk); (try clear hi); have q17 : (1 : Int) ≤ ((y488.length : Int) : Int) := of_decide_eq_true (by first | (with_reducible assumption) | assumption); obtain ⟨i017, hi017, _, hsz17, _⟩ := info_parts info43; have hroom17 : y488.length ≤ co13 := (Kd.R_reads' HO490.out).2.1; have hC17 : Kd.F k43 _ _ Ao13 y488.length y488 := (Kd.V_at (base := w.heap.size) (Kd.R_V HO490.out)).2.2; have hcut17 := cut_from (P := Try.prog) 22 43 .i64 Try.underlying22 hi017 2 hsz17 Ao13 y488.length co13 1 (by omega) q17; have hr17 := Kd.F_cut (m := (1 : Int).toNat) (c := co13) hC17 (by omega) hroom17; obtain ⟨A17, hA17⟩ : ∃ A1, A1 = (if co13 = (1 : Int).toNat then Ao13 else (Ao13 : Option Addr).map (·.add ((1 : Int).toNat * 2))) := ⟨_, rfl⟩; obtain ⟨c17, hc17⟩ : ∃ c1, c1 = co13 - (1 : Int).toNat := ⟨_, rfl⟩; have hy17 : y494.length = y488.length - (1 : Int).toNat := (by rw [Ny494.out, List.length_drop] <;> omega); rw [show (y488).drop (1 : Int).toNat = y494 from Ny494.out.symm] at hr17; replace hr17 : Kd.F k43 _ _ A17 y494.length y494 := (by rw [hA17]; exact hr17); rw [← hy17, ← hA17, ← hc17] at hcut17; have HO498 := Aside0.mk (show Kd.V k43 43 _ w.heap.size _ (.slice A17 y494.length c17) y494 from Kd.V_mk (by rw [hy17, hc17]; exact Nat.sub_le_sub_right hroom17 _) hr17); have HC498 := Aside0.mk (show y494.length ≤ c17 from by rw [hy17, hc17]; exact Nat.sub_le_sub_right hroom17 _); clear hr17 hC17 hroom17 hi017 hsz17 hc17; have KY17 := Aside0.mk hy17; have KA17 := Aside0.mk hA17; clear hy17 hA17; replace q17 := eq_true q17) | (go_at_call 3; (with_reducible refine (smithylaw22_MovesRows.calls _ _ y494 0 true _ ?side1 ?side2 A9.out).mono ?_); (case side1 => repeat (first | exact (Kd.V_reads' HO498.out).2.2 | (with_reducible refine Kd.C_alloc ?_ _) | (with_reducible refine Kd.C_drewN ?_ _) | (with_reducible refine Kd.C_drew ?_))); (case side2 => exact (Kd.V_reads' HO498.out).2.1); rintro e w18 ⟨rfl, hb⟩; have n0_ := Aside0.mk (Kd.R_below (by (with_reducible repeat (first | apply Kd.R_alloc | apply Kd.R_drewN | apply Kd.R_drew)); exact HO490.out) hb); have n1_ := Aside0.mk (Kd.V_below (by (with_reducible repeat (first | apply Kd.V_alloc | apply Kd.V_drewN | apply Kd.V_drew)); exact HO498.out) hb); have n2_ := Aside0.mk (below_step (by repeat (first | (with_reducible first | exact HB.out | apply below_alloc | apply pw_below_drewN | apply below_drew1) | exact HB.out)) hb); clear HO490; clear HO498; clear HB; have HO490 := n0_; have HO498 := n1_; have HB := n2_; clear n0_ n1_ n2_; (try clear hb); (try clear hb2); (try clear hk); (try clear hi)))
                  go_roundg k1
                  case measure => have := HK1.out; omega
                  case rel => exact ⟨(wrap64 (x1_1 + 1)), (by first | rfl | (simp; done) | (simp [*]; done)), H', ⟨by have := HK1.out; omega⟩, ⟨by repeat (first | (with_reducible first | exact HB.out | apply below_alloc | apply pw_below_drewN | apply below_drew1) | exact HB.out)⟩⟩
                · replace c10 := Bool.eq_false_iff.mpr c10
                  subst c10
                  have H1 : (some false) = some true := by rw [if_neg (show ¬ (false = true) by decide)] at H; exact H
                  clear H
                  have H := H1
                  clear H1
                  exact absurd (Option.some.inj H) (by decide)
              · rw [if_neg c8] at H
                exact absurd H (by simp)
            · replace c7 := Bool.eq_false_iff.mpr c7
              subst c7
              have H1 : (some false) = some true := by rw [if_neg (show ¬ (false = true) by decide)] at H; exact H
              clear H
              have H := H1
              clear H1
              exact absurd (Option.some.inj H) (by decide)
          · replace c5 := Bool.eq_false_iff.mpr c5
            subst c5
            have H1 : (some false) = some true := by rw [if_neg (show ¬ (false = true) by decide)] at H; exact H
            clear H
            have H := H1
            clear H1
            exact absurd (Option.some.inj H) (by decide)
        · replace c3 := Bool.eq_false_iff.mpr c3
          subst c3
          have H1 : (some false) = some true := by rw [if_neg (show ¬ (false = true) by decide)] at H; exact H
          clear H
          have H := H1
          clear H1
          exact absurd (Option.some.inj H) (by decide)
      · rw [if_neg c1] at H
        have c1b0 : decide (x1_1 < 64) = false := decide_eq_false c1
        clear c1
        have H' := Aside0.mk H
        clear H
        go_wp2
        go_loopg [3, 4, 5] k1 (fun kq v3 v4 v5 w' => ∃ (x3_2 : List (S43)) (x4_2 : List (S43)) (x5_2 : Int), v5 = .int .i64 x5_2 ∧ Aside0 (smithylaw22_MovesNumbers.l1 kq x3_2 x4_2 x5_2 = some true) ∧ Aside0 (kq ≤ k1) ∧ Aside0 (Kd.R k43 43 w' w.heap.size (fun k_ => some k_ ≠ (v4 : Value).ownBlock) v3 x3_2) ∧ Aside0 (Kd.R k43 43 w' w.heap.size (fun k_ => some k_ ≠ (v3 : Value).ownBlock) v4 x4_2) ∧ Aside0 (Below w.heap.size w w'))
        case atStart => exact ⟨(([] : List (S43))), (([] : List (S43))), (0), (by first | rfl | (simp; done) | (simp [*]; done)), H', ⟨Nat.le_refl _⟩, ⟨by first | exact Kd.R_nil _ _ _ _ _ | exact Kd.N_nil _ _ _ _ _ | exact Kd.V_nil _ _ _ _ _ | exact Kd.Q_nil _ _ _ _ _ | exact Kd.S_nil _ _ _ _ _⟩, ⟨by first | exact Kd.R_nil _ _ _ _ _ | exact Kd.N_nil _ _ _ _ _ | exact Kd.V_nil _ _ _ _ _ | exact Kd.Q_nil _ _ _ _ _ | exact Kd.S_nil _ _ _ _ _⟩, ⟨by repeat (first | (with_reducible first | exact HB.out | apply below_alloc | apply pw_below_drewN | apply below_drew1) | exact HB.out)⟩⟩
        case round =>
          clear H'
          try clear c1
          try clear c1b0
          try clear q1
          try clear c2
          try clear p2
          try clear q2
          try clear c3
          try clear c5
          try clear p6
          try clear c7
          try clear c8
          try clear c8b0
          try clear c8b1
          try clear c10
          try clear c17
          try clear q17
          try clear c25
          try clear q25
          try clear q17
          try clear q25
          obtain ⟨x3_2, x4_2, x5_2, rfl, HA, HK2, HO_3, HO_4, HB⟩ := hrel
          cases gk with
          | zero => exact absurd HA.out (by simp [smithylaw22_MovesNumbers.l1])
          | succ k2 =>
            have H := HA.out
            clear HA
            simp only [smithylaw22_MovesNumbers.l1] at H
            by_cases c42 : x5_2 < 5000
            · rw [if_pos c42] at H
              have c42b0 : decide (x5_2 < 5000) = true := decide_eq_true c42
              clear c42
              by_cases c43 : x3_2.length < 8796093022208
              · rw [if_pos c43] at H
                have LMc43 := Aside0.mk c43
                clear c43
                obtain ⟨y500, hy500⟩ : ∃ y_ : List (S43), y_ = (x3_2 ++ [(⟨wrap64 (x5_2 + 1), x5_2⟩ : S43)]) := ⟨_, rfl⟩
                replace H : (if x4_2.length < 8796093022208 then (smithylaw22_MovesNumbers.l1 k2 y500 (x4_2 ++ [(⟨x5_2, Int.tmod (wrap64 (x5_2 + 1)) 5000⟩ : S43)]) (wrap64 (x5_2 + 1))) else (none)) = some true := by first | (rw [hy500]; with_reducible exact H) | (have H2_ := (Option.bind_some _ _).symm.trans H; rw [hy500]; with_reducible exact H2_) | (have H2_ := (Option.bind_some _ _).symm.trans H; with_reducible exact H2_) | with_reducible exact H | (rw [hy500]; exact H) | exact H
                have Ny500 := Aside0.mk hy500
                clear hy500
                by_cases c44 : x4_2.length < 8796093022208
                · rw [if_pos c44] at H
                  have LMc44 := Aside0.mk c44
                  clear c44
                  obtain ⟨y503, hy503⟩ : ∃ y_ : List (S43), y_ = (x4_2 ++ [(⟨x5_2, Int.tmod (wrap64 (x5_2 + 1)) 5000⟩ : S43)]) := ⟨_, rfl⟩
                  replace H : (smithylaw22_MovesNumbers.l1 k2 y500 y503 (wrap64 (x5_2 + 1))) = some true := by first | (rw [hy503]; with_reducible exact H) | (have H2_ := (Option.bind_some _ _).symm.trans H; rw [hy503]; with_reducible exact H2_) | (have H2_ := (Option.bind_some _ _).symm.trans H; with_reducible exact H2_) | with_reducible exact H | (rw [hy503]; exact H) | exact H
                  have Ny503 := Aside0.mk hy503
                  clear hy503
                  have H' := Aside0.mk H
                  clear H
                  go_wp2_with (first | ((with_reducible refine gate_builtin (b := .append) (xs := #[.tmp 58, .tmp 63]) rfl ?_); (try (refine gate_guard (by rfl) ?_; dsimp only)); at_builtin; refine Kd.R_append k43 (w0 := w) w.heap.size rfl (.tmp 58) (.tmp 63) 22 43 (.agg #[(.int .i64 0), (.int .i64 0)]) 16 rfl Try.underlying22 info43 rfl (by decide) (by omega) u3 x3_2 (⟨wrap64 (x5_2 + 1), x5_2⟩ : S43) [.int .i64 (wrap64 (x5_2 + 1)), .int .i64 x5_2] (fun k_ => some k_ ≠ (u4 : Value).ownBlock) (fun _ => False) rfl rfl ?aP (fun _ hk => hk.elim) ?aF ?aO ?aB ?aS ?aL ?_; (case aP => exact k43_mkM _ _ _ (⟨wrap64 (x5_2 + 1), x5_2⟩ : S43)); (case aB => exact (by repeat (first | (with_reducible first | exact HB.out | apply below_alloc | apply pw_below_drewN | apply below_drew1) | exact HB.out))); (case aF => exact (fun k_ hk => Kd.fresh' (Kd.R_lt (by (with_reducible repeat (first | apply Kd.R_alloc | apply Kd.R_drewN | apply Kd.R_drew)); exact HO_4.out)) k_ hk)); (case aO => exact (by (with_reducible repeat (first | apply Kd.R_alloc | apply Kd.R_drewN | apply Kd.R_drew)); exact HO_3.out)); (case aS => exact (below_size (by repeat (first | (with_reducible first | exact HB.out | apply below_alloc | apply pw_below_drewN | apply below_drew1) | exact HB.out)))); (case aL => have := LMc43.out; omega); intro v501 w45 ho hb hg hat; rw [← Ny500.out] at ho; have n0_ := Aside0.mk (Kd.R_after (ok := (fun _ => True)) (by (with_reducible repeat (first | apply Kd.R_alloc | apply Kd.R_drewN | apply Kd.R_drew)); exact Kd.R_mono HO_4.out (fun _ hk => ⟨trivial, hk⟩)) hg hat); have n1_ := Aside0.mk (hb); have n2_ := Aside0.mk (ho); clear HO_4; clear HB; clear HO_3; have HO_4 := n0_; have HB := n1_; have HO502 := n2_; clear n0_ n1_ n2_; clear ho hb hg hat) | ((with_reducible refine gate_builtin (b := .append) (xs := #[.tmp 65, .tmp 71]) rfl ?_); (try (refine gate_guard (by rfl) ?_; dsimp only)); at_builtin; refine Kd.R_append k43 (w0 := w) w.heap.size rfl (.tmp 65) (.tmp 71) 22 43 (.agg #[(.int .i64 0), (.int .i64 0)]) 16 rfl Try.underlying22 info43 rfl (by decide) (by omega) u4 x4_2 (⟨x5_2, Int.tmod (wrap64 (x5_2 + 1)) 5000⟩ : S43) [.int .i64 x5_2, .int .i64 (Int.tmod (wrap64 (x5_2 + 1)) 5000)] (fun k_ => some k_ ≠ (v501 : Value).ownBlock) (fun _ => False) rfl rfl ?aP (fun _ hk => hk.elim) ?aF ?aO ?aB ?aS ?aL ?_; (case aP => exact k43_mkM _ _ _ (⟨x5_2, Int.tmod (wrap64 (x5_2 + 1)) 5000⟩ : S43)); (case aB => exact (by repeat (first | (with_reducible first | exact HB.out | apply below_alloc | apply pw_below_drewN | apply below_drew1) | exact HB.out))); (case aF => exact (fun k_ hk => Kd.fresh' (Kd.R_lt (by (with_reducible repeat (first | apply Kd.R_alloc | apply Kd.R_drewN | apply Kd.R_drew)); exact HO502.out)) k_ hk)); (case aO => exact (by (with_reducible repeat (first | apply Kd.R_alloc | apply Kd.R_drewN | apply Kd.R_drew)); exact Kd.R_mono HO_4.out (fun _ hk => hk.2))); (case aS => exact (below_size (by repeat (first | (with_reducible first | exact HB.out | apply below_alloc | apply pw_below_drewN | apply below_drew1) | exact HB.out)))); (case aL => have := LMc44.out; omega); intro v504 w46 ho hb hg hat; rw [← Ny503.out] at ho; have n0_ := Aside0.mk (Kd.R_after (ok := (fun _ => True)) (by (with_reducible repeat (first | apply Kd.R_alloc | apply Kd.R_drewN | apply Kd.R_drew)); exact Kd.R_mono HO502.out (fun _ hk => ⟨trivial, hk⟩)) hg hat); have n1_ := Aside0.mk (hb); have n2_ := Aside0.mk (ho); clear HO502; clear HB; clear HO_4; have HO502 := n0_; have HB := n1_; have HO505 := n2_; clear n0_ n1_ n2_; clear ho hb hg hat))
                  go_roundg k2
                  case measure => have := HK1.out; have := HK2.out; omega
                  case rel => exact ⟨(y500), (y503), (wrap64 (x5_2 + 1)), (by first | rfl | (simp; done) | (simp [*]; done)), H', ⟨by have := HK1.out; have := HK2.out; omega⟩, ⟨by (with_reducible repeat (first | apply Kd.R_alloc | apply Kd.R_drewN | apply Kd.R_drew)); exact Kd.R_mono HO502.out (fun _ hk => hk.2)⟩, ⟨by (with_reducible repeat (first | apply Kd.R_alloc | apply Kd.R_drewN | apply Kd.R_drew)); exact HO505.out⟩, ⟨by repeat (first | (with_reducible first | exact HB.out | apply below_alloc | apply pw_below_drewN | apply below_drew1) | exact HB.out)⟩⟩
                · rw [if_neg c44] at H
                  exact absurd H (by simp)
              · rw [if_neg c43] at H
                exact absurd H (by simp)
            · rw [if_neg c42] at H
              have c42b0 : decide (x5_2 < 5000) = false := decide_eq_false c42
              clear c42
              replace H := Option.bind_eq_some_iff.mp H
              obtain ⟨⟨t506, t507⟩, A470, H⟩ := H
              replace H : ((moves_Row.f k2 x4_2 4611686018427387904).bind fun bt510 => (if t507 = 0 then (if (t506.length : Int) = 5000 then (if bt510.2 = 0 then (if (bt510.1.length : Int) > 5001 then (smithylaw22_MovesNumbers.j2 k2 true) else ((smithylaw22_numbers.f k2 5001).bind fun t514 => ((moves_Did.f t506 t514).bind fun t517 => ((smithylaw22_did.f k2 x3_2 5001).bind fun t520 => ((smithykit_SameInts.f k2 t517 t520).bind fun t523 => (smithylaw22_MovesNumbers.j2 k2 (!t523))))))) else (smithylaw22_MovesNumbers.j2 k2 true)) else (smithylaw22_MovesNumbers.j2 k2 true)) else (smithylaw22_MovesNumbers.j2 k2 true))) = some true := H
              have A47 := Aside0.mk A470
              clear A470
              replace H := Option.bind_eq_some_iff.mp H
              obtain ⟨⟨t510, t511⟩, A480, H⟩ := H
              replace H : (if t507 = 0 then (if (t506.length : Int) = 5000 then (if t511 = 0 then (if (t510.length : Int) > 5001 then (smithylaw22_MovesNumbers.j2 k2 true) else ((smithylaw22_numbers.f k2 5001).bind fun t514 => ((moves_Did.f t506 t514).bind fun t517 => ((smithylaw22_did.f k2 x3_2 5001).bind fun t520 => ((smithykit_SameInts.f k2 t517 t520).bind fun t523 => (smithylaw22_MovesNumbers.j2 k2 (!t523))))))) else (smithylaw22_MovesNumbers.j2 k2 true)) else (smithylaw22_MovesNumbers.j2 k2 true)) else (smithylaw22_MovesNumbers.j2 k2 true)) = some true := H
              have A48 := Aside0.mk A480
              clear A480
              have HC49 := Aside0.mk H
              clear H
              obtain ⟨Ao50, co50, eo50⟩ := Kd.R_slice HO_3.out
              subst eo50
              go_upto_region 15 with (first | ((with_reducible refine gate_callee (f := 10) rfl ?_); refine goesL_ (some 75) rfl rfl Try.func10 (by kernel_rfl) rfl #[.slice Ao50 x3_2.length co50, .int .i64 (-1)] rfl (by (try simp only [List.map_toArray, List.map_cons, List.map_nil]); first | done | rfl | (simp only [List.length_drop, List.length_take]; rfl)) ?_; (with_reducible refine (moves_Row.calls k2 _ _ x3_2 (-1) t506 t507 _ ?side1 ?side2 A47.out).mono ?_); (case side1 => repeat (first | exact (Kd.R_reads' HO_3.out).2.2 | (with_reducible refine Kd.C_alloc ?_ _) | (with_reducible refine Kd.C_drewN ?_ _) | (with_reducible refine Kd.C_drew ?_))); (case side2 => exact (Kd.R_reads' HO_3.out).2.1); rintro e w51 ⟨v508, rfl, ho0, hb⟩; refine ⟨_, rfl, ?_⟩; have n0_ := Aside0.mk (Kd.R_elder' (by (with_reducible repeat (first | apply Kd.R_alloc | apply Kd.R_drewN | apply Kd.R_drew)); exact HO_3.out) (Kd.R_base ho0) hb); have n1_ := Aside0.mk (Kd.R_elder' (by (with_reducible repeat (first | apply Kd.R_alloc | apply Kd.R_drewN | apply Kd.R_drew)); exact HO_4.out) (Kd.R_base ho0) hb); have n2_ := Aside0.mk (Kd.R_lower (Kd.R_new' (Kd.R_new' ho0 (Kd.R_lt (by (with_reducible repeat (first | apply Kd.R_alloc | apply Kd.R_drewN | apply Kd.R_drew)); exact HO_3.out))) (Kd.R_lt (by (with_reducible repeat (first | apply Kd.R_alloc | apply Kd.R_drewN | apply Kd.R_drew)); exact HO_4.out))) (below_size (by repeat (first | (with_reducible first | exact HB.out | apply below_alloc | apply pw_below_drewN | apply below_drew1) | exact HB.out)))); have n3_ := Aside0.mk (below_step (by repeat (first | (with_reducible first | exact HB.out | apply below_alloc | apply pw_below_drewN | apply below_drew1) | exact HB.out)) hb); clear HO_3; clear HO_4; clear HB; have HO_3 := n0_; have HO_4 := n1_; have HO509 := n2_; have HB := n3_; clear n0_ n1_ n2_ n3_; (try clear hb); (try clear hb2); (try clear hk); (try clear hi); (try clear ho0); obtain ⟨Ao52, co52, eo52⟩ := Kd.R_slice HO_4.out; subst eo52) | ((with_reducible refine gate_callee (f := 10) rfl ?_); refine goesL_ (some 80) rfl rfl Try.func10 (by kernel_rfl) rfl #[.slice Ao52 x4_2.length co52, .int .i64 4611686018427387904] rfl (by (try simp only [List.map_toArray, List.map_cons, List.map_nil]); first | done | rfl | (simp only [List.length_drop, List.length_take]; rfl)) ?_; (with_reducible refine (moves_Row.calls k2 _ _ x4_2 4611686018427387904 t510 t511 _ ?side1 ?side2 A48.out).mono ?_); (case side1 => repeat (first | exact (Kd.R_reads' HO_4.out).2.2 | (with_reducible refine Kd.C_alloc ?_ _) | (with_reducible refine Kd.C_drewN ?_ _) | (with_reducible refine Kd.C_drew ?_))); (case side2 => exact (Kd.R_reads' HO_4.out).2.1); rintro e w53 ⟨v512, rfl, ho0, hb⟩; refine ⟨_, rfl, ?_⟩; have n0_ := Aside0.mk (Kd.R_elder' (by (with_reducible repeat (first | apply Kd.R_alloc | apply Kd.R_drewN | apply Kd.R_drew)); exact HO_3.out) (Kd.R_base ho0) hb); have n1_ := Aside0.mk (Kd.R_elder' (by (with_reducible repeat (first | apply Kd.R_alloc | apply Kd.R_drewN | apply Kd.R_drew)); exact HO_4.out) (Kd.R_base ho0) hb); have n2_ := Aside0.mk (Kd.R_elder' (by (with_reducible repeat (first | apply Kd.R_alloc | apply Kd.R_drewN | apply Kd.R_drew)); exact HO509.out) (Kd.R_base ho0) hb); have n3_ := Aside0.mk (Kd.R_lower (Kd.R_new' (Kd.R_new' (Kd.R_new' ho0 (Kd.R_lt (by (with_reducible repeat (first | apply Kd.R_alloc | apply Kd.R_drewN | apply Kd.R_drew)); exact HO_3.out))) (Kd.R_lt (by (with_reducible repeat (first | apply Kd.R_alloc | apply Kd.R_drewN | apply Kd.R_drew)); exact HO_4.out))) (Kd.R_lt (by (with_reducible repeat (first | apply Kd.R_alloc | apply Kd.R_drewN | apply Kd.R_drew)); exact HO509.out))) (below_size (by repeat (first | (with_reducible first | exact HB.out | apply below_alloc | apply pw_below_drewN | apply below_drew1) | exact HB.out)))); have n4_ := Aside0.mk (below_step (by repeat (first | (with_reducible first | exact HB.out | apply below_alloc | apply pw_below_drewN | apply below_drew1) | exact HB.out)) hb); clear HO_3; clear HO_4; clear HO509; clear HB; have HO_3 := n0_; have HO_4 := n1_; have HO509 := n2_; have HO513 := n3_; have HB := n4_; clear n0_ n1_ n2_ n3_ n4_; (try clear hb); (try clear hb2); (try clear hk); (try clear hi); (try clear ho0)))
              (try simp only [Act.put, List.setIfInBounds_toArray, List.set_cons_zero, List.set_cons_succ])
              go_cut [107] (fun v107 wc => ∃ (kq : Nat) (x107_48 : Bool), v107 = .bool x107_48 ∧ Aside0 (smithylaw22_MovesNumbers.j2 kq x107_48 = some true) ∧ Aside0 (kq ≤ k2) ∧ Aside0 (Below w.heap.size w wc))
              case first =>
                have H := HC49.out
                clear HC49
                by_cases c54 : t507 = 0
                · rw [if_pos c54] at H
                  have c54b0 : (t507 == 0) = true := beq_iff_eq.mpr c54
                  have c54b1 : (t507 != 0) = false := bne_eq_false_iff_eq.mpr c54
                  clear c54
                  (first | rw [c54b0] | (simp only [i64_w, i32_w]; rw [c54b0]) | skip)
                  by_cases c55 : (t506.length : Int) = 5000
                  · rw [if_pos c55] at H
                    have c55b0 : ((t506.length : Int) == 5000) = true := beq_iff_eq.mpr c55
                    have c55b1 : ((t506.length : Int) != 5000) = false := bne_eq_false_iff_eq.mpr c55
                    clear c55
                    by_cases c56 : t511 = 0
                    · rw [if_pos c56] at H
                      have c56b0 : (t511 == 0) = true := beq_iff_eq.mpr c56
                      have c56b1 : (t511 != 0) = false := bne_eq_false_iff_eq.mpr c56
                      clear c56
                      by_cases c57 : (t510.length : Int) > 5001
                      · rw [if_pos c57] at H
                        have c57b0 : decide (5001 < (t510.length : Int)) = true := decide_eq_true c57
                        have c57b1 : decide (5001 < t510.length) = true := decide_eq_true (by omega)
                        clear c57
                        have H' := Aside0.mk H
                        clear H
                        obtain ⟨Ao58, co58, eo58⟩ := Kd.R_slice HO509.out
                        subst eo58
                        obtain ⟨Ao59, co59, eo59⟩ := Kd.R_slice HO513.out
                        subst eo59
                        go_wp2
                        go_meet
                        case rel => exact ⟨_, (true), (by first | rfl | (simp; done) | (simp [*]; done)), H', ⟨by have := HK1.out; have := HK2.out; first | omega | exact Nat.le_refl _⟩, ⟨by repeat (first | (with_reducible first | exact HB.out | apply below_alloc | apply pw_below_drewN | apply below_drew1) | exact HB.out)⟩⟩
                      · rw [if_neg c57] at H
                        have c57b0 : decide (5001 < (t510.length : Int)) = false := decide_eq_false c57
                        have c57b1 : decide (5001 < t510.length) = false := decide_eq_false (by omega)
                        clear c57
                        replace H := Option.bind_eq_some_iff.mp H
                        obtain ⟨t514, A600, H⟩ := H
                        replace H : ((moves_Did.f t506 t514).bind fun t517 => ((smithylaw22_did.f k2 x3_2 5001).bind fun t520 => ((smithykit_SameInts.f k2 t517 t520).bind fun t523 => (smithylaw22_MovesNumbers.j2 k2 (!t523))))) = some true := H
                        have A60 := Aside0.mk A600
                        clear A600
                        replace H := Option.bind_eq_some_iff.mp H
                        obtain ⟨t517, A610, H⟩ := H
                        replace H : ((smithylaw22_did.f k2 x3_2 5001).bind fun t520 => ((smithykit_SameInts.f k2 t517 t520).bind fun t523 => (smithylaw22_MovesNumbers.j2 k2 (!t523)))) = some true := H
                        have A61 := Aside0.mk A610
                        clear A610
                        replace H := Option.bind_eq_some_iff.mp H
                        obtain ⟨t520, A620, H⟩ := H
                        replace H : ((smithykit_SameInts.f k2 t517 t520).bind fun t523 => (smithylaw22_MovesNumbers.j2 k2 (!t523))) = some true := H
                        have A62 := Aside0.mk A620
                        clear A620
                        replace H := Option.bind_eq_some_iff.mp H
                        obtain ⟨t523, A630, H⟩ := H
                        replace H : (smithylaw22_MovesNumbers.j2 k2 (!t523)) = some true := H
                        have A63 := Aside0.mk A630
                        clear A630
                        have H' := Aside0.mk H
                        clear H
                        obtain ⟨Ao64, co64, eo64⟩ := Kd.R_slice HO509.out
                        subst eo64
                        obtain ⟨Ao65, co65, eo65⟩ := Kd.R_slice HO513.out
                        subst eo65
                        go_wp2_with (first | (go_at_call 22; (with_reducible refine (smithylaw22_numbers.calls k2 5001 t514 _ A60.out).mono ?_); rintro e w66 ⟨v515, rfl, ho0, hb⟩; have n0_ := Aside0.mk (Kd.R_below (by (with_reducible repeat (first | apply Kd.R_alloc | apply Kd.R_drewN | apply Kd.R_drew)); exact HO_3.out) hb); have n1_ := Aside0.mk (Kd.R_below (by (with_reducible repeat (first | apply Kd.R_alloc | apply Kd.R_drewN | apply Kd.R_drew)); exact HO_4.out) hb); have n2_ := Aside0.mk (Kd.R_below (by (with_reducible repeat (first | apply Kd.R_alloc | apply Kd.R_drewN | apply Kd.R_drew)); exact HO509.out) hb); have n3_ := Aside0.mk (Kd.R_below (by (with_reducible repeat (first | apply Kd.R_alloc | apply Kd.R_drewN | apply Kd.R_drew)); exact HO513.out) hb); have n4_ := Aside0.mk (Kd.R_lower ho0 (below_size (by repeat (first | (with_reducible first | exact HB.out | apply below_alloc | apply pw_below_drewN | apply below_drew1) | exact HB.out)))); have n5_ := Aside0.mk (below_step (by repeat (first | (with_reducible first | exact HB.out | apply below_alloc | apply pw_below_drewN | apply below_drew1) | exact HB.out)) hb); clear HO_3; clear HO_4; clear HO509; clear HO513; clear HB; have HO_3 := n0_; have HO_4 := n1_; have HO509 := n2_; have HO513 := n3_; have HO516 := n4_; have HB := n5_; clear n0_ n1_ n2_ n3_ n4_ n5_; (try clear hb); (try clear hb2); (try clear hk); (try clear hi); (try clear ho0); obtain ⟨Ao67, co67, eo67⟩ := Kd.R_slice HO516.out; subst eo67) | (go_at_call 17; (with_reducible refine (moves_Did.calls _ _ t506 _ _ t514 t517 _ ?side1 ?side2 ?side3 ?side4 A61.out).mono ?_); (case side1 => repeat (first | exact (Kd.R_reads' HO509.out).2.2 | (with_reducible refine Kd.C_alloc ?_ _) | (with_reducible refine Kd.C_drewN ?_ _) | (with_reducible refine Kd.C_drew ?_))); (case side2 => exact (Kd.R_reads' HO509.out).2.1); (case side3 => repeat (first | exact (Kd.R_reads' HO516.out).2.2 | (with_reducible refine Kd.C_alloc ?_ _) | (with_reducible refine Kd.C_drewN ?_ _) | (with_reducible refine Kd.C_drew ?_))); (case side4 => exact (Kd.R_reads' HO516.out).2.1); rintro e w68 ⟨v518, rfl, ho0, hb⟩; have n0_ := Aside0.mk (Kd.R_below (by (with_reducible repeat (first | apply Kd.R_alloc | apply Kd.R_drewN | apply Kd.R_drew)); exact HO_3.out) hb); have n1_ := Aside0.mk (Kd.R_below (by (with_reducible repeat (first | apply Kd.R_alloc | apply Kd.R_drewN | apply Kd.R_drew)); exact HO_4.out) hb); have n2_ := Aside0.mk (Kd.R_below (by (with_reducible repeat (first | apply Kd.R_alloc | apply Kd.R_drewN | apply Kd.R_drew)); exact HO509.out) hb); have n3_ := Aside0.mk (Kd.R_below (by (with_reducible repeat (first | apply Kd.R_alloc | apply Kd.R_drewN | apply Kd.R_drew)); exact HO513.out) hb); have n4_ := Aside0.mk (Kd.R_elder' (by (with_reducible repeat (first | apply Kd.R_alloc | apply Kd.R_drewN | apply Kd.R_drew)); exact HO516.out) (Kd.R_base ho0) hb); have n5_ := Aside0.mk (Kd.R_lower (Kd.R_new' ho0 (Kd.R_lt (by (with_reducible repeat (first | apply Kd.R_alloc | apply Kd.R_drewN | apply Kd.R_drew)); exact HO516.out))) (below_size (by repeat (first | (with_reducible first | exact HB.out | apply below_alloc | apply pw_below_drewN | apply below_drew1) | exact HB.out)))); have n6_ := Aside0.mk (below_step (by repeat (first | (with_reducible first | exact HB.out | apply below_alloc | apply pw_below_drewN | apply below_drew1) | exact HB.out)) hb); clear HO_3; clear HO_4; clear HO509; clear HO513; clear HO516; clear HB; have HO_3 := n0_; have HO_4 := n1_; have HO509 := n2_; have HO513 := n3_; have HO516 := n4_; have HO519 := n5_; have HB := n6_; clear n0_ n1_ n2_ n3_ n4_ n5_ n6_; (try clear hb); (try clear hb2); (try clear hk); (try clear hi); (try clear ho0)) | (go_at_call 23; (with_reducible refine (smithylaw22_did.calls k2 _ _ x3_2 5001 t520 _ ?side1 ?side2 A62.out).mono ?_); (case side1 => repeat (first | exact (Kd.R_reads' HO_3.out).2.2 | (with_reducible refine Kd.C_alloc ?_ _) | (with_reducible refine Kd.C_drewN ?_ _) | (with_reducible refine Kd.C_drew ?_))); (case side2 => exact (Kd.R_reads' HO_3.out).2.1); rintro e w69 ⟨v521, rfl, ho0, hb⟩; have n0_ := Aside0.mk (Kd.R_below (by (with_reducible repeat (first | apply Kd.R_alloc | apply Kd.R_drewN | apply Kd.R_drew)); exact HO_3.out) hb); have n1_ := Aside0.mk (Kd.R_below (by (with_reducible repeat (first | apply Kd.R_alloc | apply Kd.R_drewN | apply Kd.R_drew)); exact HO_4.out) hb); have n2_ := Aside0.mk (Kd.R_below (by (with_reducible repeat (first | apply Kd.R_alloc | apply Kd.R_drewN | apply Kd.R_drew)); exact HO509.out) hb); have n3_ := Aside0.mk (Kd.R_below (by (with_reducible repeat (first | apply Kd.R_alloc | apply Kd.R_drewN | apply Kd.R_drew)); exact HO513.out) hb); have n4_ := Aside0.mk (Kd.R_elder' (by (with_reducible repeat (first | apply Kd.R_alloc | apply Kd.R_drewN | apply Kd.R_drew)); exact HO516.out) (Kd.R_base ho0) hb); have n5_ := Aside0.mk (Kd.R_elder' (by (with_reducible repeat (first | apply Kd.R_alloc | apply Kd.R_drewN | apply Kd.R_drew)); exact HO519.out) (Kd.R_base ho0) hb); have n6_ := Aside0.mk (Kd.R_lower (Kd.R_new' (Kd.R_new' ho0 (Kd.R_lt (by (with_reducible repeat (first | apply Kd.R_alloc | apply Kd.R_drewN | apply Kd.R_drew)); exact HO516.out))) (Kd.R_lt (by (with_reducible repeat (first | apply Kd.R_alloc | apply Kd.R_drewN | apply Kd.R_drew)); exact HO519.out))) (below_size (by repeat (first | (with_reducible first | exact HB.out | apply below_alloc | apply pw_below_drewN | apply below_drew1) | exact HB.out)))); have n7_ := Aside0.mk (below_step (by repeat (first | (with_reducible first | exact HB.out | apply below_alloc | apply pw_below_drewN | apply below_drew1) | exact HB.out)) hb); clear HO_3; clear HO_4; clear HO509; clear HO513; clear HO516; clear HO519; clear HB; have HO_3 := n0_; have HO_4 := n1_; have HO509 := n2_; have HO513 := n3_; have HO516 := n4_; have HO519 := n5_; have HO522 := n6_; have HB := n7_; clear n0_ n1_ n2_ n3_ n4_ n5_ n6_ n7_; (try clear hb); (try clear hb2); (try clear hk); (try clear hi); (try clear ho0); obtain ⟨Ao70, co70, eo70⟩ := Kd.R_slice HO519.out; subst eo70; obtain ⟨Ao71, co71, eo71⟩ := Kd.R_slice HO522.out; subst eo71) | (go_at_call 19; (with_reducible refine (smithykit_SameInts.calls k2 _ _ t517 _ _ t520 t523 _ ?side1 ?side2 ?side3 ?side4 A63.out).mono ?_); (case side1 => repeat (first | exact (Kd.R_reads' HO519.out).2.2 | (with_reducible refine Kd.C_alloc ?_ _) | (with_reducible refine Kd.C_drewN ?_ _) | (with_reducible refine Kd.C_drew ?_))); (case side2 => exact (Kd.R_reads' HO519.out).2.1); (case side3 => repeat (first | exact (Kd.R_reads' HO522.out).2.2 | (with_reducible refine Kd.C_alloc ?_ _) | (with_reducible refine Kd.C_drewN ?_ _) | (with_reducible refine Kd.C_drew ?_))); (case side4 => exact (Kd.R_reads' HO522.out).2.1); rintro e w' ⟨rfl, ⟨nd, rfl⟩⟩))
                        go_meet
                        case rel => exact ⟨_, (!t523), (by first | rfl | (simp; done) | (simp [*]; done)), H', ⟨by have := HK1.out; have := HK2.out; first | omega | exact Nat.le_refl _⟩, ⟨by repeat (first | (with_reducible first | exact HB.out | apply below_alloc | apply pw_below_drewN | apply below_drew1) | exact HB.out)⟩⟩
                    · rw [if_neg c56] at H
                      have c56b0 : (t511 == 0) = false := beq_eq_false_iff_ne.mpr c56
                      have c56b1 : (t511 != 0) = true := bne_iff_ne.mpr c56
                      have H' := Aside0.mk H
                      clear H
                      obtain ⟨Ao72, co72, eo72⟩ := Kd.R_slice HO509.out
                      subst eo72
                      go_wp2
                      go_meet
                      case rel => exact ⟨_, (true), (by first | rfl | (simp; done) | (simp [*]; done)), H', ⟨by have := HK1.out; have := HK2.out; first | omega | exact Nat.le_refl _⟩, ⟨by repeat (first | (with_reducible first | exact HB.out | apply below_alloc | apply pw_below_drewN | apply below_drew1) | exact HB.out)⟩⟩
                  · rw [if_neg c55] at H
                    have c55b0 : ((t506.length : Int) == 5000) = false := beq_eq_false_iff_ne.mpr c55
                    have c55b1 : ((t506.length : Int) != 5000) = true := bne_iff_ne.mpr c55
                    have H' := Aside0.mk H
                    clear H
                    obtain ⟨Ao73, co73, eo73⟩ := Kd.R_slice HO509.out
                    subst eo73
                    go_wp2
                    go_meet
                    case rel => exact ⟨_, (true), (by first | rfl | (simp; done) | (simp [*]; done)), H', ⟨by have := HK1.out; have := HK2.out; first | omega | exact Nat.le_refl _⟩, ⟨by repeat (first | (with_reducible first | exact HB.out | apply below_alloc | apply pw_below_drewN | apply below_drew1) | exact HB.out)⟩⟩
                · rw [if_neg c54] at H
                  have c54b0 : (t507 == 0) = false := beq_eq_false_iff_ne.mpr c54
                  have c54b1 : (t507 != 0) = true := bne_iff_ne.mpr c54
                  (first | rw [c54b0] | (simp only [i64_w, i32_w]; rw [c54b0]) | skip)
                  have H' := Aside0.mk H
                  clear H
                  go_wp2
                  go_meet
                  case rel => exact ⟨_, (true), (by first | rfl | (simp; done) | (simp [*]; done)), H', ⟨by have := HK1.out; have := HK2.out; first | omega | exact Nat.le_refl _⟩, ⟨by repeat (first | (with_reducible first | exact HB.out | apply below_alloc | apply pw_below_drewN | apply below_drew1) | exact HB.out)⟩⟩
              case rest =>
                clear HC49
                try clear c1
                try clear c1b0
                try clear q1
                try clear c2
                try clear p2
                try clear q2
                try clear c3
                try clear c4
                try clear c5
                try clear p6
                try clear c7
                try clear c8
                try clear c8b0
                try clear c8b1
                try clear c10
                try clear c17
                try clear q17
                try clear c25
                try clear q25
                try clear c42
                try clear c42b0
                try clear c43
                try clear c44
                try clear c54
                try clear c54b0
                try clear c54b1
                try clear c55
                try clear c55b0
                try clear c55b1
                try clear c56
                try clear c56b0
                try clear c56b1
                try clear c57
                try clear c57b0
                try clear c57b1
                try clear p64
                try clear p2
                try clear p6
                try clear q1
                try clear q17
                try clear q2
                try clear q25
                obtain ⟨kq, x107_48, rfl, HA, HJ48, HB⟩ := hcut
                cases kq with
                | zero => exact absurd HA.out (by simp [smithylaw22_MovesNumbers.j2])
                | succ kj48 =>
                  have H := HA.out
                  clear HA
                  simp only [smithylaw22_MovesNumbers.j2] at H
                  by_cases c74 : x107_48 = true
                  · subst c74
                    have H1 : (some false) = some true := by rw [if_pos rfl] at H; exact H
                    clear H
                    have H := H1
                    clear H1
                    exact absurd (Option.some.inj H) (by decide)
                  · replace c74 := Bool.eq_false_iff.mpr c74
                    subst c74
                    have H1 : (smithylaw22_MovesNumbers.l2 kj48 (([(([(⟨0, 5⟩ : S43), (⟨0, 6⟩ : S43)] : List (S43))), (([(⟨0, (-1)⟩ : S43)] : List (S43))), (([(⟨(-1), 0⟩ : S43)] : List (S43)))] : List (List (S43)))) 0) = some true := by rw [if_neg (show ¬ (false = true) by decide)] at H; exact H
                    clear H
                    have H := H1
                    clear H1
                    obtain ⟨y524, hy524⟩ : ∃ y_ : List (S43), y_ = (([(⟨0, 5⟩ : S43), (⟨0, 6⟩ : S43)] : List (S43))) := ⟨_, rfl⟩
                    replace H : (smithylaw22_MovesNumbers.l2 kj48 (([y524, (([(⟨0, (-1)⟩ : S43)] : List (S43))), (([(⟨(-1), 0⟩ : S43)] : List (S43)))] : List (List (S43)))) 0) = some true := by first | (rw [hy524]; with_reducible exact H) | (have H2_ := (Option.bind_some _ _).symm.trans H; rw [hy524]; with_reducible exact H2_) | (have H2_ := (Option.bind_some _ _).symm.trans H; with_reducible exact H2_) | with_reducible exact H | (rw [hy524]; exact H) | exact H
                    have Ny524 := Aside0.mk hy524
                    clear hy524
                    obtain ⟨y527, hy527⟩ : ∃ y_ : List (S43), y_ = (([(⟨0, (-1)⟩ : S43)] : List (S43))) := ⟨_, rfl⟩
                    replace H : (smithylaw22_MovesNumbers.l2 kj48 (([y524, y527, (([(⟨(-1), 0⟩ : S43)] : List (S43)))] : List (List (S43)))) 0) = some true := by first | (rw [hy527]; with_reducible exact H) | (have H2_ := (Option.bind_some _ _).symm.trans H; rw [hy527]; with_reducible exact H2_) | (have H2_ := (Option.bind_some _ _).symm.trans H; with_reducible exact H2_) | with_reducible exact H | (rw [hy527]; exact H) | exact H
                    have Ny527 := Aside0.mk hy527
                    clear hy527
                    obtain ⟨y530, hy530⟩ : ∃ y_ : List (S43), y_ = (([(⟨(-1), 0⟩ : S43)] : List (S43))) := ⟨_, rfl⟩
                    replace H : (smithylaw22_MovesNumbers.l2 kj48 (([y524, y527, y530] : List (List (S43)))) 0) = some true := by first | (rw [hy530]; with_reducible exact H) | (have H2_ := (Option.bind_some _ _).symm.trans H; rw [hy530]; with_reducible exact H2_) | (have H2_ := (Option.bind_some _ _).symm.trans H; with_reducible exact H2_) | with_reducible exact H | (rw [hy530]; exact H) | exact H
                    have Ny530 := Aside0.mk hy530
                    clear hy530
                    obtain ⟨y533, hy533⟩ : ∃ y_ : List (List (S43)), y_ = (([y524, y527, y530] : List (List (S43)))) := ⟨_, rfl⟩
                    replace H : (smithylaw22_MovesNumbers.l2 kj48 y533 0) = some true := by first | (rw [hy533]; with_reducible exact H) | (have H2_ := (Option.bind_some _ _).symm.trans H; rw [hy533]; with_reducible exact H2_) | (have H2_ := (Option.bind_some _ _).symm.trans H; with_reducible exact H2_) | with_reducible exact H | (rw [hy533]; exact H) | exact H
                    have Ny533 := Aside0.mk hy533
                    clear hy533
                    have H' := Aside0.mk H
                    clear H
                    go_wp2_with (first | ((with_reducible refine gate_dst (N := 110) rfl ?_); (try (refine gate_guard (by rfl) ?_; dsimp only)); refine Kd.R_lit k43 _ 43 ?hg (N := 110) ?hd (xs := ([(⟨0, 5⟩ : S43), (⟨0, 6⟩ : S43)] : List (S43))) (inner := [.int .i64 0, .int .i64 5, .int .i64 0, .int .i64 6]) (ok := fun _ => True) (okp := fun _ => True) ?hr ?hp (fun _ hk => hk) trivial (Below.refl _ _) (Nat.le_refl _) (by simp) ?_; (case hd => rfl); (case hg => rfl); (case hr => first | (go_simp; done) | (go_simp; rfl)); (case hp => exact (Reps.c2 (show Kd.M k43 _ _ _ (⟨0, 5⟩ : S43) [.int .i64 0, .int .i64 5] from (k43_mkM _ _ _ (⟨0, 5⟩ : S43) )) (Reps.c2 (show Kd.M k43 _ _ _ (⟨0, 6⟩ : S43) [.int .i64 0, .int .i64 6] from (k43_mkM _ _ _ (⟨0, 6⟩ : S43) )) (Reps.none _ _)))); intro v525 w75 ho76 hb hg_ hnew_; clear hg_ hnew_; (first | rw [← Ny524.out] at ho76 | (simp only [Int.reduceToNat] at ho76; rw [← Ny524.out] at ho76)); have n0_ := Aside0.mk (Kd.R_lower ho76 (below_size (by repeat (first | (with_reducible first | exact HB.out | apply below_alloc | apply pw_below_drewN | apply below_drew1) | exact HB.out)))); have n1_ := Aside0.mk (below_step (by repeat (first | (with_reducible first | exact HB.out | apply below_alloc | apply pw_below_drewN | apply below_drew1) | exact HB.out)) hb); clear HB; have HO526 := n0_; have HB := n1_; clear n0_ n1_; clear hb ho76) | ((with_reducible refine gate_dst (N := 112) rfl ?_); (try (refine gate_guard (by rfl) ?_; dsimp only)); refine Kd.R_lit k43 _ 43 ?hg (N := 112) ?hd (xs := ([(⟨0, (-1)⟩ : S43)] : List (S43))) (inner := [.int .i64 0, .int .i64 (-1)]) (ok := fun _ => True) (okp := fun _ => True) ?hr ?hp (fun _ hk => hk) trivial (Below.refl _ _) (Nat.le_refl _) (by simp) ?_; (case hd => rfl); (case hg => rfl); (case hr => first | (go_simp; done) | (go_simp; rfl)); (case hp => exact (Reps.c2 (show Kd.M k43 _ _ _ (⟨0, (-1)⟩ : S43) [.int .i64 0, .int .i64 (-1)] from (k43_mkM _ _ _ (⟨0, (-1)⟩ : S43) )) (Reps.none _ _))); intro v528 w77 ho78 hb hg_ hnew_; clear hg_ hnew_; (first | rw [← Ny527.out] at ho78 | (simp only [Int.reduceToNat] at ho78; rw [← Ny527.out] at ho78)); have n0_ := Aside0.mk (Kd.R_elder' (by (with_reducible repeat (first | apply Kd.R_alloc | apply Kd.R_drewN | apply Kd.R_drew)); exact HO526.out) (Kd.R_base ho78) hb); have n1_ := Aside0.mk (Kd.R_lower (Kd.R_new' ho78 (Kd.R_lt (by (with_reducible repeat (first | apply Kd.R_alloc | apply Kd.R_drewN | apply Kd.R_drew)); exact HO526.out))) (below_size (by repeat (first | (with_reducible first | exact HB.out | apply below_alloc | apply pw_below_drewN | apply below_drew1) | exact HB.out)))); have n2_ := Aside0.mk (below_step (by repeat (first | (with_reducible first | exact HB.out | apply below_alloc | apply pw_below_drewN | apply below_drew1) | exact HB.out)) hb); clear HO526; clear HB; have HO526 := n0_; have HO529 := n1_; have HB := n2_; clear n0_ n1_ n2_; clear hb ho78) | ((with_reducible refine gate_dst (N := 114) rfl ?_); (try (refine gate_guard (by rfl) ?_; dsimp only)); refine Kd.R_lit k43 _ 43 ?hg (N := 114) ?hd (xs := ([(⟨(-1), 0⟩ : S43)] : List (S43))) (inner := [.int .i64 (-1), .int .i64 0]) (ok := fun _ => True) (okp := fun _ => True) ?hr ?hp (fun _ hk => hk) trivial (Below.refl _ _) (Nat.le_refl _) (by simp) ?_; (case hd => rfl); (case hg => rfl); (case hr => first | (go_simp; done) | (go_simp; rfl)); (case hp => exact (Reps.c2 (show Kd.M k43 _ _ _ (⟨(-1), 0⟩ : S43) [.int .i64 (-1), .int .i64 0] from (k43_mkM _ _ _ (⟨(-1), 0⟩ : S43) )) (Reps.none _ _))); intro v531 w79 ho80 hb hg_ hnew_; clear hg_ hnew_; (first | rw [← Ny530.out] at ho80 | (simp only [Int.reduceToNat] at ho80; rw [← Ny530.out] at ho80)); have n0_ := Aside0.mk (Kd.R_elder' (by (with_reducible repeat (first | apply Kd.R_alloc | apply Kd.R_drewN | apply Kd.R_drew)); exact HO526.out) (Kd.R_base ho80) hb); have n1_ := Aside0.mk (Kd.R_elder' (by (with_reducible repeat (first | apply Kd.R_alloc | apply Kd.R_drewN | apply Kd.R_drew)); exact HO529.out) (Kd.R_base ho80) hb); have n2_ := Aside0.mk (Kd.R_lower (Kd.R_new' (Kd.R_new' ho80 (Kd.R_lt (by (with_reducible repeat (first | apply Kd.R_alloc | apply Kd.R_drewN | apply Kd.R_drew)); exact HO526.out))) (Kd.R_lt (by (with_reducible repeat (first | apply Kd.R_alloc | apply Kd.R_drewN | apply Kd.R_drew)); exact HO529.out))) (below_size (by repeat (first | (with_reducible first | exact HB.out | apply below_alloc | apply pw_below_drewN | apply below_drew1) | exact HB.out)))); have n3_ := Aside0.mk (below_step (by repeat (first | (with_reducible first | exact HB.out | apply below_alloc | apply pw_below_drewN | apply below_drew1) | exact HB.out)) hb); clear HO526; clear HO529; clear HB; have HO526 := n0_; have HO529 := n1_; have HO532 := n2_; have HB := n3_; clear n0_ n1_ n2_ n3_; clear hb ho80; obtain ⟨Ao81, co81, eo81⟩ := Kd.R_slice HO526.out; subst eo81; obtain ⟨Ao82, co82, eo82⟩ := Kd.R_slice HO529.out; subst eo82; obtain ⟨Ao83, co83, eo83⟩ := Kd.R_slice HO532.out; subst eo83) | ((with_reducible refine gate_dst (N := 115) rfl ?_); (try (refine gate_guard (by rfl) ?_; dsimp only)); refine Kd.N_lit (Kd.slice 43 k43) _ 22 ?hg (N' := 115) ?hd (xs := ([y524, y527, y530] : List (List (S43)))) (inner := [.slice Ao81 y524.length co81, .slice Ao82 y527.length co82, .slice Ao83 y530.length co83]) (ok := (fun _ => True)) (okp := (fun _ => True)) ?hr ?hp (fun _ hk => hk) ((show ∀ k_, w79.heap.size ≤ k_ → (fun _ => True) k_ from fun k_ hk => trivial) _ (Nat.le_refl _)) (Below.refl _ _) (Nat.le_refl _) (by simp) ?_; (case hd => rfl); (case hg => rfl); (case hr => first | (go_simp; done) | (go_simp; rfl)); (case hp => exact (Reps.one (show Kd.FK (Kd.slice 43 k43) _ _ y524 [.slice Ao81 y524.length co81] from (Kd.FK_slice_mk (Kd.R_reads' (Kd.R_mono (ok' := (fun _ => True)) (HO526.out) (fun k_ hk => trivial))).2.1 (Kd.R_F (Kd.R_mono (ok' := (fun _ => True)) (HO526.out) (fun k_ hk => trivial))))) (Reps.one (show Kd.FK (Kd.slice 43 k43) _ _ y527 [.slice Ao82 y527.length co82] from (Kd.FK_slice_mk (Kd.R_reads' (Kd.R_mono (ok' := (fun _ => True)) (HO529.out) (fun k_ hk => trivial))).2.1 (Kd.R_F (Kd.R_mono (ok' := (fun _ => True)) (HO529.out) (fun k_ hk => trivial))))) (Reps.one (show Kd.FK (Kd.slice 43 k43) _ _ y530 [.slice Ao83 y530.length co83] from (Kd.FK_slice_mk (Kd.R_reads' (Kd.R_mono (ok' := (fun _ => True)) (HO532.out) (fun k_ hk => trivial))).2.1 (Kd.R_F (Kd.R_mono (ok' := (fun _ => True)) (HO532.out) (fun k_ hk => trivial))))) (Reps.none _ _))))); intro v534 w84 ho85 hb hg_ hnew_; clear hg_ hnew_; (first | rw [← Ny533.out] at ho85 | (simp only [Int.reduceToNat] at ho85; rw [← Ny533.out] at ho85)); have n0_ := Aside0.mk (Kd.N_lower ho85 (below_size (by repeat (first | (with_reducible first | exact HB.out | apply below_alloc | apply pw_below_drewN | apply below_drew1) | exact HB.out)))); have n1_ := Aside0.mk (below_step (by repeat (first | (with_reducible first | exact HB.out | apply below_alloc | apply pw_below_drewN | apply below_drew1) | exact HB.out)) hb); clear HB; clear HO526; clear HO529; clear HO532; have HO535 := n0_; have HB := n1_; clear n0_ n1_; clear hb ho85))
                    go_loopg [11] kj48 (fun kq v11 w' => ∃ (x11_4 : Int), v11 = .int .i64 x11_4 ∧ Aside0 (smithylaw22_MovesNumbers.l2 kq y533 x11_4 = some true) ∧ Aside0 (kq ≤ kj48) ∧ Aside0 (Kd.N (Kd.slice 43 k43) 22 w' w.heap.size (fun _ => True) v534 y533) ∧ Aside0 (Below w.heap.size w w'))
                    case atStart => exact ⟨(0), (by first | rfl | (simp; done) | (simp [*]; done)), H', ⟨Nat.le_refl _⟩, ⟨by (with_reducible repeat (first | apply Kd.N_alloc | apply Kd.N_drewN | apply Kd.N_drew)); exact HO535.out⟩, ⟨by repeat (first | (with_reducible first | exact HB.out | apply below_alloc | apply pw_below_drewN | apply below_drew1) | exact HB.out)⟩⟩
                    case round =>
                      clear H'
                      try clear c1
                      try clear c1b0
                      try clear q1
                      try clear c2
                      try clear p2
                      try clear q2
                      try clear c3
                      try clear c4
                      try clear c5
                      try clear p6
                      try clear c7
                      try clear c8
                      try clear c8b0
                      try clear c8b1
                      try clear c10
                      try clear c17
                      try clear q17
                      try clear c25
                      try clear q25
                      try clear c42
                      try clear c42b0
                      try clear c43
                      try clear c44
                      try clear c54
                      try clear c54b0
                      try clear c54b1
                      try clear c55
                      try clear c55b0
                      try clear c55b1
                      try clear c56
                      try clear c56b0
                      try clear c56b1
                      try clear c57
                      try clear c57b0
                      try clear c57b1
                      try clear p64
                      try clear c74
                      try clear p2
                      try clear p6
                      try clear p64
                      try clear q1
                      try clear q17
                      try clear q2
                      try clear q25
                      obtain ⟨x11_4, rfl, HA, HK4, HO_10, HB⟩ := hrel
                      cases gk with
                      | zero => exact absurd HA.out (by simp [smithylaw22_MovesNumbers.l2])
                      | succ k4 =>
                        have H := HA.out
                        clear HA
                        simp only [smithylaw22_MovesNumbers.l2] at H
                        by_cases c86 : x11_4 < (y533.length : Int)
                        · rw [if_pos c86] at H
                          have c86b0 : decide (x11_4 < (y533.length : Int)) = true := decide_eq_true c86
                          clear c86
                          by_cases c87 : 0 ≤ x11_4
                          · rw [if_pos c87] at H
                            have c87b0 : decide (0 ≤ x11_4) = true := decide_eq_true c87
                            clear c87
                            replace H := Option.bind_eq_some_iff.mp H
                            obtain ⟨⟨t537, t538⟩, A880, H⟩ := H
                            replace H : (if t538 = 2 then (smithylaw22_MovesNumbers.l2 k4 y533 (wrap64 (x11_4 + 1))) else (some false)) = some true := H
                            have A88 := Aside0.mk A880
                            clear A880
                            by_cases c89 : t538 = 2
                            · rw [if_pos c89] at H
                              have c89b0 : (t538 == 2) = true := beq_iff_eq.mpr c89
                              have c89b1 : (t538 != 2) = false := bne_eq_false_iff_eq.mpr c89
                              clear c89
                              have H' := Aside0.mk H
                              clear H
                              obtain ⟨Ao90, co90, eo90⟩ := Kd.N_slice HO_10.out
                              subst eo90
                              have p536 : 0 ≤ (x11_4 : Int) := of_decide_eq_true (by first | (with_reducible assumption) | assumption)
                              have q536 : x11_4 < (y533.length : Int) := of_decide_eq_true (by first | (with_reducible assumption) | assumption)
                              obtain ⟨ad536, A536_0, c536_0, e536, hx536_0, hl536_0, hi536_0⟩ := at_L2 (Kd.N_reads' HO_10.out).2.2 x11_4 p536 q536
                              cases e536
                              obtain ⟨ce536, hce536, hMe536, hcc536⟩ := Kd.N_get HO_10.out [] x11_4 p536 (by first | exact q536 | exact of_decide_eq_true (by first | (with_reducible assumption) | assumption) | (have e_ := (Kd.N_reads' HO_10.out).1; omega))
                              obtain ⟨ua536_0, uc536_0, rfl, ul536_0, ge536_0⟩ := Kd.FK_slice_open hMe536
                              have hv536_0 := hcc536 0 _ rfl
                              rw [Nat.add_zero, show ((Kd.slice 43 k43)).sz = 1 from rfl, Nat.mul_one] at hv536_0
                              replace hv536_0 := Option.some.inj (hv536_0.symm.trans hx536_0)
                              injection hv536_0 with hva_ hvn_ hvc_
                              rw [hva_] at ge536_0
                              rw [hvc_] at ul536_0
                              have HL536_0 := Aside0.mk (show Kd.V k43 43 _ w.heap.size _ _ (rd_L2 y533 x11_4) from Kd.V_mk ul536_0 ge536_0)
                              clear hva_ hvn_ hvc_ ge536_0 ul536_0
                              clear hcc536 hce536
                              have HR536_0 := Aside0.mk hi536_0
                              have HC536_0 := Aside0.mk hl536_0
                              clear hi536_0 hl536_0
                              replace p536 := eq_true p536
                              replace q536 := eq_true q536
                              go_wp2_with (first | ((with_reducible refine gate_callee (f := 10) rfl ?_); refine goesL_ (some 127) rfl rfl Try.func10 (by kernel_rfl) rfl #[.slice A536_0 (rd_L2 y533 x11_4).length c536_0, .int .i64 (-1)] rfl (by (try simp only [List.map_toArray, List.map_cons, List.map_nil]); first | done | rfl | (simp only [List.length_drop, List.length_take]; rfl)) ?_; (with_reducible refine (moves_Row.calls k4 _ _ (rd_L2 y533 x11_4) (-1) t537 t538 _ ?side1 ?side2 A88.out).mono ?_); (case side1 => repeat (first | exact (by repeat (first | (with_reducible exact HR536_0.out) | (with_reducible refine Kd.C_alloc ?_ _) | (with_reducible refine Kd.C_drewN ?_ _) | (with_reducible refine Kd.C_drew ?_) | exact HR536_0.out)) | (with_reducible refine Kd.C_alloc ?_ _) | (with_reducible refine Kd.C_drewN ?_ _) | (with_reducible refine Kd.C_drew ?_))); (case side2 => exact HC536_0.out); rintro e w91 ⟨v539, rfl, ho0, hb⟩; refine ⟨_, rfl, ?_⟩; have n0_ := Aside0.mk (Kd.N_elder' (by (with_reducible repeat (first | apply Kd.N_alloc | apply Kd.N_drewN | apply Kd.N_drew)); exact HO_10.out) (Kd.R_base ho0) hb); have n1_ := Aside0.mk (Kd.V_elder' (by (with_reducible repeat (first | apply Kd.V_alloc | apply Kd.V_drewN | apply Kd.V_drew)); exact HL536_0.out) (Kd.R_base ho0) hb); have n2_ := Aside0.mk (Kd.R_lower ho0 (below_size (by repeat (first | (with_reducible first | exact HB.out | apply below_alloc | apply pw_below_drewN | apply below_drew1) | exact HB.out)))); have n3_ := Aside0.mk (Kd.C_below (by repeat (first | (with_reducible exact HR536_0.out) | (with_reducible refine Kd.C_alloc ?_ _) | (with_reducible refine Kd.C_drewN ?_ _) | (with_reducible refine Kd.C_drew ?_) | exact HR536_0.out)) hb); have n4_ := Aside0.mk (below_step (by repeat (first | (with_reducible first | exact HB.out | apply below_alloc | apply pw_below_drewN | apply below_drew1) | exact HB.out)) hb); clear HO_10; clear HL536_0; clear HR536_0; clear HB; have HO_10 := n0_; have HL536_0 := n1_; have HO540 := n2_; have HR536_0 := n3_; have HB := n4_; clear n0_ n1_ n2_ n3_ n4_; (try clear hb); (try clear hb2); (try clear hk); (try clear hi); (try clear ho0)))
                              go_roundg k4
                              case measure => have := HK1.out; have := HK2.out; have := HJ48.out; have := HK4.out; omega
                              case rel => exact ⟨(wrap64 (x11_4 + 1)), (by first | rfl | (simp; done) | (simp [*]; done)), H', ⟨by have := HK1.out; have := HK2.out; have := HJ48.out; have := HK4.out; omega⟩, ⟨by (with_reducible repeat (first | apply Kd.N_alloc | apply Kd.N_drewN | apply Kd.N_drew)); exact Kd.N_mono HO_10.out (fun _ hk => trivial)⟩, ⟨by repeat (first | (with_reducible first | exact HB.out | apply below_alloc | apply pw_below_drewN | apply below_drew1) | exact HB.out)⟩⟩
                            · rw [if_neg c89] at H
                              have c89b0 : (t538 == 2) = false := beq_eq_false_iff_ne.mpr c89
                              have c89b1 : (t538 != 2) = true := bne_iff_ne.mpr c89
                              exact absurd (Option.some.inj H) (by decide)
                          · rw [if_neg c87] at H
                            exact absurd H (by simp)
                        · rw [if_neg c86] at H
                          have c86b0 : decide (x11_4 < (y533.length : Int)) = false := decide_eq_false c86
                          clear c86
                          obtain ⟨y541, hy541⟩ : ∃ y_ : List (S43), y_ = (([(⟨0, 1⟩ : S43)] : List (S43))) := ⟨_, rfl⟩
                          replace H : ((moves_Row.f k4 y541 1).bind fun bt544 => ((moves_Row.f k4 ([] : List (S43)) (-2)).bind fun bt548 => ((moves_Row.f k4 (([(⟨3, 3⟩ : S43)] : List (S43))) (-1)).bind fun bt555 => (if bt544.2 = 2 then (if bt548.2 = 2 then (if (bt555.1.length : Int) = 0 then (if bt555.2 = 0 then ((smithylaw22_MovesRows.f (([(⟨4611686018427387904, 0⟩ : S43), (⟨0, 4611686018427387904⟩ : S43)] : List (S43))) 9223372036854775807).bind fun t562 => (if t562 = true then ((smithylaw22_awake.f k4).bind fun t563 => (some t563)) else (some false))) else (some false)) else (some false)) else (some false)) else (some false))))) = some true := by first | (rw [hy541]; with_reducible exact H) | (have H2_ := (Option.bind_some _ _).symm.trans H; rw [hy541]; with_reducible exact H2_) | (have H2_ := (Option.bind_some _ _).symm.trans H; with_reducible exact H2_) | with_reducible exact H | (rw [hy541]; exact H) | exact H
                          have Ny541 := Aside0.mk hy541
                          clear hy541
                          replace H := Option.bind_eq_some_iff.mp H
                          obtain ⟨⟨t544, t545⟩, A940, H⟩ := H
                          replace H : ((moves_Row.f k4 ([] : List (S43)) (-2)).bind fun bt548 => ((moves_Row.f k4 (([(⟨3, 3⟩ : S43)] : List (S43))) (-1)).bind fun bt555 => (if t545 = 2 then (if bt548.2 = 2 then (if (bt555.1.length : Int) = 0 then (if bt555.2 = 0 then ((smithylaw22_MovesRows.f (([(⟨4611686018427387904, 0⟩ : S43), (⟨0, 4611686018427387904⟩ : S43)] : List (S43))) 9223372036854775807).bind fun t562 => (if t562 = true then ((smithylaw22_awake.f k4).bind fun t563 => (some t563)) else (some false))) else (some false)) else (some false)) else (some false)) else (some false)))) = some true := H
                          have A94 := Aside0.mk A940
                          clear A940
                          replace H := Option.bind_eq_some_iff.mp H
                          obtain ⟨⟨t548, t549⟩, A950, H⟩ := H
                          replace H : ((moves_Row.f k4 (([(⟨3, 3⟩ : S43)] : List (S43))) (-1)).bind fun bt555 => (if t545 = 2 then (if t549 = 2 then (if (bt555.1.length : Int) = 0 then (if bt555.2 = 0 then ((smithylaw22_MovesRows.f (([(⟨4611686018427387904, 0⟩ : S43), (⟨0, 4611686018427387904⟩ : S43)] : List (S43))) 9223372036854775807).bind fun t562 => (if t562 = true then ((smithylaw22_awake.f k4).bind fun t563 => (some t563)) else (some false))) else (some false)) else (some false)) else (some false)) else (some false))) = some true := H
                          have A95 := Aside0.mk A950
                          clear A950
                          obtain ⟨y552, hy552⟩ : ∃ y_ : List (S43), y_ = (([(⟨3, 3⟩ : S43)] : List (S43))) := ⟨_, rfl⟩
                          replace H : ((moves_Row.f k4 y552 (-1)).bind fun bt555 => (if t545 = 2 then (if t549 = 2 then (if (bt555.1.length : Int) = 0 then (if bt555.2 = 0 then ((smithylaw22_MovesRows.f (([(⟨4611686018427387904, 0⟩ : S43), (⟨0, 4611686018427387904⟩ : S43)] : List (S43))) 9223372036854775807).bind fun t562 => (if t562 = true then ((smithylaw22_awake.f k4).bind fun t563 => (some t563)) else (some false))) else (some false)) else (some false)) else (some false)) else (some false))) = some true := by first | (rw [hy552]; with_reducible exact H) | (have H2_ := (Option.bind_some _ _).symm.trans H; rw [hy552]; with_reducible exact H2_) | (have H2_ := (Option.bind_some _ _).symm.trans H; with_reducible exact H2_) | with_reducible exact H | (rw [hy552]; exact H) | exact H
                          have Ny552 := Aside0.mk hy552
                          clear hy552
                          replace H := Option.bind_eq_some_iff.mp H
                          obtain ⟨⟨t555, t556⟩, A960, H⟩ := H
                          replace H : (if t545 = 2 then (if t549 = 2 then (if (t555.length : Int) = 0 then (if t556 = 0 then ((smithylaw22_MovesRows.f (([(⟨4611686018427387904, 0⟩ : S43), (⟨0, 4611686018427387904⟩ : S43)] : List (S43))) 9223372036854775807).bind fun t562 => (if t562 = true then ((smithylaw22_awake.f k4).bind fun t563 => (some t563)) else (some false))) else (some false)) else (some false)) else (some false)) else (some false)) = some true := H
                          have A96 := Aside0.mk A960
                          clear A960
                          by_cases c97 : t545 = 2
                          · rw [if_pos c97] at H
                            have c97b0 : (t545 == 2) = true := beq_iff_eq.mpr c97
                            have c97b1 : (t545 != 2) = false := bne_eq_false_iff_eq.mpr c97
                            clear c97
                            by_cases c98 : t549 = 2
                            · rw [if_pos c98] at H
                              have c98b0 : (t549 == 2) = true := beq_iff_eq.mpr c98
                              have c98b1 : (t549 != 2) = false := bne_eq_false_iff_eq.mpr c98
                              clear c98
                              by_cases c99 : (t555.length : Int) = 0
                              · rw [if_pos c99] at H
                                have c99b0 : ((t555.length : Int) == 0) = true := beq_iff_eq.mpr c99
                                have c99b1 : ((t555.length : Int) != 0) = false := bne_eq_false_iff_eq.mpr c99
                                clear c99
                                by_cases c100 : t556 = 0
                                · rw [if_pos c100] at H
                                  have c100b0 : (t556 == 0) = true := beq_iff_eq.mpr c100
                                  have c100b1 : (t556 != 0) = false := bne_eq_false_iff_eq.mpr c100
                                  clear c100
                                  obtain ⟨y559, hy559⟩ : ∃ y_ : List (S43), y_ = (([(⟨4611686018427387904, 0⟩ : S43), (⟨0, 4611686018427387904⟩ : S43)] : List (S43))) := ⟨_, rfl⟩
                                  replace H : ((smithylaw22_MovesRows.f y559 9223372036854775807).bind fun t562 => (if t562 = true then ((smithylaw22_awake.f k4).bind fun t563 => (some t563)) else (some false))) = some true := by first | (rw [hy559]; with_reducible exact H) | (have H2_ := (Option.bind_some _ _).symm.trans H; rw [hy559]; with_reducible exact H2_) | (have H2_ := (Option.bind_some _ _).symm.trans H; with_reducible exact H2_) | with_reducible exact H | (rw [hy559]; exact H) | exact H
                                  have Ny559 := Aside0.mk hy559
                                  clear hy559
                                  replace H := Option.bind_eq_some_iff.mp H
                                  obtain ⟨t562, A1010, H⟩ := H
                                  replace H : (if t562 = true then ((smithylaw22_awake.f k4).bind fun t563 => (some t563)) else (some false)) = some true := H
                                  have A101 := Aside0.mk A1010
                                  clear A1010
                                  by_cases c102 : t562 = true
                                  · subst c102
                                    have H1 : ((smithylaw22_awake.f k4).bind fun t563 => (some t563)) = some true := by rw [if_pos rfl] at H; exact H
                                    clear H
                                    have H := H1
                                    clear H1
                                    replace H := Option.bind_eq_some_iff.mp H
                                    obtain ⟨t563, A1030, H⟩ := H
                                    replace H : (some t563) = some true := H
                                    have A103 := Aside0.mk A1030
                                    clear A1030
                                    have HT563 := Aside0.mk (Option.some.inj H)
                                    clear H
                                    obtain ⟨Ao104, co104, eo104⟩ := Kd.N_slice HO_10.out
                                    subst eo104
                                    go_wp2_with (first | ((with_reducible refine gate_dst (N := 134) rfl ?_); (try (refine gate_guard (by rfl) ?_; dsimp only)); refine Kd.R_lit k43 _ 43 ?hg (N := 134) ?hd (xs := ([(⟨0, 1⟩ : S43)] : List (S43))) (inner := [.int .i64 0, .int .i64 1]) (ok := fun _ => True) (okp := fun _ => True) ?hr ?hp (fun _ hk => hk) trivial (Below.refl _ _) (Nat.le_refl _) (by simp) ?_; (case hd => rfl); (case hg => rfl); (case hr => first | (go_simp; done) | (go_simp; rfl)); (case hp => exact (Reps.c2 (show Kd.M k43 _ _ _ (⟨0, 1⟩ : S43) [.int .i64 0, .int .i64 1] from (k43_mkM _ _ _ (⟨0, 1⟩ : S43) )) (Reps.none _ _))); intro v542 w105 ho106 hb hg_ hnew_; clear hg_ hnew_; (first | rw [← Ny541.out] at ho106 | (simp only [Int.reduceToNat] at ho106; rw [← Ny541.out] at ho106)); have n0_ := Aside0.mk (Kd.N_elder' (by (with_reducible repeat (first | apply Kd.N_alloc | apply Kd.N_drewN | apply Kd.N_drew)); exact HO_10.out) (Kd.R_base ho106) hb); have n1_ := Aside0.mk (Kd.R_lower ho106 (below_size (by repeat (first | (with_reducible first | exact HB.out | apply below_alloc | apply pw_below_drewN | apply below_drew1) | exact HB.out)))); have n2_ := Aside0.mk (below_step (by repeat (first | (with_reducible first | exact HB.out | apply below_alloc | apply pw_below_drewN | apply below_drew1) | exact HB.out)) hb); clear HO_10; clear HB; have HO_10 := n0_; have HO543 := n1_; have HB := n2_; clear n0_ n1_ n2_; clear hb ho106; obtain ⟨Ao107, co107, eo107⟩ := Kd.R_slice HO543.out; subst eo107) | ((with_reducible refine gate_callee (f := 10) rfl ?_); refine goesL_ (some 135) rfl rfl Try.func10 (by kernel_rfl) rfl #[.slice Ao107 y541.length co107, .int .i64 1] rfl (by (try simp only [List.map_toArray, List.map_cons, List.map_nil]); first | done | rfl | (simp only [List.length_drop, List.length_take]; rfl)) ?_; (with_reducible refine (moves_Row.calls k4 _ _ y541 1 t544 t545 _ ?side1 ?side2 A94.out).mono ?_); (case side1 => repeat (first | exact (Kd.R_reads' HO543.out).2.2 | (with_reducible refine Kd.C_alloc ?_ _) | (with_reducible refine Kd.C_drewN ?_ _) | (with_reducible refine Kd.C_drew ?_))); (case side2 => exact (Kd.R_reads' HO543.out).2.1); rintro e w108 ⟨v546, rfl, ho0, hb⟩; refine ⟨_, rfl, ?_⟩; have n0_ := Aside0.mk (Kd.N_elder' (by (with_reducible repeat (first | apply Kd.N_alloc | apply Kd.N_drewN | apply Kd.N_drew)); exact HO_10.out) (Kd.R_base ho0) hb); have n1_ := Aside0.mk (Kd.R_elder' (by (with_reducible repeat (first | apply Kd.R_alloc | apply Kd.R_drewN | apply Kd.R_drew)); exact HO543.out) (Kd.R_base ho0) hb); have n2_ := Aside0.mk (Kd.R_lower (Kd.R_new' ho0 (Kd.R_lt (by (with_reducible repeat (first | apply Kd.R_alloc | apply Kd.R_drewN | apply Kd.R_drew)); exact HO543.out))) (below_size (by repeat (first | (with_reducible first | exact HB.out | apply below_alloc | apply pw_below_drewN | apply below_drew1) | exact HB.out)))); have n3_ := Aside0.mk (below_step (by repeat (first | (with_reducible first | exact HB.out | apply below_alloc | apply pw_below_drewN | apply below_drew1) | exact HB.out)) hb); clear HO_10; clear HO543; clear HB; have HO_10 := n0_; have HO543 := n1_; have HO547 := n2_; have HB := n3_; clear n0_ n1_ n2_ n3_; (try clear hb); (try clear hb2); (try clear hk); (try clear hi); (try clear ho0)) | ((with_reducible refine gate_callee (f := 10) rfl ?_); refine goesL_ (some 139) rfl rfl Try.func10 (by kernel_rfl) rfl #[.slice none 0 0, .int .i64 (-2)] rfl (by (try simp only [List.map_toArray, List.map_cons, List.map_nil]); first | done | rfl | (simp only [List.length_drop, List.length_take]; rfl)) ?_; (refine (moves_Row.calls k4 _ _ ([] : List (S43)) (-2) t548 t549 _ ?side1 ?side2 A95.out).mono ?_); (case side1 => exact Kd.C_nil _ _); (case side2 => exact Nat.le_refl _); rintro e w109 ⟨v550, rfl, ho0, hb⟩; refine ⟨_, rfl, ?_⟩; have n0_ := Aside0.mk (Kd.N_elder' (by (with_reducible repeat (first | apply Kd.N_alloc | apply Kd.N_drewN | apply Kd.N_drew)); exact HO_10.out) (Kd.R_base ho0) hb); have n1_ := Aside0.mk (Kd.R_elder' (by (with_reducible repeat (first | apply Kd.R_alloc | apply Kd.R_drewN | apply Kd.R_drew)); exact HO543.out) (Kd.R_base ho0) hb); have n2_ := Aside0.mk (Kd.R_elder' (by (with_reducible repeat (first | apply Kd.R_alloc | apply Kd.R_drewN | apply Kd.R_drew)); exact HO547.out) (Kd.R_base ho0) hb); have n3_ := Aside0.mk (Kd.R_lower (Kd.R_new' (Kd.R_new' ho0 (Kd.R_lt (by (with_reducible repeat (first | apply Kd.R_alloc | apply Kd.R_drewN | apply Kd.R_drew)); exact HO543.out))) (Kd.R_lt (by (with_reducible repeat (first | apply Kd.R_alloc | apply Kd.R_drewN | apply Kd.R_drew)); exact HO547.out))) (below_size (by repeat (first | (with_reducible first | exact HB.out | apply below_alloc | apply pw_below_drewN | apply below_drew1) | exact HB.out)))); have n4_ := Aside0.mk (below_step (by repeat (first | (with_reducible first | exact HB.out | apply below_alloc | apply pw_below_drewN | apply below_drew1) | exact HB.out)) hb); clear HO_10; clear HO543; clear HO547; clear HB; have HO_10 := n0_; have HO543 := n1_; have HO547 := n2_; have HO551 := n3_; have HB := n4_; clear n0_ n1_ n2_ n3_ n4_; (try clear hb); (try clear hb2); (try clear hk); (try clear hi); (try clear ho0)) | ((with_reducible refine gate_dst (N := 144) rfl ?_); (try (refine gate_guard (by rfl) ?_; dsimp only)); refine Kd.R_lit k43 _ 43 ?hg (N := 144) ?hd (xs := ([(⟨3, 3⟩ : S43)] : List (S43))) (inner := [.int .i64 3, .int .i64 3]) (ok := fun _ => True) (okp := fun _ => True) ?hr ?hp (fun _ hk => hk) trivial (Below.refl _ _) (Nat.le_refl _) (by simp) ?_; (case hd => rfl); (case hg => rfl); (case hr => first | (go_simp; done) | (go_simp; rfl)); (case hp => exact (Reps.c2 (show Kd.M k43 _ _ _ (⟨3, 3⟩ : S43) [.int .i64 3, .int .i64 3] from (k43_mkM _ _ _ (⟨3, 3⟩ : S43) )) (Reps.none _ _))); intro v553 w110 ho111 hb hg_ hnew_; clear hg_ hnew_; (first | rw [← Ny552.out] at ho111 | (simp only [Int.reduceToNat] at ho111; rw [← Ny552.out] at ho111)); have n0_ := Aside0.mk (Kd.N_elder' (by (with_reducible repeat (first | apply Kd.N_alloc | apply Kd.N_drewN | apply Kd.N_drew)); exact HO_10.out) (Kd.R_base ho111) hb); have n1_ := Aside0.mk (Kd.R_elder' (by (with_reducible repeat (first | apply Kd.R_alloc | apply Kd.R_drewN | apply Kd.R_drew)); exact HO543.out) (Kd.R_base ho111) hb); have n2_ := Aside0.mk (Kd.R_elder' (by (with_reducible repeat (first | apply Kd.R_alloc | apply Kd.R_drewN | apply Kd.R_drew)); exact HO547.out) (Kd.R_base ho111) hb); have n3_ := Aside0.mk (Kd.R_elder' (by (with_reducible repeat (first | apply Kd.R_alloc | apply Kd.R_drewN | apply Kd.R_drew)); exact HO551.out) (Kd.R_base ho111) hb); have n4_ := Aside0.mk (Kd.R_lower (Kd.R_new' (Kd.R_new' (Kd.R_new' ho111 (Kd.R_lt (by (with_reducible repeat (first | apply Kd.R_alloc | apply Kd.R_drewN | apply Kd.R_drew)); exact HO543.out))) (Kd.R_lt (by (with_reducible repeat (first | apply Kd.R_alloc | apply Kd.R_drewN | apply Kd.R_drew)); exact HO547.out))) (Kd.R_lt (by (with_reducible repeat (first | apply Kd.R_alloc | apply Kd.R_drewN | apply Kd.R_drew)); exact HO551.out))) (below_size (by repeat (first | (with_reducible first | exact HB.out | apply below_alloc | apply pw_below_drewN | apply below_drew1) | exact HB.out)))); have n5_ := Aside0.mk (below_step (by repeat (first | (with_reducible first | exact HB.out | apply below_alloc | apply pw_below_drewN | apply below_drew1) | exact HB.out)) hb); clear HO_10; clear HO543; clear HO547; clear HO551; clear HB; have HO_10 := n0_; have HO543 := n1_; have HO547 := n2_; have HO551 := n3_; have HO554 := n4_; have HB := n5_; clear n0_ n1_ n2_ n3_ n4_ n5_; clear hb ho111; obtain ⟨Ao112, co112, eo112⟩ := Kd.R_slice HO554.out; subst eo112) | ((with_reducible refine gate_callee (f := 10) rfl ?_); refine goesL_ (some 145) rfl rfl Try.func10 (by kernel_rfl) rfl #[.slice Ao112 y552.length co112, .int .i64 (-1)] rfl (by (try simp only [List.map_toArray, List.map_cons, List.map_nil]); first | done | rfl | (simp only [List.length_drop, List.length_take]; rfl)) ?_; (with_reducible refine (moves_Row.calls k4 _ _ y552 (-1) t555 t556 _ ?side1 ?side2 A96.out).mono ?_); (case side1 => repeat (first | exact (Kd.R_reads' HO554.out).2.2 | (with_reducible refine Kd.C_alloc ?_ _) | (with_reducible refine Kd.C_drewN ?_ _) | (with_reducible refine Kd.C_drew ?_))); (case side2 => exact (Kd.R_reads' HO554.out).2.1); rintro e w113 ⟨v557, rfl, ho0, hb⟩; refine ⟨_, rfl, ?_⟩; have n0_ := Aside0.mk (Kd.N_elder' (by (with_reducible repeat (first | apply Kd.N_alloc | apply Kd.N_drewN | apply Kd.N_drew)); exact HO_10.out) (Kd.R_base ho0) hb); have n1_ := Aside0.mk (Kd.R_elder' (by (with_reducible repeat (first | apply Kd.R_alloc | apply Kd.R_drewN | apply Kd.R_drew)); exact HO543.out) (Kd.R_base ho0) hb); have n2_ := Aside0.mk (Kd.R_elder' (by (with_reducible repeat (first | apply Kd.R_alloc | apply Kd.R_drewN | apply Kd.R_drew)); exact HO547.out) (Kd.R_base ho0) hb); have n3_ := Aside0.mk (Kd.R_elder' (by (with_reducible repeat (first | apply Kd.R_alloc | apply Kd.R_drewN | apply Kd.R_drew)); exact HO551.out) (Kd.R_base ho0) hb); have n4_ := Aside0.mk (Kd.R_elder' (by (with_reducible repeat (first | apply Kd.R_alloc | apply Kd.R_drewN | apply Kd.R_drew)); exact HO554.out) (Kd.R_base ho0) hb); have n5_ := Aside0.mk (Kd.R_lower (Kd.R_new' (Kd.R_new' (Kd.R_new' (Kd.R_new' ho0 (Kd.R_lt (by (with_reducible repeat (first | apply Kd.R_alloc | apply Kd.R_drewN | apply Kd.R_drew)); exact HO543.out))) (Kd.R_lt (by (with_reducible repeat (first | apply Kd.R_alloc | apply Kd.R_drewN | apply Kd.R_drew)); exact HO547.out))) (Kd.R_lt (by (with_reducible repeat (first | apply Kd.R_alloc | apply Kd.R_drewN | apply Kd.R_drew)); exact HO551.out))) (Kd.R_lt (by (with_reducible repeat (first | apply Kd.R_alloc | apply Kd.R_drewN | apply Kd.R_drew)); exact HO554.out))) (below_size (by repeat (first | (with_reducible first | exact HB.out | apply below_alloc | apply pw_below_drewN | apply below_drew1) | exact HB.out)))); have n6_ := Aside0.mk (below_step (by repeat (first | (with_reducible first | exact HB.out | apply below_alloc | apply pw_below_drewN | apply below_drew1) | exact HB.out)) hb); clear HO_10; clear HO543; clear HO547; clear HO551; clear HO554; clear HB; have HO_10 := n0_; have HO543 := n1_; have HO547 := n2_; have HO551 := n3_; have HO554 := n4_; have HO558 := n5_; have HB := n6_; clear n0_ n1_ n2_ n3_ n4_ n5_ n6_; (try clear hb); (try clear hb2); (try clear hk); (try clear hi); (try clear ho0); obtain ⟨Ao114, co114, eo114⟩ := Kd.R_slice HO558.out; subst eo114) | ((with_reducible refine gate_dst (N := 166) rfl ?_); (try (refine gate_guard (by rfl) ?_; dsimp only)); refine Kd.R_lit k43 _ 43 ?hg (N := 166) ?hd (xs := ([(⟨4611686018427387904, 0⟩ : S43), (⟨0, 4611686018427387904⟩ : S43)] : List (S43))) (inner := [.int .i64 4611686018427387904, .int .i64 0, .int .i64 0, .int .i64 4611686018427387904]) (ok := fun _ => True) (okp := fun _ => True) ?hr ?hp (fun _ hk => hk) trivial (Below.refl _ _) (Nat.le_refl _) (by simp) ?_; (case hd => rfl); (case hg => rfl); (case hr => first | (go_simp; done) | (go_simp; rfl)); (case hp => exact (Reps.c2 (show Kd.M k43 _ _ _ (⟨4611686018427387904, 0⟩ : S43) [.int .i64 4611686018427387904, .int .i64 0] from (k43_mkM _ _ _ (⟨4611686018427387904, 0⟩ : S43) )) (Reps.c2 (show Kd.M k43 _ _ _ (⟨0, 4611686018427387904⟩ : S43) [.int .i64 0, .int .i64 4611686018427387904] from (k43_mkM _ _ _ (⟨0, 4611686018427387904⟩ : S43) )) (Reps.none _ _)))); intro v560 w115 ho116 hb hg_ hnew_; clear hg_ hnew_; (first | rw [← Ny559.out] at ho116 | (simp only [Int.reduceToNat] at ho116; rw [← Ny559.out] at ho116)); have n0_ := Aside0.mk (Kd.N_elder' (by (with_reducible repeat (first | apply Kd.N_alloc | apply Kd.N_drewN | apply Kd.N_drew)); exact HO_10.out) (Kd.R_base ho116) hb); have n1_ := Aside0.mk (Kd.R_elder' (by (with_reducible repeat (first | apply Kd.R_alloc | apply Kd.R_drewN | apply Kd.R_drew)); exact HO543.out) (Kd.R_base ho116) hb); have n2_ := Aside0.mk (Kd.R_elder' (by (with_reducible repeat (first | apply Kd.R_alloc | apply Kd.R_drewN | apply Kd.R_drew)); exact HO547.out) (Kd.R_base ho116) hb); have n3_ := Aside0.mk (Kd.R_elder' (by (with_reducible repeat (first | apply Kd.R_alloc | apply Kd.R_drewN | apply Kd.R_drew)); exact HO551.out) (Kd.R_base ho116) hb); have n4_ := Aside0.mk (Kd.R_elder' (by (with_reducible repeat (first | apply Kd.R_alloc | apply Kd.R_drewN | apply Kd.R_drew)); exact HO554.out) (Kd.R_base ho116) hb); have n5_ := Aside0.mk (Kd.R_elder' (by (with_reducible repeat (first | apply Kd.R_alloc | apply Kd.R_drewN | apply Kd.R_drew)); exact HO558.out) (Kd.R_base ho116) hb); have n6_ := Aside0.mk (Kd.R_lower (Kd.R_new' (Kd.R_new' (Kd.R_new' (Kd.R_new' (Kd.R_new' ho116 (Kd.R_lt (by (with_reducible repeat (first | apply Kd.R_alloc | apply Kd.R_drewN | apply Kd.R_drew)); exact HO543.out))) (Kd.R_lt (by (with_reducible repeat (first | apply Kd.R_alloc | apply Kd.R_drewN | apply Kd.R_drew)); exact HO547.out))) (Kd.R_lt (by (with_reducible repeat (first | apply Kd.R_alloc | apply Kd.R_drewN | apply Kd.R_drew)); exact HO551.out))) (Kd.R_lt (by (with_reducible repeat (first | apply Kd.R_alloc | apply Kd.R_drewN | apply Kd.R_drew)); exact HO554.out))) (Kd.R_lt (by (with_reducible repeat (first | apply Kd.R_alloc | apply Kd.R_drewN | apply Kd.R_drew)); exact HO558.out))) (below_size (by repeat (first | (with_reducible first | exact HB.out | apply below_alloc | apply pw_below_drewN | apply below_drew1) | exact HB.out)))); have n7_ := Aside0.mk (below_step (by repeat (first | (with_reducible first | exact HB.out | apply below_alloc | apply pw_below_drewN | apply below_drew1) | exact HB.out)) hb); clear HO_10; clear HO543; clear HO547; clear HO551; clear HO554; clear HO558; clear HB; have HO_10 := n0_; have HO543 := n1_; have HO547 := n2_; have HO551 := n3_; have HO554 := n4_; have HO558 := n5_; have HO561 := n6_; have HB := n7_; clear n0_ n1_ n2_ n3_ n4_ n5_ n6_ n7_; clear hb ho116; obtain ⟨Ao117, co117, eo117⟩ := Kd.R_slice HO561.out; subst eo117) | (go_at_call 3; (with_reducible refine (smithylaw22_MovesRows.calls _ _ y559 9223372036854775807 true _ ?side1 ?side2 A101.out).mono ?_); (case side1 => repeat (first | exact (Kd.R_reads' HO561.out).2.2 | (with_reducible refine Kd.C_alloc ?_ _) | (with_reducible refine Kd.C_drewN ?_ _) | (with_reducible refine Kd.C_drew ?_))); (case side2 => exact (Kd.R_reads' HO561.out).2.1); rintro e w118 ⟨rfl, hb⟩; have n0_ := Aside0.mk (Kd.N_below (by (with_reducible repeat (first | apply Kd.N_alloc | apply Kd.N_drewN | apply Kd.N_drew)); exact HO_10.out) hb); have n1_ := Aside0.mk (Kd.R_below (by (with_reducible repeat (first | apply Kd.R_alloc | apply Kd.R_drewN | apply Kd.R_drew)); exact HO543.out) hb); have n2_ := Aside0.mk (Kd.R_below (by (with_reducible repeat (first | apply Kd.R_alloc | apply Kd.R_drewN | apply Kd.R_drew)); exact HO547.out) hb); have n3_ := Aside0.mk (Kd.R_below (by (with_reducible repeat (first | apply Kd.R_alloc | apply Kd.R_drewN | apply Kd.R_drew)); exact HO551.out) hb); have n4_ := Aside0.mk (Kd.R_below (by (with_reducible repeat (first | apply Kd.R_alloc | apply Kd.R_drewN | apply Kd.R_drew)); exact HO554.out) hb); have n5_ := Aside0.mk (Kd.R_below (by (with_reducible repeat (first | apply Kd.R_alloc | apply Kd.R_drewN | apply Kd.R_drew)); exact HO558.out) hb); have n6_ := Aside0.mk (Kd.R_below (by (with_reducible repeat (first | apply Kd.R_alloc | apply Kd.R_drewN | apply Kd.R_drew)); exact HO561.out) hb); have n7_ := Aside0.mk (below_step (by repeat (first | (with_reducible first | exact HB.out | apply below_alloc | apply pw_below_drewN | apply below_drew1) | exact HB.out)) hb); clear HO_10; clear HO543; clear HO547; clear HO551; clear HO554; clear HO558; clear HO561; clear HB; have HO_10 := n0_; have HO543 := n1_; have HO547 := n2_; have HO551 := n3_; have HO554 := n4_; have HO558 := n5_; have HO561 := n6_; have HB := n7_; clear n0_ n1_ n2_ n3_ n4_ n5_ n6_ n7_; (try clear hb); (try clear hb2); (try clear hk); (try clear hi)) | (go_at_call 8; (with_reducible refine (smithylaw22_awake.calls k4  t563 _ A103.out).mono ?_); rintro e w119 ⟨rfl, hb⟩; have n0_ := Aside0.mk (Kd.N_below (by (with_reducible repeat (first | apply Kd.N_alloc | apply Kd.N_drewN | apply Kd.N_drew)); exact HO_10.out) hb); have n1_ := Aside0.mk (Kd.R_below (by (with_reducible repeat (first | apply Kd.R_alloc | apply Kd.R_drewN | apply Kd.R_drew)); exact HO543.out) hb); have n2_ := Aside0.mk (Kd.R_below (by (with_reducible repeat (first | apply Kd.R_alloc | apply Kd.R_drewN | apply Kd.R_drew)); exact HO547.out) hb); have n3_ := Aside0.mk (Kd.R_below (by (with_reducible repeat (first | apply Kd.R_alloc | apply Kd.R_drewN | apply Kd.R_drew)); exact HO551.out) hb); have n4_ := Aside0.mk (Kd.R_below (by (with_reducible repeat (first | apply Kd.R_alloc | apply Kd.R_drewN | apply Kd.R_drew)); exact HO554.out) hb); have n5_ := Aside0.mk (Kd.R_below (by (with_reducible repeat (first | apply Kd.R_alloc | apply Kd.R_drewN | apply Kd.R_drew)); exact HO558.out) hb); have n6_ := Aside0.mk (Kd.R_below (by (with_reducible repeat (first | apply Kd.R_alloc | apply Kd.R_drewN | apply Kd.R_drew)); exact HO561.out) hb); have n7_ := Aside0.mk (below_step (by repeat (first | (with_reducible first | exact HB.out | apply below_alloc | apply pw_below_drewN | apply below_drew1) | exact HB.out)) hb); clear HO_10; clear HO543; clear HO547; clear HO551; clear HO554; clear HO558; clear HO561; clear HB; have HO_10 := n0_; have HO543 := n1_; have HO547 := n2_; have HO551 := n3_; have HO554 := n4_; have HO558 := n5_; have HO561 := n6_; have HB := n7_; clear n0_ n1_ n2_ n3_ n4_ n5_ n6_ n7_; (try clear hb); (try clear hb2); (try clear hk); (try clear hi)))
                                    go_ret
                                    exact ⟨by first | (rw [HT563.out]; done) | (rw [HT563.out]; rfl) | rfl | (simp [errW_none, errW_some] <;> rfl) | (simp [*, errW_none, errW_some] <;> rfl), by repeat (first | (with_reducible first | exact HB.out | apply below_alloc | apply pw_below_drewN | apply below_drew1) | exact HB.out)⟩
                                  · replace c102 := Bool.eq_false_iff.mpr c102
                                    subst c102
                                    have H1 : (some false) = some true := by rw [if_neg (show ¬ (false = true) by decide)] at H; exact H
                                    clear H
                                    have H := H1
                                    clear H1
                                    exact absurd (Option.some.inj H) (by decide)
                                · rw [if_neg c100] at H
                                  have c100b0 : (t556 == 0) = false := beq_eq_false_iff_ne.mpr c100
                                  have c100b1 : (t556 != 0) = true := bne_iff_ne.mpr c100
                                  exact absurd (Option.some.inj H) (by decide)
                              · rw [if_neg c99] at H
                                have c99b0 : ((t555.length : Int) == 0) = false := beq_eq_false_iff_ne.mpr c99
                                have c99b1 : ((t555.length : Int) != 0) = true := bne_iff_ne.mpr c99
                                have c99b2 : ¬ (t555 = []) := fun h_ => c99 (by rw [h_]; rfl)
                                exact absurd (Option.some.inj H) (by decide)
                            · rw [if_neg c98] at H
                              have c98b0 : (t549 == 2) = false := beq_eq_false_iff_ne.mpr c98
                              have c98b1 : (t549 != 2) = true := bne_iff_ne.mpr c98
                              exact absurd (Option.some.inj H) (by decide)
                          · rw [if_neg c97] at H
                            have c97b0 : (t545 == 2) = false := beq_eq_false_iff_ne.mpr c97
                            have c97b1 : (t545 != 2) = true := bne_iff_ne.mpr c97
                            exact absurd (Option.some.inj H) (by decide)

/-- THE ONE PURE STATEMENT of smithylaw22_MovesNumbers: yours. -/
def smithylaw22_MovesNumbers.Pure : Prop := ∃ k, smithylaw22_MovesNumbers.f k  = some true
theorem smithylaw22_MovesNumbers.walk (P : smithylaw22_MovesNumbers.Pure)  (w : World)  :
    Calls Try.prog 5 #[] w fun e w' => e = .returned (.bool true) ∧ Below w.heap.size w w' := by
  obtain ⟨k, h⟩ := P  
  refine (smithylaw22_MovesNumbers.calls k w h).mono ?_
  rintro e w' ⟨rfl, hd⟩
  exact ⟨rfl, hd⟩

end Go.Proofs.Ytchmddbenohmnaa.F
