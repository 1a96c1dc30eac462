/- Texts of this proof, joined in build order: Fxf16. -/
import Derived.Test.YtligpleningglaaGreatCz
import Derived.Test.YtligpleningglaaGreatC02
import Derived.Test.YtligpleningglaaGreatC07
set_option linter.unusedVariables false
set_option linter.unusedSimpArgs false
set_option linter.unusedSectionVars false
set_option maxHeartbeats 8000000
set_option maxRecDepth 100000
namespace Go.Proofs.YtligpleningglaaGreat.F
open Go.RowKit Go.Proofs.YtligpleningglaaGreatW.PrintWords Go.Proofs.YtligpleningglaaGreatW.PrintLast Go.Proofs.YtligpleningglaaGreatW.PrintMore
attribute [local go_sem] min2_int min_two
mutual
def smithyref19_Parts.l0 : Nat → List (List Int) → Int → Option ((List (List Int)) × Int)
 | 0, _, _ => none
 | k + 1, x0, x5 => if x5 < (x0.length : Int) then (smithyref19_Parts.l1 k x0 x5 0) else (smithyref19_Parts.l2 k x0 ([] : List (List Bool)) 0)
def smithyref19_Parts.l1 : Nat → List (List Int) → Int → Int → Option ((List (List Int)) × Int)
 | 0, _, _, _ => none
 | k + 1, x0, x5, x6 => if 0 ≤ x5 then (if x5 < (x0.length : Int) then (if x6 < ((rd_L1 x0 x5).length : Int) then (if 0 ≤ x6 then (if (rd (rd_L1 x0 x5) x6) < 0 then (some (([] : List (List Int)), 4)) else (if (rd (rd_L1 x0 x5) x6) ≥ (x0.length : Int) then (some (([] : List (List Int)), 4)) else (smithyref19_Parts.l1 k x0 x5 (wrap64 (x6 + 1))))) else (none)) else (smithyref19_Parts.l0 k x0 (wrap64 (x5 + 1)))) else (none)) else (none)
def smithyref19_Parts.l2 : Nat → List (List Int) → List (List Bool) → Int → Option ((List (List Int)) × Int)
 | 0, _, _, _ => none
 | k + 1, x0, x4, x7 => if x7 < (x0.length : Int) then ((smithyref19_reached.f k x0 x7).bind fun t546 => (if x4.length < 5864062014805 then (smithyref19_Parts.l2 k x0 (x4 ++ [t546]) (wrap64 (x7 + 1))) else (none))) else (if 0 ≤ (x0.length : Int) then (if ((x0.length : Int) : Int).toNat ≤ 281474976710656 then (smithyref19_Parts.l3 k x0 x4 (List.replicate ((x0.length : Int) : Int).toNat false) ([] : List Int) 0) else (none)) else (none))
def smithyref19_Parts.l3 : Nat → List (List Int) → List (List Bool) → List Bool → List Int → Int → Option ((List (List Int)) × Int)
 | 0, _, _, _, _, _ => none
 | k + 1, x0, x4, x9, x10, x11 => if x11 < (x0.length : Int) then (if 0 ≤ x11 then (if x11 < (x9.length : Int) then (if rdOf false x9 x11 = true then (smithyref19_Parts.l3 k x0 x4 x9 x10 (wrap64 (x11 + 1))) else ((smithyref19_walk.f k x0 x11 x9 x10).bind fun bt556 => (smithyref19_Parts.l3 k x0 x4 bt556.2 bt556.1 (wrap64 (x11 + 1))))) else (none)) else (none)) else (smithyref19_Parts.l4 k x0 x4 x10 ([] : List (List Int)) 0)
def smithyref19_Parts.l4 : Nat → List (List Int) → List (List Bool) → List Int → List (List Int) → Int → Option ((List (List Int)) × Int)
 | 0, _, _, _, _, _ => none
 | k + 1, x0, x4, x10, x12, x13 => if x13 < (x10.length : Int) then (smithyref19_Parts.l5 k x0 x4 x10 x12 x13 ([] : List Int) true 0) else (some (x12, 0))
def smithyref19_Parts.l5 : Nat → List (List Int) → List (List Bool) → List Int → List (List Int) → Int → List Int → Bool → Int → Option ((List (List Int)) × Int)
 | 0, _, _, _, _, _, _, _, _ => none
 | k + 1, x0, x4, x10, x12, x13, x14, x15, x16 => if x16 < (x0.length : Int) then (if 0 ≤ x13 then (if x13 < (x10.length : Int) then (if x16 = (rd x10 x13) then (if x14.length < 17592186044416 then ((some (x14 ++ [x16] : List Int)).bind fun y561 => (if x15 = true then (if 0 ≤ (wrap64 (x13 + 1)) then (if (wrap64 (x13 + 1)) ≤ (x10.length : Int) then ((smithyref19_has.f k (x10.drop ((wrap64 (x13 + 1)) : Int).toNat) x16).bind fun t568 => (smithyref19_Parts.l5 k x0 x4 x10 x12 x13 y561 (!t568) (wrap64 (x16 + 1)))) else (none)) else (none)) else (smithyref19_Parts.l5 k x0 x4 x10 x12 x13 y561 false (wrap64 (x16 + 1))))) else (none)) else (if 0 ≤ x16 then (if x16 < (x4.length : Int) then (if 0 ≤ (rd x10 x13) then (if (rd x10 x13) < ((rd_L16 x4 x16).length : Int) then (if rdOf false (rd_L16 x4 x16) (rd x10 x13) = true then (if (rd x10 x13) < (x4.length : Int) then (if x16 < ((rd_L16 x4 (rd x10 x13)).length : Int) then (if rdOf false (rd_L16 x4 (rd x10 x13)) x16 = true then (if x14.length < 17592186044416 then ((some (x14 ++ [x16] : List Int)).bind fun y575 => (if x15 = true then (if 0 ≤ (wrap64 (x13 + 1)) then (if (wrap64 (x13 + 1)) ≤ (x10.length : Int) then ((smithyref19_has.f k (x10.drop ((wrap64 (x13 + 1)) : Int).toNat) x16).bind fun t582 => (smithyref19_Parts.l5 k x0 x4 x10 x12 x13 y575 (!t582) (wrap64 (x16 + 1)))) else (none)) else (none)) else (smithyref19_Parts.l5 k x0 x4 x10 x12 x13 y575 false (wrap64 (x16 + 1))))) else (none)) else (smithyref19_Parts.l5 k x0 x4 x10 x12 x13 x14 x15 (wrap64 (x16 + 1)))) else (none)) else (none)) else (smithyref19_Parts.l5 k x0 x4 x10 x12 x13 x14 x15 (wrap64 (x16 + 1)))) else (none)) else (none)) else (none)) else (none))) else (none)) else (none)) else (if x15 = true then (if x12.length < 5864062014805 then (smithyref19_Parts.l4 k x0 x4 x10 (x12 ++ [x14]) (wrap64 (x13 + 1))) else (none)) else (smithyref19_Parts.l4 k x0 x4 x10 x12 (wrap64 (x13 + 1))))
end
def smithyref19_Parts.f (k : Nat) (l0 : List (List Int)) : Option ((List (List Int)) × Int) := smithyref19_Parts.l0 k l0 0
theorem smithyref19_Parts.calls (k : Nat) (A0 : Option Addr) (c0 : Nat) (l0 : List (List Int)) (r1 : List (List Int)) (r2 : Int) (w : World) (hr0 : Kd.C (Kd.slice 3 (Kd.int .i64)) w A0 l0.length l0) (hc0 : l0.length ≤ c0) (h : smithyref19_Parts.f k l0 = some (r1, r2)) :
 Calls Tryz.prog 16 #[.slice A0 l0.length c0] w fun e w' => ∃ v0_ : Value, e = .returned (.tuple #[v0_, .int .i64 r2]) ∧ Kd.S (Kd.slice 3 (Kd.int .i64)) 44 w' w.heap.size (fun _ => True) v0_ r1 ∧ Below w.heap.size w w' := by
 have HR0 := qA hr0
 have HC0 := qA hc0
 clear hr0 hc0
 have HB := qA (Below.refl w.heap.size w)
 have H : (smithyref19_Parts.l0 k l0 0) = some (r1, r2) := h
 clear h
 have H' := qA H
 clear H
 go_enter Tryz.func16, Tryz.ntmps16
 go_wp2
 repeat (go_quiet (fail); try go_wp2)
 go_loopg [5] k (fun kq v5 w' => ∃ (x5_1 : Int), v5 = .int .i64 x5_1 ∧ Aside0 (smithyref19_Parts.l0 kq l0 x5_1 = some (r1, r2)) ∧ Aside0 (kq ≤ k) ∧ Aside0 (Below w.heap.size w w'))
 case atStart => exact ⟨(0), cq4, H', ⟨Nat.le_refl _⟩, ⟨by repeat (first | (with_reducible first | exact HB.out | apply below_alloc | apply pw_below_drewN | apply below_drew1) | exact HB.out)⟩⟩
 case round =>
  clear H'
  try clear c1
  obtain ⟨x5_1, rfl, HA, HK1, HB⟩ := hrel
  cases gk with
  | zero => exact absurd HA.out (by simp [smithyref19_Parts.l0])
  | succ k1 =>
   have H := HA.out
   clear HA
   simp only [smithyref19_Parts.l0] at H
   by_cases c2 : x5_1 < (l0.length : Int)
   ·
    rw [if_pos c2] at H
    have c2b0 : decide (x5_1 < (l0.length : Int)) = true := decide_eq_true c2
    clear c2
    have H' := qA H
    clear H
    go_wp2
    repeat (go_quiet (fail); try go_wp2)
    go_loopg [6] k1 (fun kq v6 w' => ∃ (x6_2 : Int), v6 = .int .i64 x6_2 ∧ Aside0 (smithyref19_Parts.l1 kq l0 x5_1 x6_2 = some (r1, r2)) ∧ Aside0 (kq ≤ k1) ∧ Aside0 (Below w.heap.size w w'))
    case atStart => exact ⟨(0), cq4, H', ⟨Nat.le_refl _⟩, ⟨by repeat (first | (with_reducible first | exact HB.out | apply below_alloc | apply pw_below_drewN | apply below_drew1) | exact HB.out)⟩⟩
    case round =>
     clear H'
     try clear c1
     try clear c2
     try clear c2b0
     try clear p2
     obtain ⟨x6_2, rfl, HA, HK2, HB⟩ := hrel
     cases gk with
     | zero => exact absurd HA.out (by simp [smithyref19_Parts.l1])
     | succ k2 =>
      have H := HA.out
      clear HA
      simp only [smithyref19_Parts.l1] at H
      by_cases c3 : 0 ≤ x5_1
      ·
       rw [if_pos c3] at H
       have c3b0 : decide (0 ≤ x5_1) = true := decide_eq_true c3
       clear c3
       by_cases c4 : x5_1 < (l0.length : Int)
       ·
        rw [if_pos c4] at H
        have c4b0 : decide (x5_1 < (l0.length : Int)) = true := decide_eq_true c4
        clear c4
        by_cases c5 : x6_2 < ((rd_L1 l0 x5_1).length : Int)
        ·
         rw [if_pos c5] at H
         have c5b0 : decide (x6_2 < ((rd_L1 l0 x5_1).length : Int)) = true := decide_eq_true c5
         clear c5
         by_cases c6 : 0 ≤ x6_2
         ·
          rw [if_pos c6] at H
          have c6b0 : decide (0 ≤ x6_2) = true := decide_eq_true c6
          clear c6
          by_cases c7 : (rd (rd_L1 l0 x5_1) x6_2) < 0
          ·
           rw [if_pos c7] at H
           have c7b0 : decide ((rd (rd_L1 l0 x5_1) x6_2) < 0) = true := decide_eq_true c7
           clear c7
           simp only [Option.some.injEq, Prod.mk.injEq] at H
           obtain ⟨rfl, rfl⟩ := H
           have p541 : 0 ≤ (x5_1 : Int) := qO cq0
           have q541 : x5_1 < (l0.length : Int) := qO cq0
           obtain ⟨ad541, A541_0, c541_0, e541, hx541_0, hl541_0, hi541_0⟩ := at_L1 HR0.out x5_1 p541 q541
           cases e541
           replace hx541_0 := (HB.out.cell (World.block_lt_of_cell? w _ hx541_0)).trans hx541_0
           have HR541_0 := qA hi541_0
           have HC541_0 := qA hl541_0
           clear hi541_0 hl541_0
           replace p541 := eq_true p541
           replace q541 := eq_true q541
           have p542 : 0 ≤ (x5_1 : Int) := qO cq0
           have q542 : x5_1 < (l0.length : Int) := qO cq0
           obtain ⟨ad542, A542_0, c542_0, e542, hx542_0, hl542_0, hi542_0⟩ := at_L1 HR0.out x5_1 p542 q542
           obtain rfl : ad541 = ad542 := (by injection e542)
           replace hx542_0 := (HB.out.cell (World.block_lt_of_cell? w _ hx542_0)).trans hx542_0
           have HR542_0 := qA hi542_0
           have HC542_0 := qA hl542_0
           clear hi542_0 hl542_0
           replace p542 := eq_true p542
           replace q542 := eq_true q542
           have ea_ := Option.some.inj (hx541_0.symm.trans hx542_0)
           injection ea_ with ea_ en_ ec_
           subst ea_
           subst ec_
           clear en_
           have p543 : 0 ≤ (x6_2 : Int) := qO cq0
           have q543 : x6_2 < ((rd_L1 l0 x5_1).length : Int) := qO cq0
           obtain ⟨ad543, e543, hx543_0⟩ := Kd.at_int HR542_0.out x6_2 p543 q543
           cases e543
           replace hx543_0 := (HB.out.cell (World.block_lt_of_cell? w _ hx543_0)).trans hx543_0
           replace p543 := eq_true p543
           replace q543 := eq_true q543
           go_wp2
           repeat (go_quiet (fail); try go_wp2)
           go_ret2
           exact ⟨_, by first | rfl | (simp <;> rfl) | (simp [*] <;> rfl), by first | exact Kd.S_nil _ _ _ _ _ | exact Kd.N_nil _ _ _ _ _ | exact Kd.V_nil _ _ _ _ _ | exact Kd.Q_nil _ _ _ _ _ | exact Kd.R_nil _ _ _ _ _, by repeat (first | (with_reducible first | exact HB.out | apply below_alloc | apply pw_below_drewN | apply below_drew1) | exact HB.out)⟩
          ·
           rw [if_neg c7] at H
           have c7b0 : decide ((rd (rd_L1 l0 x5_1) x6_2) < 0) = false := decide_eq_false c7
           clear c7
           by_cases c8 : (rd (rd_L1 l0 x5_1) x6_2) ≥ (l0.length : Int)
           ·
            rw [if_pos c8] at H
            have c8b0 : decide ((l0.length : Int) ≤ (rd (rd_L1 l0 x5_1) x6_2)) = true := decide_eq_true c8
            clear c8
            simp only [Option.some.injEq, Prod.mk.injEq] at H
            obtain ⟨rfl, rfl⟩ := H
            have p541 : 0 ≤ (x5_1 : Int) := qO cq0
            have q541 : x5_1 < (l0.length : Int) := qO cq0
            obtain ⟨ad541, A541_0, c541_0, e541, hx541_0, hl541_0, hi541_0⟩ := at_L1 HR0.out x5_1 p541 q541
            cases e541
            replace hx541_0 := (HB.out.cell (World.block_lt_of_cell? w _ hx541_0)).trans hx541_0
            have HR541_0 := qA hi541_0
            have HC541_0 := qA hl541_0
            clear hi541_0 hl541_0
            replace p541 := eq_true p541
            replace q541 := eq_true q541
            have p542 : 0 ≤ (x5_1 : Int) := qO cq0
            have q542 : x5_1 < (l0.length : Int) := qO cq0
            obtain ⟨ad542, A542_0, c542_0, e542, hx542_0, hl542_0, hi542_0⟩ := at_L1 HR0.out x5_1 p542 q542
            obtain rfl : ad541 = ad542 := (by injection e542)
            replace hx542_0 := (HB.out.cell (World.block_lt_of_cell? w _ hx542_0)).trans hx542_0
            have HR542_0 := qA hi542_0
            have HC542_0 := qA hl542_0
            clear hi542_0 hl542_0
            replace p542 := eq_true p542
            replace q542 := eq_true q542
            have ea_ := Option.some.inj (hx541_0.symm.trans hx542_0)
            injection ea_ with ea_ en_ ec_
            subst ea_
            subst ec_
            clear en_
            have p543 : 0 ≤ (x6_2 : Int) := qO cq0
            have q543 : x6_2 < ((rd_L1 l0 x5_1).length : Int) := qO cq0
            obtain ⟨ad543, e543, hx543_0⟩ := Kd.at_int HR542_0.out x6_2 p543 q543
            cases e543
            replace hx543_0 := (HB.out.cell (World.block_lt_of_cell? w _ hx543_0)).trans hx543_0
            replace p543 := eq_true p543
            replace q543 := eq_true q543
            have p544 : 0 ≤ (x5_1 : Int) := qO cq0
            have q544 : x5_1 < (l0.length : Int) := qO cq0
            obtain ⟨ad544, A544_0, c544_0, e544, hx544_0, hl544_0, hi544_0⟩ := at_L1 HR0.out x5_1 p544 q544
            obtain rfl : ad541 = ad544 := (by injection e544)
            replace hx544_0 := (HB.out.cell (World.block_lt_of_cell? w _ hx544_0)).trans hx544_0
            have HR544_0 := qA hi544_0
            have HC544_0 := qA hl544_0
            clear hi544_0 hl544_0
            replace p544 := eq_true p544
            replace q544 := eq_true q544
            have ea_ := Option.some.inj (hx541_0.symm.trans hx544_0)
            injection ea_ with ea_ en_ ec_
            subst ea_
            subst ec_
            clear en_
            have p545 : 0 ≤ (x6_2 : Int) := qO cq0
            have q545 : x6_2 < ((rd_L1 l0 x5_1).length : Int) := qO cq0
            obtain ⟨ad545, e545, hx545_0⟩ := Kd.at_int HR544_0.out x6_2 p545 q545
            cases e545
            replace hx545_0 := (HB.out.cell (World.block_lt_of_cell? w _ hx545_0)).trans hx545_0
            replace p545 := eq_true p545
            replace q545 := eq_true q545
            go_wp2
            repeat (go_quiet (fail); try go_wp2)
            go_ret2
            exact ⟨_, by first | rfl | (simp <;> rfl) | (simp [*] <;> rfl), by first | exact Kd.S_nil _ _ _ _ _ | exact Kd.N_nil _ _ _ _ _ | exact Kd.V_nil _ _ _ _ _ | exact Kd.Q_nil _ _ _ _ _ | exact Kd.R_nil _ _ _ _ _, by repeat (first | (with_reducible first | exact HB.out | apply below_alloc | apply pw_below_drewN | apply below_drew1) | exact HB.out)⟩
           ·
            rw [if_neg c8] at H
            have c8b0 : decide ((l0.length : Int) ≤ (rd (rd_L1 l0 x5_1) x6_2)) = false := decide_eq_false c8
            clear c8
            have H' := qA H
            clear H
            have p541 : 0 ≤ (x5_1 : Int) := qO cq0
            have q541 : x5_1 < (l0.length : Int) := qO cq0
            obtain ⟨ad541, A541_0, c541_0, e541, hx541_0, hl541_0, hi541_0⟩ := at_L1 HR0.out x5_1 p541 q541
            cases e541
            replace hx541_0 := (HB.out.cell (World.block_lt_of_cell? w _ hx541_0)).trans hx541_0
            have HR541_0 := qA hi541_0
            have HC541_0 := qA hl541_0
            clear hi541_0 hl541_0
            replace p541 := eq_true p541
            replace q541 := eq_true q541
            have p542 : 0 ≤ (x5_1 : Int) := qO cq0
            have q542 : x5_1 < (l0.length : Int) := qO cq0
            obtain ⟨ad542, A542_0, c542_0, e542, hx542_0, hl542_0, hi542_0⟩ := at_L1 HR0.out x5_1 p542 q542
            obtain rfl : ad541 = ad542 := (by injection e542)
            replace hx542_0 := (HB.out.cell (World.block_lt_of_cell? w _ hx542_0)).trans hx542_0
            have HR542_0 := qA hi542_0
            have HC542_0 := qA hl542_0
            clear hi542_0 hl542_0
            replace p542 := eq_true p542
            replace q542 := eq_true q542
            have ea_ := Option.some.inj (hx541_0.symm.trans hx542_0)
            injection ea_ with ea_ en_ ec_
            subst ea_
            subst ec_
            clear en_
            have p543 : 0 ≤ (x6_2 : Int) := qO cq0
            have q543 : x6_2 < ((rd_L1 l0 x5_1).length : Int) := qO cq0
            obtain ⟨ad543, e543, hx543_0⟩ := Kd.at_int HR542_0.out x6_2 p543 q543
            cases e543
            replace hx543_0 := (HB.out.cell (World.block_lt_of_cell? w _ hx543_0)).trans hx543_0
            replace p543 := eq_true p543
            replace q543 := eq_true q543
            have p544 : 0 ≤ (x5_1 : Int) := qO cq0
            have q544 : x5_1 < (l0.length : Int) := qO cq0
            obtain ⟨ad544, A544_0, c544_0, e544, hx544_0, hl544_0, hi544_0⟩ := at_L1 HR0.out x5_1 p544 q544
            obtain rfl : ad541 = ad544 := (by injection e544)
            replace hx544_0 := (HB.out.cell (World.block_lt_of_cell? w _ hx544_0)).trans hx544_0
            have HR544_0 := qA hi544_0
            have HC544_0 := qA hl544_0
            clear hi544_0 hl544_0
            replace p544 := eq_true p544
            replace q544 := eq_true q544
            have ea_ := Option.some.inj (hx541_0.symm.trans hx544_0)
            injection ea_ with ea_ en_ ec_
            subst ea_
            subst ec_
            clear en_
            have p545 : 0 ≤ (x6_2 : Int) := qO cq0
            have q545 : x6_2 < ((rd_L1 l0 x5_1).length : Int) := qO cq0
            obtain ⟨ad545, e545, hx545_0⟩ := Kd.at_int HR544_0.out x6_2 p545 q545
            cases e545
            replace hx545_0 := (HB.out.cell (World.block_lt_of_cell? w _ hx545_0)).trans hx545_0
            replace p545 := eq_true p545
            replace q545 := eq_true q545
            go_wp2
            repeat (go_quiet (fail); try go_wp2)
            go_roundg k2
            case measure => have := HK1.out; have := HK2.out; omega
            case rel => exact ⟨(wrap64 (x6_2 + 1)), cq4, H', ⟨by have := HK1.out; have := HK2.out; omega⟩, ⟨by repeat (first | (with_reducible first | exact HB.out | apply below_alloc | apply pw_below_drewN | apply below_drew1) | exact HB.out)⟩⟩
         ·
          rw [if_neg c6] at H
          exact absurd H cq23
        ·
         rw [if_neg c5] at H
         have c5b0 : decide (x6_2 < ((rd_L1 l0 x5_1).length : Int)) = false := decide_eq_false c5
         clear c5
         have H' := qA H
         clear H
         have p541 : 0 ≤ (x5_1 : Int) := qO cq0
         have q541 : x5_1 < (l0.length : Int) := qO cq0
         obtain ⟨ad541, A541_0, c541_0, e541, hx541_0, hl541_0, hi541_0⟩ := at_L1 HR0.out x5_1 p541 q541
         cases e541
         replace hx541_0 := (HB.out.cell (World.block_lt_of_cell? w _ hx541_0)).trans hx541_0
         have HR541_0 := qA hi541_0
         have HC541_0 := qA hl541_0
         clear hi541_0 hl541_0
         replace p541 := eq_true p541
         replace q541 := eq_true q541
         go_wp2
         repeat (go_quiet (fail); try go_wp2)
         go_roundg k2
         case measure => have := HK1.out; have := HK2.out; omega
         case rel => exact ⟨(wrap64 (x5_1 + 1)), cq4, H', ⟨by have := HK1.out; have := HK2.out; omega⟩, ⟨by repeat (first | (with_reducible first | exact HB.out | apply below_alloc | apply pw_below_drewN | apply below_drew1) | exact HB.out)⟩⟩
       ·
        rw [if_neg c4] at H
        exact absurd H cq23
      ·
       rw [if_neg c3] at H
       exact absurd H cq23
   ·
    rw [if_neg c2] at H
    have c2b0 : decide (x5_1 < (l0.length : Int)) = false := decide_eq_false c2
    clear c2
    have H' := qA H
    clear H
    go_wp2
    repeat (go_quiet (fail); try go_wp2)
    go_loopg [4, 7] k1 (fun kq v4 v7 w' => ∃ (x4_2 : List (List Bool)) (x7_2 : Int), v7 = .int .i64 x7_2 ∧ Aside0 (smithyref19_Parts.l2 kq l0 x4_2 x7_2 = some (r1, r2)) ∧ Aside0 (kq ≤ k1) ∧ Aside0 (Kd.S (Kd.slice 4 Kd.bool) 33 w' w.heap.size (fun _ => True) v4 x4_2) ∧ Aside0 (Below w.heap.size w w'))
    case atStart => exact ⟨(([] : List (List Bool))), (0), cq4, H', ⟨Nat.le_refl _⟩, ⟨by first | exact Kd.S_nil _ _ _ _ _ | exact Kd.N_nil _ _ _ _ _ | exact Kd.V_nil _ _ _ _ _ | exact Kd.Q_nil _ _ _ _ _ | exact Kd.R_nil _ _ _ _ _⟩, ⟨by repeat (first | (with_reducible first | exact HB.out | apply below_alloc | apply pw_below_drewN | apply below_drew1) | exact HB.out)⟩⟩
    case round =>
     clear H'
     try clear c1
     try clear c2
     try clear c2b0
     try clear p2
     try clear c3
     try clear c3b0
     try clear c4
     try clear c4b0
     try clear c5
     try clear c5b0
     try clear p5
     try clear q5
     try clear hx5
     try clear c6
     try clear c6b0
     try clear p6
     try clear c7
     try clear c7b0
     try clear c8
     try clear c8b0
     try clear hx541_0
     try clear hx542_0
     try clear hx543_0
     try clear hx544_0
     try clear hx545_0
     try clear p2
     try clear p541
     try clear p542
     try clear p543
     try clear p544
     try clear p545
     try clear q541
     try clear q542
     try clear q543
     try clear q544
     try clear q545
     obtain ⟨x4_2, x7_2, rfl, HA, HK2, HO_4, HB⟩ := hrel
     cases gk with
     | zero => exact absurd HA.out (by simp [smithyref19_Parts.l2])
     | succ k2 =>
      have H := HA.out
      clear HA
      simp only [smithyref19_Parts.l2] at H
      by_cases c9 : x7_2 < (l0.length : Int)
      ·
       rw [if_pos c9] at H
       have c9b0 : decide (x7_2 < (l0.length : Int)) = true := decide_eq_true c9
       clear c9
       replace H := Option.bind_eq_some_iff.mp H
       obtain ⟨t546, A100, H⟩ := H
       replace H : (if x4_2.length < 5864062014805 then (smithyref19_Parts.l2 k2 l0 (x4_2 ++ [t546]) (wrap64 (x7_2 + 1))) else (none)) = some (r1, r2) := H
       have A10 := qA A100
       clear A100
       by_cases c11 : x4_2.length < 5864062014805
       ·
        rw [if_pos c11] at H
        have LMc11 := qA c11
        clear c11
        obtain ⟨y549, hy549⟩ : ∃ y_ : List (List Bool), y_ = (x4_2 ++ [t546]) := ⟨_, rfl⟩
        replace H : (smithyref19_Parts.l2 k2 l0 y549 (wrap64 (x7_2 + 1))) = some (r1, r2) := by first | (rw [hy549]; with_reducible exact H) | (have H2_ := (Option.bind_some _ _).symm.trans H; rw [hy549]; with_reducible exact H2_) | (have H2_ := (Option.bind_some _ _).symm.trans H; with_reducible exact H2_) | with_reducible exact H | (rw [hy549]; exact H) | exact H
        have Ny549 := qA hy549
        clear hy549
        have H' := qA H
        clear H
        go_wp2_with (first | (go_at_call 35; (with_reducible refine (smithyref19_reached.calls k2 _ _ l0 x7_2 t546 _ ?side1 ?side2 A10.out).mono ?_); (case side1 => repeat (first | exact (Kd.C_below HR0.out HB.out) | (with_reducible refine Kd.C_alloc ?_ _) | (with_reducible refine Kd.C_drewN ?_ _) | (with_reducible refine Kd.C_drew ?_))); (case side2 => exact HC0.out); rintro e w12 ⟨v547, rfl, ho0, hb⟩; have n0_ := qA (Kd.S_elder' cq10 (Kd.R_base ho0) hb); have n1_ := qA (Kd.R_lower ho0 (below_size cq1)); have n2_ := qA (below_step cq1 hb); clear HO_4; clear HB; have HO_4 := n0_; have HO548 := n1_; have HB := n2_; clear n0_ n1_ n2_; (try clear hb); (try clear hb2); (try clear hk); (try clear hi); (try clear ho0); obtain ⟨Ao14, co14, eo14⟩ := Kd.R_slice HO548.out; subst eo14) | ((with_reducible refine gate_builtin (b := .append) (xs := #[.tmp 61, .tmp 63]) rfl ?_); (try (refine gate_guard cq60 ?_; dsimp only)); at_builtin; refine Kd.S_append (Kd.slice 4 Kd.bool) (w0 := w) w.heap.size rfl (.tmp 61) (.tmp 63) 42 33 (.slice none 0 0) 24 rfl Tryz.underlying42 info33 rfl cq6 cq2 u4 x4_2 t546 [.slice Ao14 t546.length co14] (fun _ => True) (fun k_ => some k_ = (.slice Ao14 t546.length co14 : Value).ownBlock) rfl rfl ?aP (fun k_ hk_ => ((Kd.R_mono (ok' := fun k_ => ((fun _ => True)) k_ ∧ some k_ ≠ (u4 : Value).ownBlock) (Kd.R_apart' (HO548.out) (Kd.S_typed HO_4.out) cq6) (fun k_ hk => ⟨trivial, hk.2⟩))).1 k_ hk_.symm) ?aF ?aO ?aB ?aS ?aL ?_; (case aP => exact Kd.M_row (Kd.R_mono (Kd.R_tight rfl (Kd.R_mono (ok' := fun k_ => ((fun _ => True)) k_ ∧ some k_ ≠ (u4 : Value).ownBlock) (Kd.R_apart' (HO548.out) (Kd.S_typed HO_4.out) cq6) (fun k_ hk => ⟨trivial, hk.2⟩))) (fun _ h_ => h_))); (case aB => exact cq1); (case aF => exact (fun _ _ => trivial)); (case aO => exact (by (with_reducible repeat (first | apply Kd.S_alloc | apply Kd.S_drewN | apply Kd.S_drew)); exact Kd.S_mono HO_4.out (fun k_ hk => ⟨trivial, fun e_ => hk.2 e_⟩))); (case aS => exact (below_size cq1)); (case aL => have := LMc11.out; omega); intro v550 w13 ho hb hg hat; rw [← Ny549.out] at ho; have n0_ := qA (hb); have n1_ := qA (ho); clear HB; clear HO_4; clear HO548; have HB := n0_; have HO551 := n1_; clear n0_ n1_; clear ho hb hg hat))
        go_roundg k2
        case measure => have := HK1.out; have := HK2.out; omega
        case rel => exact ⟨(y549), (wrap64 (x7_2 + 1)), cq4, H', ⟨by have := HK1.out; have := HK2.out; omega⟩, ⟨by (with_reducible repeat (first | apply Kd.S_alloc | apply Kd.S_drewN | apply Kd.S_drew)); exact HO551.out⟩, ⟨by repeat (first | (with_reducible first | exact HB.out | apply below_alloc | apply pw_below_drewN | apply below_drew1) | exact HB.out)⟩⟩
       ·
        rw [if_neg c11] at H
        exact absurd H cq23
      ·
       rw [if_neg c9] at H
       have c9b0 : decide (x7_2 < (l0.length : Int)) = false := decide_eq_false c9
       clear c9
       by_cases c15 : 0 ≤ (l0.length : Int)
       ·
        rw [if_pos c15] at H
        have c15b0 := eq_true c15
        have c15b1 : decide (0 ≤ (l0.length : Int)) = true := decide_eq_true c15
        clear c15
        by_cases c16 : ((l0.length : Int) : Int).toNat ≤ 281474976710656
        ·
         rw [if_pos c16] at H
         have c16b0 := eq_true c16
         have c16b1 : decide (((l0.length : Int) : Int).toNat ≤ 281474976710656) = true := decide_eq_true c16
         clear c16
         obtain ⟨y552, hy552⟩ : ∃ y_ : List Bool, y_ = (List.replicate ((l0.length : Int) : Int).toNat false) := ⟨_, rfl⟩
         replace H : (smithyref19_Parts.l3 k2 l0 x4_2 y552 ([] : List Int) 0) = some (r1, r2) := by first | (rw [hy552]; with_reducible exact H) | (have H2_ := (Option.bind_some _ _).symm.trans H; rw [hy552]; with_reducible exact H2_) | (have H2_ := (Option.bind_some _ _).symm.trans H; with_reducible exact H2_) | with_reducible exact H | (rw [hy552]; exact H) | exact H
         have Ny552 := qA hy552
         clear hy552
         have H' := qA H
         clear H
         go_wp2_with (first | ((with_reducible refine gate_dst (N := 67) rfl ?_); (try (refine gate_guard cq60 ?_; dsimp only)); refine Kd.R_make Kd.bool _ 4 rfl (N := 67) rfl 33 _ _ rfl (l0.length : Int) rfl rfl Tryz.underlying33 (.bool false) 1 info4 rfl cq6 cq2 false (ok := fun _ => True) (okp := fun _ => True) rfl (fun _ hk => hk) trivial (qO cq0) (Nat.le_trans (Nat.mul_le_mul_right _ (qO cq0 : (l0.length : Int).toNat ≤ 281474976710656)) cq2) (Below.refl _ _) (Nat.le_refl _) ?_; intro v553 w17 ho18 hb hg_ hnew_; clear hg_ hnew_; (first | rw [← Ny552.out] at ho18 | (simp only [Int.reduceToNat] at ho18; rw [← Ny552.out] at ho18)); have n0_ := qA (Kd.S_elder' cq10 (Kd.R_base ho18) hb); have n1_ := qA (Kd.R_lower ho18 (below_size cq1)); have n2_ := qA (below_step cq1 hb); clear HO_4; clear HB; have HO_4 := n0_; have HO554 := n1_; have HB := n2_; clear n0_ n1_ n2_; clear hb ho18))
         go_loopg [10, 11] k2 (fun kq v10 v11 w' => ∃ (x9_3 : List Bool) (x10_3 : List Int) (x11_3 : Int), v11 = .int .i64 x11_3 ∧ Aside0 (smithyref19_Parts.l3 kq l0 x4_2 x9_3 x10_3 x11_3 = some (r1, r2)) ∧ Aside0 (kq ≤ k2) ∧ Aside0 (Kd.S (Kd.slice 4 Kd.bool) 33 w' w.heap.size (fun k_ => some k_ ≠ (v553 : Value).ownBlock) u4 x4_2) ∧ Aside0 (Kd.R Kd.bool 4 w' w.heap.size (fun _ => True) v553 x9_3) ∧ Aside0 (Kd.R (Kd.int .i64) 3 w' w.heap.size (fun _ => True) v10 x10_3) ∧ Aside0 (Below w.heap.size w w'))
         case atStart => exact ⟨(y552), (([] : List Int)), (0), cq4, H', ⟨Nat.le_refl _⟩, ⟨by (with_reducible repeat (first | apply Kd.S_alloc | apply Kd.S_drewN | apply Kd.S_drew)); exact Kd.S_mono HO_4.out (fun _ hk => hk.2)⟩, ⟨by (with_reducible repeat (first | apply Kd.R_alloc | apply Kd.R_drewN | apply Kd.R_drew)); exact HO554.out⟩, ⟨by first | exact Kd.R_nil _ _ _ _ _ | exact Kd.N_nil _ _ _ _ _ | exact Kd.V_nil _ _ _ _ _ | exact Kd.Q_nil _ _ _ _ _ | exact Kd.S_nil _ _ _ _ _⟩, ⟨by repeat (first | (with_reducible first | exact HB.out | apply below_alloc | apply pw_below_drewN | apply below_drew1) | exact HB.out)⟩⟩
         case round =>
          clear H'
          try clear c1
          try clear c2
          try clear c2b0
          try clear p2
          try clear c3
          try clear c3b0
          try clear c4
          try clear c4b0
          try clear c5
          try clear c5b0
          try clear p5
          try clear q5
          try clear hx5
          try clear c6
          try clear c6b0
          try clear p6
          try clear c7
          try clear c7b0
          try clear c8
          try clear c8b0
          try clear c9
          try clear c9b0
          try clear c11
          try clear c15
          try clear c15b0
          try clear c15b1
          try clear c16
          try clear c16b0
          try clear c16b1
          try clear hx541_0
          try clear hx542_0
          try clear hx543_0
          try clear hx544_0
          try clear hx545_0
          try clear p2
          try clear p5
          try clear p541
          try clear p542
          try clear p543
          try clear p544
          try clear p545
          try clear p6
          try clear q5
          try clear q541
          try clear q542
          try clear q543
          try clear q544
          try clear q545
          obtain ⟨x9_3, x10_3, x11_3, rfl, HA, HK3, HO_4, HO_9, HO_10, HB⟩ := hrel
          cases gk with
          | zero => exact absurd HA.out (by simp [smithyref19_Parts.l3])
          | succ k3 =>
           have H := HA.out
           clear HA
           simp only [smithyref19_Parts.l3] at H
           by_cases c19 : x11_3 < (l0.length : Int)
           ·
            rw [if_pos c19] at H
            have c19b0 : decide (x11_3 < (l0.length : Int)) = true := decide_eq_true c19
            clear c19
            by_cases c20 : 0 ≤ x11_3
            ·
             rw [if_pos c20] at H
             have c20b0 : decide (0 ≤ x11_3) = true := decide_eq_true c20
             clear c20
             by_cases c21 : x11_3 < (x9_3.length : Int)
             ·
              rw [if_pos c21] at H
              have c21b0 : decide (x11_3 < (x9_3.length : Int)) = true := decide_eq_true c21
              clear c21
              obtain ⟨bq22, hbq22⟩ : ∃ b_ : Bool, b_ = (rdOf false x9_3 x11_3) := ⟨_, rfl⟩
              replace H : (if bq22 = true then (smithyref19_Parts.l3 k3 l0 x4_2 x9_3 x10_3 (wrap64 (x11_3 + 1))) else ((smithyref19_walk.f k3 l0 x11_3 x9_3 x10_3).bind fun bt556 => (smithyref19_Parts.l3 k3 l0 x4_2 bt556.2 bt556.1 (wrap64 (x11_3 + 1))))) = some (r1, r2) := by rw [← hbq22] at H; exact H
              have Nbq22 := qA hbq22
              clear hbq22
              by_cases c23 : bq22 = true
              ·
               subst c23
               have H1 : (smithyref19_Parts.l3 k3 l0 x4_2 x9_3 x10_3 (wrap64 (x11_3 + 1))) = some (r1, r2) := by rw [if_pos rfl] at H; exact H
               clear H
               have H := H1
               clear H1
               have H' := qA H
               clear H
               obtain ⟨Ao24, co24, eo24⟩ := Kd.R_slice HO_9.out
               subst eo24
               have p555 : 0 ≤ (x11_3 : Int) := qO cq0
               have q555 : x11_3 < (x9_3.length : Int) := qO cq0
               obtain ⟨ad555, e555, hx555_0⟩ := Kd.at_bool (Kd.R_reads' HO_9.out).2.2 x11_3 p555 q555
               (try rw [← Nbq22.out] at hx555_0)
               cases e555
               replace p555 := eq_true p555
               replace q555 := eq_true q555
               go_wp2
               repeat (go_quiet (fail); try go_wp2)
               go_roundg k3
               case measure => have := HK1.out; have := HK2.out; have := HK3.out; omega
               case rel => exact ⟨(x9_3), (x10_3), (wrap64 (x11_3 + 1)), cq4, H', ⟨by have := HK1.out; have := HK2.out; have := HK3.out; omega⟩, ⟨by (with_reducible repeat (first | apply Kd.S_alloc | apply Kd.S_drewN | apply Kd.S_drew)); exact HO_4.out⟩, ⟨by (with_reducible repeat (first | apply Kd.R_alloc | apply Kd.R_drewN | apply Kd.R_drew)); exact HO_9.out⟩, ⟨by (with_reducible repeat (first | apply Kd.R_alloc | apply Kd.R_drewN | apply Kd.R_drew)); exact HO_10.out⟩, ⟨by repeat (first | (with_reducible first | exact HB.out | apply below_alloc | apply pw_below_drewN | apply below_drew1) | exact HB.out)⟩⟩
              ·
               replace c23 := Bool.eq_false_iff.mpr c23
               subst c23
               have H1 : ((smithyref19_walk.f k3 l0 x11_3 x9_3 x10_3).bind fun bt556 => (smithyref19_Parts.l3 k3 l0 x4_2 bt556.2 bt556.1 (wrap64 (x11_3 + 1)))) = some (r1, r2) := by rw [if_neg (show ¬ (false = true) by decide)] at H; exact H
               clear H
               have H := H1
               clear H1
               replace H := Option.bind_eq_some_iff.mp H
               obtain ⟨⟨t556, t559⟩, A250, H⟩ := H
               replace H : (smithyref19_Parts.l3 k3 l0 x4_2 t559 t556 (wrap64 (x11_3 + 1))) = some (r1, r2) := H
               have A25 := qA A250
               clear A250
               have H' := qA H
               clear H
               obtain ⟨Ao26, co26, eo26⟩ := Kd.R_slice HO_9.out
               subst eo26
               have p555 : 0 ≤ (x11_3 : Int) := qO cq0
               have q555 : x11_3 < (x9_3.length : Int) := qO cq0
               obtain ⟨ad555, e555, hx555_0⟩ := Kd.at_bool (Kd.R_reads' HO_9.out).2.2 x11_3 p555 q555
               (try rw [← Nbq22.out] at hx555_0)
               cases e555
               replace p555 := eq_true p555
               replace q555 := eq_true q555
               obtain ⟨Ao27, co27, eo27⟩ := Kd.R_slice HO_10.out
               subst eo27
               go_wp2_with (first | (go_at_call 36; (with_reducible refine (smithyref19_walk.calls k3 _ _ l0 x11_3 (fun k_ => some k_ = (.slice (some ad555) x9_3.length co26 : Value).ownBlock) (.slice (some ad555) x9_3.length co26) x9_3 (fun k_ => some k_ = (.slice Ao27 x10_3.length co27 : Value).ownBlock) (.slice Ao27 x10_3.length co27) x10_3 t556 t559 w _ ?side1 ?side2 ?side3 ?side4 ?side5 A25.out).mono ?_); (case side1 => repeat (first | (with_reducible first | exact HB.out | apply below_alloc | apply pw_below_drewN | apply below_drew1) | exact HB.out)); (case side2 => exact Kd.C_kept_came (Kd.heap_slice 3 (Kd.heap_int .i64)) HR0.out cq1 (fun k_ hs_ => Or.elim hs_ (fun e_ => (fun e_ => Kd.R_base HO_9.out k_ e_.symm) e_) (fun e_ => (fun e_ => Kd.R_base HO_10.out k_ e_.symm) e_))); (case side3 => exact HC0.out); (case side4 => exact Kd.R_tight rfl HO_9.out); (case side5 => exact Kd.R_tight rfl HO_10.out); rintro e w28 ⟨v557, rfl, ho0, hy0, hb, hkp⟩; have n0_ := qA (Kd.S_mono (ok' := fun k_ => some k_ ≠ (.slice (some ad555) x9_3.length co26 : Value).ownBlock) (Kd.S_keptB ((Kd.S_apart' HO_4.out (Kd.R_typed HO_10.out) cq6)) hkp (fun k_ hk_ hs_ => Or.elim hs_ (fun e_ => (hk_.1) e_) (fun e_ => (hk_.2) e_))) (fun k_ hk_ => hk_.1.1)); have n1_ := qA (Kd.R_reok rfl hy0 (fun k_ e_ => HO_9.out.1 k_ e_)); have n2_ := qA (Kd.R_mono (ok' := fun k_ => True) ho0 (fun k_ hk_ => trivial)); have n3_ := qA (hb); clear HO_4; clear HO_9; clear HB; clear HO_10; have HO_4 := n0_; have HO_9 := n1_; have HO558 := n2_; have HB := n3_; clear n0_ n1_ n2_ n3_; (try clear hb); (try clear hkp); (try clear ho0); (try clear hy0)))
               go_roundg k3
               case measure => have := HK1.out; have := HK2.out; have := HK3.out; omega
               case rel => exact ⟨(t559), (t556), (wrap64 (x11_3 + 1)), cq4, H', ⟨by have := HK1.out; have := HK2.out; have := HK3.out; omega⟩, ⟨by (with_reducible repeat (first | apply Kd.S_alloc | apply Kd.S_drewN | apply Kd.S_drew)); exact HO_4.out⟩, ⟨by (with_reducible repeat (first | apply Kd.R_alloc | apply Kd.R_drewN | apply Kd.R_drew)); exact HO_9.out⟩, ⟨by (with_reducible repeat (first | apply Kd.R_alloc | apply Kd.R_drewN | apply Kd.R_drew)); exact HO558.out⟩, ⟨by repeat (first | (with_reducible first | exact HB.out | apply below_alloc | apply pw_below_drewN | apply below_drew1) | exact HB.out)⟩⟩
             ·
              rw [if_neg c21] at H
              exact absurd H cq23
            ·
             rw [if_neg c20] at H
             exact absurd H cq23
           ·
            rw [if_neg c19] at H
            have c19b0 : decide (x11_3 < (l0.length : Int)) = false := decide_eq_false c19
            clear c19
            have H' := qA H
            clear H
            go_wp2
            repeat (go_quiet (fail); try go_wp2)
            go_loopg [12, 13] k3 (fun kq v12 v13 w' => ∃ (x12_4 : List (List Int)) (x13_4 : Int), v13 = .int .i64 x13_4 ∧ Aside0 (smithyref19_Parts.l4 kq l0 x4_2 x10_3 x12_4 x13_4 = some (r1, r2)) ∧ Aside0 (kq ≤ k3) ∧ Aside0 (Kd.S (Kd.slice 4 Kd.bool) 33 w' w.heap.size (fun _ => True) u4 x4_2) ∧ Aside0 (Kd.R (Kd.int .i64) 3 w' w.heap.size (fun _ => True) u10 x10_3) ∧ Aside0 (Kd.S (Kd.slice 3 (Kd.int .i64)) 44 w' w.heap.size (fun k_ => some k_ ≠ (u10 : Value).ownBlock) v12 x12_4) ∧ Aside0 (Below w.heap.size w w'))
            case atStart => exact ⟨(([] : List (List Int))), (0), cq4, H', ⟨Nat.le_refl _⟩, ⟨by (with_reducible repeat (first | apply Kd.S_alloc | apply Kd.S_drewN | apply Kd.S_drew)); exact Kd.S_mono HO_4.out (fun _ hk => trivial)⟩, ⟨by (with_reducible repeat (first | apply Kd.R_alloc | apply Kd.R_drewN | apply Kd.R_drew)); exact HO_10.out⟩, ⟨by first | exact Kd.S_nil _ _ _ _ _ | exact Kd.N_nil _ _ _ _ _ | exact Kd.V_nil _ _ _ _ _ | exact Kd.Q_nil _ _ _ _ _ | exact Kd.R_nil _ _ _ _ _⟩, ⟨by repeat (first | (with_reducible first | exact HB.out | apply below_alloc | apply pw_below_drewN | apply below_drew1) | exact HB.out)⟩⟩
            case round =>
             clear H'
             try clear c1
             try clear c2
             try clear c2b0
             try clear p2
             try clear q2
             try clear c3
             try clear c3b0
             try clear c4
             try clear c4b0
             try clear c5
             try clear c5b0
             try clear p5
             try clear q5
             try clear hx5
             try clear c6
             try clear c6b0
             try clear p6
             try clear c7
             try clear c7b0
             try clear c8
             try clear c8b0
             try clear c9
             try clear c9b0
             try clear c11
             try clear c15
             try clear c15b0
             try clear c15b1
             try clear c16
             try clear c16b0
             try clear c16b1
             try clear c19
             try clear c19b0
             try clear c20
             try clear c20b0
             try clear c21
             try clear c21b0
             try clear q22
             try clear c23
             try clear hx541_0
             try clear hx542_0
             try clear hx543_0
             try clear hx544_0
             try clear hx545_0
             try clear hx555_0
             try clear p2
             try clear p5
             try clear p541
             try clear p542
             try clear p543
             try clear p544
             try clear p545
             try clear p555
             try clear p6
             try clear q5
             try clear q541
             try clear q542
             try clear q543
             try clear q544
             try clear q545
             try clear q555
             obtain ⟨x12_4, x13_4, rfl, HA, HK4, HO_4, HO_10, HO_12, HB⟩ := hrel
             cases gk with
             | zero => exact absurd HA.out (by simp [smithyref19_Parts.l4])
             | succ k4 =>
              have H := HA.out
              clear HA
              simp only [smithyref19_Parts.l4] at H
              by_cases c29 : x13_4 < (x10_3.length : Int)
              ·
               rw [if_pos c29] at H
               have c29b0 : decide (x13_4 < (x10_3.length : Int)) = true := decide_eq_true c29
               clear c29
               have H' := qA H
               clear H
               obtain ⟨Ao30, co30, eo30⟩ := Kd.R_slice HO_10.out
               subst eo30
               go_wp2
               repeat (go_quiet (fail); try go_wp2)
               go_loopg [14, 15, 16] k4 (fun kq v14 v15 v16 w' => ∃ (x14_5 : List Int) (x15_5 : Bool) (x16_5 : Int), v15 = .bool x15_5 ∧ v16 = .int .i64 x16_5 ∧ Aside0 (smithyref19_Parts.l5 kq l0 x4_2 x10_3 x12_4 x13_4 x14_5 x15_5 x16_5 = some (r1, r2)) ∧ Aside0 (kq ≤ k4) ∧ Aside0 (Kd.S (Kd.slice 4 Kd.bool) 33 w' w.heap.size (fun _ => True) u4 x4_2) ∧ Aside0 (Kd.R (Kd.int .i64) 3 w' w.heap.size (fun k_ => some k_ ≠ (v14 : Value).ownBlock) (.slice Ao30 x10_3.length co30) x10_3) ∧ Aside0 (Kd.S (Kd.slice 3 (Kd.int .i64)) 44 w' w.heap.size (fun k_ => some k_ ≠ ((.slice Ao30 x10_3.length co30) : Value).ownBlock ∧ some k_ ≠ (v14 : Value).ownBlock) u12 x12_4) ∧ Aside0 (Kd.R (Kd.int .i64) 3 w' w.heap.size (fun k_ => some k_ ≠ ((.slice Ao30 x10_3.length co30) : Value).ownBlock) v14 x14_5) ∧ Aside0 (Below w.heap.size w w'))
               case atStart => exact ⟨(([] : List Int)), (true), (0), cq4, cq4, H', ⟨Nat.le_refl _⟩, ⟨by (with_reducible repeat (first | apply Kd.S_alloc | apply Kd.S_drewN | apply Kd.S_drew)); exact HO_4.out⟩, ⟨by (with_reducible repeat (first | apply Kd.R_alloc | apply Kd.R_drewN | apply Kd.R_drew)); exact Kd.R_mono HO_10.out (fun _ hk => (by simp [Value.ownBlock]))⟩, ⟨by (with_reducible repeat (first | apply Kd.S_alloc | apply Kd.S_drewN | apply Kd.S_drew)); exact Kd.S_mono HO_12.out (fun _ hk => ⟨hk, (by simp [Value.ownBlock])⟩)⟩, ⟨by first | exact Kd.R_nil _ _ _ _ _ | exact Kd.N_nil _ _ _ _ _ | exact Kd.V_nil _ _ _ _ _ | exact Kd.Q_nil _ _ _ _ _ | exact Kd.S_nil _ _ _ _ _⟩, ⟨by repeat (first | (with_reducible first | exact HB.out | apply below_alloc | apply pw_below_drewN | apply below_drew1) | exact HB.out)⟩⟩
               case round =>
                clear H'
                try clear c1
                try clear c2
                try clear c2b0
                try clear p2
                try clear q2
                try clear c3
                try clear c3b0
                try clear c4
                try clear c4b0
                try clear c5
                try clear c5b0
                try clear p5
                try clear q5
                try clear hx5
                try clear c6
                try clear c6b0
                try clear p6
                try clear c7
                try clear c7b0
                try clear c8
                try clear c8b0
                try clear c9
                try clear c9b0
                try clear c11
                try clear c15
                try clear c15b0
                try clear c15b1
                try clear c16
                try clear c16b0
                try clear c16b1
                try clear c19
                try clear c19b0
                try clear c20
                try clear c20b0
                try clear c21
                try clear c21b0
                try clear q22
                try clear c23
                try clear c29
                try clear c29b0
                try clear hx541_0
                try clear hx542_0
                try clear hx543_0
                try clear hx544_0
                try clear hx545_0
                try clear hx555_0
                try clear p2
                try clear p5
                try clear p541
                try clear p542
                try clear p543
                try clear p544
                try clear p545
                try clear p555
                try clear p6
                try clear q2
                try clear q22
                try clear q5
                try clear q541
                try clear q542
                try clear q543
                try clear q544
                try clear q545
                try clear q555
                obtain ⟨x14_5, x15_5, x16_5, rfl, rfl, HA, HK5, HO_4, HO_10, HO_12, HO_14, HB⟩ := hrel
                cases gk with
                | zero => exact absurd HA.out (by simp [smithyref19_Parts.l5])
                | succ k5 =>
                 have H := HA.out
                 clear HA
                 simp only [smithyref19_Parts.l5] at H
                 by_cases c31 : x16_5 < (l0.length : Int)
                 ·
                  rw [if_pos c31] at H
                  have c31b0 : decide (x16_5 < (l0.length : Int)) = true := decide_eq_true c31
                  clear c31
                  by_cases c32 : 0 ≤ x13_4
                  ·
                   rw [if_pos c32] at H
                   have c32b0 : decide (0 ≤ x13_4) = true := decide_eq_true c32
                   clear c32
                   by_cases c33 : x13_4 < (x10_3.length : Int)
                   ·
                    rw [if_pos c33] at H
                    have c33b0 : decide (x13_4 < (x10_3.length : Int)) = true := decide_eq_true c33
                    clear c33
                    by_cases c34 : x16_5 = (rd x10_3 x13_4)
                    ·
                     rw [if_pos c34] at H
                     have c34b0 : (x16_5 == (rd x10_3 x13_4)) = true := beq_iff_eq.mpr c34
                     have c34b1 : (x16_5 != (rd x10_3 x13_4)) = false := bne_eq_false_iff_eq.mpr c34
                     clear c34
                     by_cases c35 : x14_5.length < 17592186044416
                     ·
                      rw [if_pos c35] at H
                      have LMc35 := qA c35
                      clear c35
                      obtain ⟨y561, hy561⟩ : ∃ y_ : List Int, y_ = (x14_5 ++ [x16_5]) := ⟨_, rfl⟩
                      replace H : (if x15_5 = true then (if 0 ≤ (wrap64 (x13_4 + 1)) then (if (wrap64 (x13_4 + 1)) ≤ (x10_3.length : Int) then ((smithyref19_has.f k5 (x10_3.drop ((wrap64 (x13_4 + 1)) : Int).toNat) x16_5).bind fun t568 => (smithyref19_Parts.l5 k5 l0 x4_2 x10_3 x12_4 x13_4 y561 (!t568) (wrap64 (x16_5 + 1)))) else (none)) else (none)) else (smithyref19_Parts.l5 k5 l0 x4_2 x10_3 x12_4 x13_4 y561 false (wrap64 (x16_5 + 1)))) = some (r1, r2) := by first | (rw [hy561]; with_reducible exact H) | (have H2_ := (Option.bind_some _ _).symm.trans H; rw [hy561]; with_reducible exact H2_) | (have H2_ := (Option.bind_some _ _).symm.trans H; with_reducible exact H2_) | with_reducible exact H | (rw [hy561]; exact H) | exact H
                      have Ny561 := qA hy561
                      clear hy561
                      by_cases c36 : x15_5 = true
                      ·
                       subst c36
                       have H1 : (if 0 ≤ (wrap64 (x13_4 + 1)) then (if (wrap64 (x13_4 + 1)) ≤ (x10_3.length : Int) then ((smithyref19_has.f k5 (x10_3.drop ((wrap64 (x13_4 + 1)) : Int).toNat) x16_5).bind fun t568 => (smithyref19_Parts.l5 k5 l0 x4_2 x10_3 x12_4 x13_4 y561 (!t568) (wrap64 (x16_5 + 1)))) else (none)) else (none)) = some (r1, r2) := by rw [if_pos rfl] at H; exact H
                       clear H
                       have H := H1
                       clear H1
                       obtain ⟨ji37, hji37⟩ : ∃ j_ : Int, (wrap64 (x13_4 + 1)) = j_ := ⟨_, rfl⟩
                       replace H : (if 0 ≤ (ji37) then (if (ji37) ≤ (x10_3.length : Int) then ((smithyref19_has.f k5 (x10_3.drop ((ji37) : Int).toNat) x16_5).bind fun t568 => (smithyref19_Parts.l5 k5 l0 x4_2 x10_3 x12_4 x13_4 y561 (!t568) (wrap64 (x16_5 + 1)))) else (none)) else (none)) = some (r1, r2) := by first | (rw [hji37] at H; exact H) | (simp only [hji37] at H ⊢; exact H)
                       have hji37w : (IntKind.i64.wrap (x13_4 + 1)) = ji37 := (i64_w _).trans hji37
                       by_cases c38 : 0 ≤ (ji37)
                       ·
                        rw [if_pos c38] at H
                        have c38b0 := eq_true c38
                        have c38b1 : decide (0 ≤ (ji37)) = true := decide_eq_true c38
                        clear c38
                        by_cases c39 : (ji37) ≤ (x10_3.length : Int)
                        ·
                         rw [if_pos c39] at H
                         have c39b0 := eq_true c39
                         have c39b1 : decide ((ji37) ≤ (x10_3.length : Int)) = true := decide_eq_true c39
                         clear c39
                         obtain ⟨y564, hy564⟩ : ∃ y_ : List Int, y_ = (x10_3.drop ((ji37) : Int).toNat) := ⟨_, rfl⟩
                         replace H : ((smithyref19_has.f k5 y564 x16_5).bind fun t568 => (smithyref19_Parts.l5 k5 l0 x4_2 x10_3 x12_4 x13_4 y561 (!t568) (wrap64 (x16_5 + 1)))) = some (r1, r2) := by first | (rw [hy564]; with_reducible exact H) | (have H2_ := (Option.bind_some _ _).symm.trans H; rw [hy564]; with_reducible exact H2_) | (have H2_ := (Option.bind_some _ _).symm.trans H; with_reducible exact H2_) | with_reducible exact H | (rw [hy564]; exact H) | exact H
                         have Ny564 := qA hy564
                         clear hy564
                         replace H := Option.bind_eq_some_iff.mp H
                         obtain ⟨t568, A400, H⟩ := H
                         replace H : (smithyref19_Parts.l5 k5 l0 x4_2 x10_3 x12_4 x13_4 y561 (!t568) (wrap64 (x16_5 + 1))) = some (r1, r2) := H
                         have A40 := qA A400
                         clear A400
                         have H' := qA H
                         clear H
                         have p560 : 0 ≤ (x13_4 : Int) := qO cq0
                         have q560 : x13_4 < (x10_3.length : Int) := qO cq0
                         obtain ⟨ad560, e560, hx560_0⟩ := Kd.at_int (Kd.R_reads' HO_10.out).2.2 x13_4 p560 q560
                         cases e560
                         replace p560 := eq_true p560
                         replace q560 := eq_true q560
                         iterate 3 (try go_wp2_with (first | ((with_reducible refine gate_builtin (b := .append) (xs := #[.tmp 126, .tmp 128]) rfl ?_); (try (refine gate_guard cq60 ?_; dsimp only)); at_builtin; refine Kd.R_append (Kd.int .i64) (w0 := w) w.heap.size rfl (.tmp 126) (.tmp 128) 44 3 (.int .i64 0) 8 rfl Tryz.underlying44 info3 rfl cq6 cq2 u14 x14_5 x16_5 [.int .i64 x16_5] (fun k_ => some k_ ≠ (.slice (some ad560) x10_3.length co30 : Value).ownBlock) (fun _ => False) rfl rfl ?aP (fun _ hk => hk.elim) ?aF ?aO ?aB ?aS ?aL ?_; (case aP => exact rfl); (case aB => exact cq1); (case aF => exact (fun k_ hk => Kd.fresh' (Kd.R_lt cq12) k_ hk)); (case aO => exact cq5); (case aS => exact (below_size cq1)); (case aL => have := LMc35.out; omega); intro v562 w41 ho hb hg hat; rw [← Ny561.out] at ho; have n0_ := qA (Kd.S_over' cq10 (Kd.R_typed cq5) cq6 hg); have n1_ := qA (Kd.R_after (ok := (fun _ => True)) cq9 hg hat); have n2_ := qA (Kd.S_after (ok := (fun k_ => some k_ ≠ (.slice (some ad560) x10_3.length co30 : Value).ownBlock)) cq13 hg hat); have n3_ := qA (hb); have n4_ := qA (ho); clear HO_4; clear HO_10; clear HO_12; clear HB; clear HO_14; have HO_4 := n0_; have HO_10 := n1_; have HO_12 := n2_; have HB := n3_; have HO563 := n4_; clear n0_ n1_ n2_ n3_ n4_; clear ho hb hg hat; have q42 : ((ji37) : Int) ≤ ((x10_3.length : Int) : Int) := qO cq0; obtain ⟨i042, hi042, _, hsz42, _⟩ := info_parts info3; have hroom42 : x10_3.length ≤ co30 := (Kd.R_reads' HO_10.out).2.1; have hC42 : Kd.C (Kd.int .i64) _ (some ad560) x10_3.length x10_3 := (Kd.R_reads' HO_10.out).2.2; have q042 : (0 : Int) ≤ ((ji37) : Int) := qO cq0; have hcut42 := cut_from (P := Tryz.prog) 44 3 .i64 Tryz.underlying44 hi042 1 hsz42 (some ad560) x10_3.length co30 (ji37) q042 q42; have hr42 := Kd.C_drop (m := ((ji37) : Int).toNat) (c := co30) hC42 cq2 hroom42; obtain ⟨A42, hA42⟩ : ∃ A1, A1 = (if co30 = ((ji37) : Int).toNat then (some ad560) else ((some ad560) : Option Addr).map (·.add (((ji37) : Int).toNat * 1))) := ⟨_, rfl⟩; obtain ⟨c42, hc42⟩ : ∃ c1, c1 = co30 - ((ji37) : Int).toNat := ⟨_, rfl⟩; have hy42 : y564.length = x10_3.length - ((ji37) : Int).toNat := (by rw [Ny564.out, List.length_drop] <;> omega); rw [show (x10_3).drop ((ji37) : Int).toNat = y564 from Ny564.out.symm] at hr42; replace hr42 : Kd.C (Kd.int .i64) _ A42 y564.length y564 := (by rw [hA42]; exact hr42); rw [← hy42, ← hA42, ← hc42] at hcut42; have HR567 := qA hr42; have HC567 := qA (show y564.length ≤ c42 from by rw [hy42, hc42]; exact Nat.sub_le_sub_right hroom42 _); clear hr42 hC42 hroom42 hi042 hsz42 hc42; have KY42 := qA hy42; have KA42 := qA hA42; clear hy42 hA42; have KL42 := qA (show ((ji37) : Int).toNat ≤ x10_3.length from by omega); replace q42 := eq_true q42) | (go_at_call 37; (with_reducible refine (smithyref19_has.calls k5 _ _ y564 x16_5 t568 _ ?side1 ?side2 A40.out).mono ?_); (case side1 => repeat (first | exact cq29 | (with_reducible refine Kd.C_alloc ?_ _) | (with_reducible refine Kd.C_drewN ?_ _) | (with_reducible refine Kd.C_drew ?_))); (case side2 => exact HC567.out); rintro e w' ⟨rfl, ⟨nd, rfl⟩⟩; (try first | exact ⟨rfl, _, World.drewN_drewN _ _ _⟩ | exact ⟨rfl, _, Eq.trans (World.drewN_drewN _ _ _) (congrArg (World.drewN _) (Nat.add_assoc _ _ _))⟩))); try go_quiet (first | ((with_reducible refine gate_builtin (b := .append) (xs := #[.tmp 126, .tmp 128]) rfl ?_); (try (refine gate_guard cq60 ?_; dsimp only)); at_builtin; refine Kd.R_append (Kd.int .i64) (w0 := w) w.heap.size rfl (.tmp 126) (.tmp 128) 44 3 (.int .i64 0) 8 rfl Tryz.underlying44 info3 rfl cq6 cq2 u14 x14_5 x16_5 [.int .i64 x16_5] (fun k_ => some k_ ≠ (.slice (some ad560) x10_3.length co30 : Value).ownBlock) (fun _ => False) rfl rfl ?aP (fun _ hk => hk.elim) ?aF ?aO ?aB ?aS ?aL ?_; (case aP => exact rfl); (case aB => exact cq1); (case aF => exact (fun k_ hk => Kd.fresh' (Kd.R_lt cq12) k_ hk)); (case aO => exact cq5); (case aS => exact (below_size cq1)); (case aL => have := LMc35.out; omega); intro v562 w41 ho hb hg hat; rw [← Ny561.out] at ho; have n0_ := qA (Kd.S_over' cq10 (Kd.R_typed cq5) cq6 hg); have n1_ := qA (Kd.R_after (ok := (fun _ => True)) cq9 hg hat); have n2_ := qA (Kd.S_after (ok := (fun k_ => some k_ ≠ (.slice (some ad560) x10_3.length co30 : Value).ownBlock)) cq13 hg hat); have n3_ := qA (hb); have n4_ := qA (ho); clear HO_4; clear HO_10; clear HO_12; clear HB; clear HO_14; have HO_4 := n0_; have HO_10 := n1_; have HO_12 := n2_; have HB := n3_; have HO563 := n4_; clear n0_ n1_ n2_ n3_ n4_; clear ho hb hg hat; have q42 : ((ji37) : Int) ≤ ((x10_3.length : Int) : Int) := qO cq0; obtain ⟨i042, hi042, _, hsz42, _⟩ := info_parts info3; have hroom42 : x10_3.length ≤ co30 := (Kd.R_reads' HO_10.out).2.1; have hC42 : Kd.C (Kd.int .i64) _ (some ad560) x10_3.length x10_3 := (Kd.R_reads' HO_10.out).2.2; have q042 : (0 : Int) ≤ ((ji37) : Int) := qO cq0; have hcut42 := cut_from (P := Tryz.prog) 44 3 .i64 Tryz.underlying44 hi042 1 hsz42 (some ad560) x10_3.length co30 (ji37) q042 q42; have hr42 := Kd.C_drop (m := ((ji37) : Int).toNat) (c := co30) hC42 cq2 hroom42; obtain ⟨A42, hA42⟩ : ∃ A1, A1 = (if co30 = ((ji37) : Int).toNat then (some ad560) else ((some ad560) : Option Addr).map (·.add (((ji37) : Int).toNat * 1))) := ⟨_, rfl⟩; obtain ⟨c42, hc42⟩ : ∃ c1, c1 = co30 - ((ji37) : Int).toNat := ⟨_, rfl⟩; have hy42 : y564.length = x10_3.length - ((ji37) : Int).toNat := (by rw [Ny564.out, List.length_drop] <;> omega); rw [show (x10_3).drop ((ji37) : Int).toNat = y564 from Ny564.out.symm] at hr42; replace hr42 : Kd.C (Kd.int .i64) _ A42 y564.length y564 := (by rw [hA42]; exact hr42); rw [← hy42, ← hA42, ← hc42] at hcut42; have HR567 := qA hr42; have HC567 := qA (show y564.length ≤ c42 from by rw [hy42, hc42]; exact Nat.sub_le_sub_right hroom42 _); clear hr42 hC42 hroom42 hi042 hsz42 hc42; have KY42 := qA hy42; have KA42 := qA hA42; clear hy42 hA42; have KL42 := qA (show ((ji37) : Int).toNat ≤ x10_3.length from by omega); replace q42 := eq_true q42) | (go_at_call 37; (with_reducible refine (smithyref19_has.calls k5 _ _ y564 x16_5 t568 _ ?side1 ?side2 A40.out).mono ?_); (case side1 => repeat (first | exact cq29 | (with_reducible refine Kd.C_alloc ?_ _) | (with_reducible refine Kd.C_drewN ?_ _) | (with_reducible refine Kd.C_drew ?_))); (case side2 => exact HC567.out); rintro e w' ⟨rfl, ⟨nd, rfl⟩⟩; (try first | exact ⟨rfl, _, World.drewN_drewN _ _ _⟩ | exact ⟨rfl, _, Eq.trans (World.drewN_drewN _ _ _) (congrArg (World.drewN _) (Nat.add_assoc _ _ _))⟩))))
                         go_roundg k5
                         case measure => have := HK1.out; have := HK2.out; have := HK3.out; have := HK4.out; have := HK5.out; omega
                         case rel => exact ⟨(y561), (!t568), (wrap64 (x16_5 + 1)), cq4, cq4, H', ⟨by have := HK1.out; have := HK2.out; have := HK3.out; have := HK4.out; have := HK5.out; omega⟩, ⟨by (with_reducible repeat (first | apply Kd.S_alloc | apply Kd.S_drewN | apply Kd.S_drew)); exact HO_4.out⟩, ⟨by (with_reducible repeat (first | apply Kd.R_alloc | apply Kd.R_drewN | apply Kd.R_drew)); exact Kd.R_mono HO_10.out (fun _ hk => hk.2)⟩, ⟨by (with_reducible repeat (first | apply Kd.S_alloc | apply Kd.S_drewN | apply Kd.S_drew)); exact HO_12.out⟩, ⟨by (with_reducible repeat (first | apply Kd.R_alloc | apply Kd.R_drewN | apply Kd.R_drew)); exact HO563.out⟩, ⟨by repeat (first | (with_reducible first | exact HB.out | apply below_alloc | apply pw_below_drewN | apply below_drew1) | exact HB.out)⟩⟩
                        ·
                         rw [if_neg c39] at H
                         exact absurd H cq23
                       ·
                        rw [if_neg c38] at H
                        exact absurd H cq23
                      ·
                       replace c36 := Bool.eq_false_iff.mpr c36
                       subst c36
                       have H1 : (smithyref19_Parts.l5 k5 l0 x4_2 x10_3 x12_4 x13_4 y561 false (wrap64 (x16_5 + 1))) = some (r1, r2) := by rw [if_neg (show ¬ (false = true) by decide)] at H; exact H
                       clear H
                       have H := H1
                       clear H1
                       have H' := qA H
                       clear H
                       have p560 : 0 ≤ (x13_4 : Int) := qO cq0
                       have q560 : x13_4 < (x10_3.length : Int) := qO cq0
                       obtain ⟨ad560, e560, hx560_0⟩ := Kd.at_int (Kd.R_reads' HO_10.out).2.2 x13_4 p560 q560
                       cases e560
                       replace p560 := eq_true p560
                       replace q560 := eq_true q560
                       iterate 3 (try go_wp2_with (first | ((with_reducible refine gate_builtin (b := .append) (xs := #[.tmp 126, .tmp 128]) rfl ?_); (try (refine gate_guard cq60 ?_; dsimp only)); at_builtin; refine Kd.R_append (Kd.int .i64) (w0 := w) w.heap.size rfl (.tmp 126) (.tmp 128) 44 3 (.int .i64 0) 8 rfl Tryz.underlying44 info3 rfl cq6 cq2 u14 x14_5 x16_5 [.int .i64 x16_5] (fun k_ => some k_ ≠ (.slice (some ad560) x10_3.length co30 : Value).ownBlock) (fun _ => False) rfl rfl ?aP (fun _ hk => hk.elim) ?aF ?aO ?aB ?aS ?aL ?_; (case aP => exact rfl); (case aB => exact cq1); (case aF => exact (fun k_ hk => Kd.fresh' (Kd.R_lt cq12) k_ hk)); (case aO => exact cq5); (case aS => exact (below_size cq1)); (case aL => have := LMc35.out; omega); intro v562 w43 ho hb hg hat; rw [← Ny561.out] at ho; have n0_ := qA (Kd.S_over' cq10 (Kd.R_typed cq5) cq6 hg); have n1_ := qA (Kd.R_after (ok := (fun _ => True)) cq9 hg hat); have n2_ := qA (Kd.S_after (ok := (fun k_ => some k_ ≠ (.slice (some ad560) x10_3.length co30 : Value).ownBlock)) cq13 hg hat); have n3_ := qA (hb); have n4_ := qA (ho); clear HO_4; clear HO_10; clear HO_12; clear HB; clear HO_14; have HO_4 := n0_; have HO_10 := n1_; have HO_12 := n2_; have HB := n3_; have HO563 := n4_; clear n0_ n1_ n2_ n3_ n4_; clear ho hb hg hat)); try go_quiet (first | ((with_reducible refine gate_builtin (b := .append) (xs := #[.tmp 126, .tmp 128]) rfl ?_); (try (refine gate_guard cq60 ?_; dsimp only)); at_builtin; refine Kd.R_append (Kd.int .i64) (w0 := w) w.heap.size rfl (.tmp 126) (.tmp 128) 44 3 (.int .i64 0) 8 rfl Tryz.underlying44 info3 rfl cq6 cq2 u14 x14_5 x16_5 [.int .i64 x16_5] (fun k_ => some k_ ≠ (.slice (some ad560) x10_3.length co30 : Value).ownBlock) (fun _ => False) rfl rfl ?aP (fun _ hk => hk.elim) ?aF ?aO ?aB ?aS ?aL ?_; (case aP => exact rfl); (case aB => exact cq1); (case aF => exact (fun k_ hk => Kd.fresh' (Kd.R_lt cq12) k_ hk)); (case aO => exact cq5); (case aS => exact (below_size cq1)); (case aL => have := LMc35.out; omega); intro v562 w43 ho hb hg hat; rw [← Ny561.out] at ho; have n0_ := qA (Kd.S_over' cq10 (Kd.R_typed cq5) cq6 hg); have n1_ := qA (Kd.R_after (ok := (fun _ => True)) cq9 hg hat); have n2_ := qA (Kd.S_after (ok := (fun k_ => some k_ ≠ (.slice (some ad560) x10_3.length co30 : Value).ownBlock)) cq13 hg hat); have n3_ := qA (hb); have n4_ := qA (ho); clear HO_4; clear HO_10; clear HO_12; clear HB; clear HO_14; have HO_4 := n0_; have HO_10 := n1_; have HO_12 := n2_; have HB := n3_; have HO563 := n4_; clear n0_ n1_ n2_ n3_ n4_; clear ho hb hg hat)))
                       go_roundg k5
                       case measure => have := HK1.out; have := HK2.out; have := HK3.out; have := HK4.out; have := HK5.out; omega
                       case rel => exact ⟨(y561), (false), (wrap64 (x16_5 + 1)), cq4, cq4, H', ⟨by have := HK1.out; have := HK2.out; have := HK3.out; have := HK4.out; have := HK5.out; omega⟩, ⟨by (with_reducible repeat (first | apply Kd.S_alloc | apply Kd.S_drewN | apply Kd.S_drew)); exact HO_4.out⟩, ⟨by (with_reducible repeat (first | apply Kd.R_alloc | apply Kd.R_drewN | apply Kd.R_drew)); exact Kd.R_mono HO_10.out (fun _ hk => hk.2)⟩, ⟨by (with_reducible repeat (first | apply Kd.S_alloc | apply Kd.S_drewN | apply Kd.S_drew)); exact HO_12.out⟩, ⟨by (with_reducible repeat (first | apply Kd.R_alloc | apply Kd.R_drewN | apply Kd.R_drew)); exact HO563.out⟩, ⟨by repeat (first | (with_reducible first | exact HB.out | apply below_alloc | apply pw_below_drewN | apply below_drew1) | exact HB.out)⟩⟩
                     ·
                      rw [if_neg c35] at H
                      exact absurd H cq23
                    ·
                     rw [if_neg c34] at H
                     have c34b0 : (x16_5 == (rd x10_3 x13_4)) = false := beq_eq_false_iff_ne.mpr c34
                     have c34b1 : (x16_5 != (rd x10_3 x13_4)) = true := bne_iff_ne.mpr c34
                     by_cases c44 : 0 ≤ x16_5
                     ·
                      rw [if_pos c44] at H
                      have c44b0 : decide (0 ≤ x16_5) = true := decide_eq_true c44
                      clear c44
                      by_cases c45 : x16_5 < (x4_2.length : Int)
                      ·
                       rw [if_pos c45] at H
                       have c45b0 : decide (x16_5 < (x4_2.length : Int)) = true := decide_eq_true c45
                       clear c45
                       by_cases c46 : 0 ≤ (rd x10_3 x13_4)
                       ·
                        rw [if_pos c46] at H
                        have c46b0 : decide (0 ≤ (rd x10_3 x13_4)) = true := decide_eq_true c46
                        clear c46
                        by_cases c47 : (rd x10_3 x13_4) < ((rd_L16 x4_2 x16_5).length : Int)
                        ·
                         rw [if_pos c47] at H
                         have c47b0 : decide ((rd x10_3 x13_4) < ((rd_L16 x4_2 x16_5).length : Int)) = true := decide_eq_true c47
                         clear c47
                         obtain ⟨bq48, hbq48⟩ : ∃ b_ : Bool, b_ = (rdOf false (rd_L16 x4_2 x16_5) (rd x10_3 x13_4)) := ⟨_, rfl⟩
                         replace H : (if bq48 = true then (if (rd x10_3 x13_4) < (x4_2.length : Int) then (if x16_5 < ((rd_L16 x4_2 (rd x10_3 x13_4)).length : Int) then (if rdOf false (rd_L16 x4_2 (rd x10_3 x13_4)) x16_5 = true then (if x14_5.length < 17592186044416 then ((some (x14_5 ++ [x16_5] : List Int)).bind fun y575 => (if x15_5 = true then (if 0 ≤ (wrap64 (x13_4 + 1)) then (if (wrap64 (x13_4 + 1)) ≤ (x10_3.length : Int) then ((smithyref19_has.f k5 (x10_3.drop ((wrap64 (x13_4 + 1)) : Int).toNat) x16_5).bind fun t582 => (smithyref19_Parts.l5 k5 l0 x4_2 x10_3 x12_4 x13_4 y575 (!t582) (wrap64 (x16_5 + 1)))) else (none)) else (none)) else (smithyref19_Parts.l5 k5 l0 x4_2 x10_3 x12_4 x13_4 y575 false (wrap64 (x16_5 + 1))))) else (none)) else (smithyref19_Parts.l5 k5 l0 x4_2 x10_3 x12_4 x13_4 x14_5 x15_5 (wrap64 (x16_5 + 1)))) else (none)) else (none)) else (smithyref19_Parts.l5 k5 l0 x4_2 x10_3 x12_4 x13_4 x14_5 x15_5 (wrap64 (x16_5 + 1)))) = some (r1, r2) := by rw [← hbq48] at H; exact H
                         have Nbq48 := qA hbq48
                         clear hbq48
                         by_cases c49 : bq48 = true
                         ·
                          subst c49
                          have H1 : (if (rd x10_3 x13_4) < (x4_2.length : Int) then (if x16_5 < ((rd_L16 x4_2 (rd x10_3 x13_4)).length : Int) then (if rdOf false (rd_L16 x4_2 (rd x10_3 x13_4)) x16_5 = true then (if x14_5.length < 17592186044416 then ((some (x14_5 ++ [x16_5] : List Int)).bind fun y575 => (if x15_5 = true then (if 0 ≤ (wrap64 (x13_4 + 1)) then (if (wrap64 (x13_4 + 1)) ≤ (x10_3.length : Int) then ((smithyref19_has.f k5 (x10_3.drop ((wrap64 (x13_4 + 1)) : Int).toNat) x16_5).bind fun t582 => (smithyref19_Parts.l5 k5 l0 x4_2 x10_3 x12_4 x13_4 y575 (!t582) (wrap64 (x16_5 + 1)))) else (none)) else (none)) else (smithyref19_Parts.l5 k5 l0 x4_2 x10_3 x12_4 x13_4 y575 false (wrap64 (x16_5 + 1))))) else (none)) else (smithyref19_Parts.l5 k5 l0 x4_2 x10_3 x12_4 x13_4 x14_5 x15_5 (wrap64 (x16_5 + 1)))) else (none)) else (none)) = some (r1, r2) := by rw [if_pos rfl] at H; exact H
                          clear H
                          have H := H1
                          clear H1
                          by_cases c50 : (rd x10_3 x13_4) < (x4_2.length : Int)
                          ·
                           rw [if_pos c50] at H
                           have c50b0 : decide ((rd x10_3 x13_4) < (x4_2.length : Int)) = true := decide_eq_true c50
                           clear c50
                           by_cases c51 : x16_5 < ((rd_L16 x4_2 (rd x10_3 x13_4)).length : Int)
                           ·
                            rw [if_pos c51] at H
                            have c51b0 : decide (x16_5 < ((rd_L16 x4_2 (rd x10_3 x13_4)).length : Int)) = true := decide_eq_true c51
                            clear c51
                            obtain ⟨bq52, hbq52⟩ : ∃ b_ : Bool, b_ = (rdOf false (rd_L16 x4_2 (rd x10_3 x13_4)) x16_5) := ⟨_, rfl⟩
                            replace H : (if bq52 = true then (if x14_5.length < 17592186044416 then ((some (x14_5 ++ [x16_5] : List Int)).bind fun y575 => (if x15_5 = true then (if 0 ≤ (wrap64 (x13_4 + 1)) then (if (wrap64 (x13_4 + 1)) ≤ (x10_3.length : Int) then ((smithyref19_has.f k5 (x10_3.drop ((wrap64 (x13_4 + 1)) : Int).toNat) x16_5).bind fun t582 => (smithyref19_Parts.l5 k5 l0 x4_2 x10_3 x12_4 x13_4 y575 (!t582) (wrap64 (x16_5 + 1)))) else (none)) else (none)) else (smithyref19_Parts.l5 k5 l0 x4_2 x10_3 x12_4 x13_4 y575 false (wrap64 (x16_5 + 1))))) else (none)) else (smithyref19_Parts.l5 k5 l0 x4_2 x10_3 x12_4 x13_4 x14_5 x15_5 (wrap64 (x16_5 + 1)))) = some (r1, r2) := by rw [← hbq52] at H; exact H
                            have Nbq52 := qA hbq52
                            clear hbq52
                            by_cases c53 : bq52 = true
                            ·
                             subst c53
                             have H1 : (if x14_5.length < 17592186044416 then ((some (x14_5 ++ [x16_5] : List Int)).bind fun y575 => (if x15_5 = true then (if 0 ≤ (wrap64 (x13_4 + 1)) then (if (wrap64 (x13_4 + 1)) ≤ (x10_3.length : Int) then ((smithyref19_has.f k5 (x10_3.drop ((wrap64 (x13_4 + 1)) : Int).toNat) x16_5).bind fun t582 => (smithyref19_Parts.l5 k5 l0 x4_2 x10_3 x12_4 x13_4 y575 (!t582) (wrap64 (x16_5 + 1)))) else (none)) else (none)) else (smithyref19_Parts.l5 k5 l0 x4_2 x10_3 x12_4 x13_4 y575 false (wrap64 (x16_5 + 1))))) else (none)) = some (r1, r2) := by rw [if_pos rfl] at H; exact H
                             clear H
                             have H := H1
                             clear H1
                             by_cases c54 : x14_5.length < 17592186044416
                             ·
                              rw [if_pos c54] at H
                              have LMc54 := qA c54
                              clear c54
                              obtain ⟨y575, hy575⟩ : ∃ y_ : List Int, y_ = (x14_5 ++ [x16_5]) := ⟨_, rfl⟩
                              replace H : (if x15_5 = true then (if 0 ≤ (wrap64 (x13_4 + 1)) then (if (wrap64 (x13_4 + 1)) ≤ (x10_3.length : Int) then ((smithyref19_has.f k5 (x10_3.drop ((wrap64 (x13_4 + 1)) : Int).toNat) x16_5).bind fun t582 => (smithyref19_Parts.l5 k5 l0 x4_2 x10_3 x12_4 x13_4 y575 (!t582) (wrap64 (x16_5 + 1)))) else (none)) else (none)) else (smithyref19_Parts.l5 k5 l0 x4_2 x10_3 x12_4 x13_4 y575 false (wrap64 (x16_5 + 1)))) = some (r1, r2) := by first | (rw [hy575]; with_reducible exact H) | (have H2_ := (Option.bind_some _ _).symm.trans H; rw [hy575]; with_reducible exact H2_) | (have H2_ := (Option.bind_some _ _).symm.trans H; with_reducible exact H2_) | with_reducible exact H | (rw [hy575]; exact H) | exact H
                              have Ny575 := qA hy575
                              clear hy575
                              by_cases c55 : x15_5 = true
                              ·
                               subst c55
                               have H1 : (if 0 ≤ (wrap64 (x13_4 + 1)) then (if (wrap64 (x13_4 + 1)) ≤ (x10_3.length : Int) then ((smithyref19_has.f k5 (x10_3.drop ((wrap64 (x13_4 + 1)) : Int).toNat) x16_5).bind fun t582 => (smithyref19_Parts.l5 k5 l0 x4_2 x10_3 x12_4 x13_4 y575 (!t582) (wrap64 (x16_5 + 1)))) else (none)) else (none)) = some (r1, r2) := by rw [if_pos rfl] at H; exact H
                               clear H
                               have H := H1
                               clear H1
                               obtain ⟨ji56, hji56⟩ : ∃ j_ : Int, (wrap64 (x13_4 + 1)) = j_ := ⟨_, rfl⟩
                               replace H : (if 0 ≤ (ji56) then (if (ji56) ≤ (x10_3.length : Int) then ((smithyref19_has.f k5 (x10_3.drop ((ji56) : Int).toNat) x16_5).bind fun t582 => (smithyref19_Parts.l5 k5 l0 x4_2 x10_3 x12_4 x13_4 y575 (!t582) (wrap64 (x16_5 + 1)))) else (none)) else (none)) = some (r1, r2) := by first | (rw [hji56] at H; exact H) | (simp only [hji56] at H ⊢; exact H)
                               have hji56w : (IntKind.i64.wrap (x13_4 + 1)) = ji56 := (i64_w _).trans hji56
                               by_cases c57 : 0 ≤ (ji56)
                               ·
                                rw [if_pos c57] at H
                                have c57b0 := eq_true c57
                                have c57b1 : decide (0 ≤ (ji56)) = true := decide_eq_true c57
                                clear c57
                                by_cases c58 : (ji56) ≤ (x10_3.length : Int)
                                ·
                                 rw [if_pos c58] at H
                                 have c58b0 := eq_true c58
                                 have c58b1 : decide ((ji56) ≤ (x10_3.length : Int)) = true := decide_eq_true c58
                                 clear c58
                                 obtain ⟨y578, hy578⟩ : ∃ y_ : List Int, y_ = (x10_3.drop ((ji56) : Int).toNat) := ⟨_, rfl⟩
                                 replace H : ((smithyref19_has.f k5 y578 x16_5).bind fun t582 => (smithyref19_Parts.l5 k5 l0 x4_2 x10_3 x12_4 x13_4 y575 (!t582) (wrap64 (x16_5 + 1)))) = some (r1, r2) := by first | (rw [hy578]; with_reducible exact H) | (have H2_ := (Option.bind_some _ _).symm.trans H; rw [hy578]; with_reducible exact H2_) | (have H2_ := (Option.bind_some _ _).symm.trans H; with_reducible exact H2_) | with_reducible exact H | (rw [hy578]; exact H) | exact H
                                 have Ny578 := qA hy578
                                 clear hy578
                                 replace H := Option.bind_eq_some_iff.mp H
                                 obtain ⟨t582, A590, H⟩ := H
                                 replace H : (smithyref19_Parts.l5 k5 l0 x4_2 x10_3 x12_4 x13_4 y575 (!t582) (wrap64 (x16_5 + 1))) = some (r1, r2) := H
                                 have A59 := qA A590
                                 clear A590
                                 have H' := qA H
                                 clear H
                                 have p560 : 0 ≤ (x13_4 : Int) := qO cq0
                                 have q560 : x13_4 < (x10_3.length : Int) := qO cq0
                                 obtain ⟨ad560, e560, hx560_0⟩ := Kd.at_int (Kd.R_reads' HO_10.out).2.2 x13_4 p560 q560
                                 cases e560
                                 replace p560 := eq_true p560
                                 replace q560 := eq_true q560
                                 obtain ⟨Ao60, co60, eo60⟩ := Kd.S_slice HO_4.out
                                 subst eo60
                                 have p569 : 0 ≤ (x16_5 : Int) := qO cq0
                                 have q569 : x16_5 < (x4_2.length : Int) := qO cq0
                                 obtain ⟨ad569, A569_0, c569_0, e569, hx569_0, hl569_0, hi569_0⟩ := at_L16 (Kd.S_reads' HO_4.out).2.2 x16_5 p569 q569
                                 cases e569
                                 obtain ⟨ce569, hce569, hMe569, hcc569⟩ := Kd.S_get HO_4.out [] x16_5 p569 cq18
                                 obtain ⟨ve569_0, rfl, ge569_0⟩ := hMe569
                                 have hv569_0 := hcc569 0 _ rfl
                                 rw [Nat.add_zero, show ((Kd.slice 4 Kd.bool)).sz = 1 from rfl, Nat.mul_one] at hv569_0
                                 replace hv569_0 := Option.some.inj (hv569_0.symm.trans hx569_0)
                                 rw [hv569_0] at ge569_0
                                 have HL569_0 := qA (show Kd.R Kd.bool 4 _ _ _ _ (rd_L16 x4_2 x16_5) from ge569_0)
                                 clear hv569_0 ge569_0
                                 clear hcc569 hce569
                                 have HR569_0 := qA hi569_0
                                 have HC569_0 := qA hl569_0
                                 clear hi569_0 hl569_0
                                 replace p569 := eq_true p569
                                 replace q569 := eq_true q569
                                 have p570 : 0 ≤ (x13_4 : Int) := qO cq0
                                 have q570 : x13_4 < (x10_3.length : Int) := qO cq0
                                 obtain ⟨ad570, e570, hx570_0⟩ := Kd.at_int (Kd.R_reads' HO_10.out).2.2 x13_4 p570 q570
                                 obtain rfl : ad560 = ad570 := (by injection e570)
                                 replace p570 := eq_true p570
                                 replace q570 := eq_true q570
                                 have p571 : 0 ≤ ((rd x10_3 x13_4) : Int) := qO cq0
                                 have q571 : (rd x10_3 x13_4) < ((rd_L16 x4_2 x16_5).length : Int) := qO cq0
                                 obtain ⟨ad571, e571, hx571_0⟩ := Kd.at_bool cq15 (rd x10_3 x13_4) p571 q571
                                 (try rw [← Nbq48.out] at hx571_0)
                                 (try rw [← Nbq52.out] at hx571_0)
                                 cases e571
                                 replace p571 := eq_true p571
                                 replace q571 := eq_true q571
                                 have p572 : 0 ≤ (x13_4 : Int) := qO cq0
                                 have q572 : x13_4 < (x10_3.length : Int) := qO cq0
                                 obtain ⟨ad572, e572, hx572_0⟩ := Kd.at_int (Kd.R_reads' HO_10.out).2.2 x13_4 p572 q572
                                 obtain rfl : ad560 = ad572 := (by injection e572)
                                 replace p572 := eq_true p572
                                 replace q572 := eq_true q572
                                 have p573 : 0 ≤ ((rd x10_3 x13_4) : Int) := qO cq0
                                 have q573 : (rd x10_3 x13_4) < (x4_2.length : Int) := qO cq0
                                 obtain ⟨ad573, A573_0, c573_0, e573, hx573_0, hl573_0, hi573_0⟩ := at_L16 (Kd.S_reads' HO_4.out).2.2 (rd x10_3 x13_4) p573 q573
                                 obtain rfl : ad569 = ad573 := (by injection e573)
                                 obtain ⟨ce573, hce573, hMe573, hcc573⟩ := Kd.S_get HO_4.out [] (rd x10_3 x13_4) p573 cq27
                                 obtain ⟨ve573_0, rfl, ge573_0⟩ := hMe573
                                 have hv573_0 := hcc573 0 _ rfl
                                 rw [Nat.add_zero, show ((Kd.slice 4 Kd.bool)).sz = 1 from rfl, Nat.mul_one] at hv573_0
                                 replace hv573_0 := Option.some.inj (hv573_0.symm.trans hx573_0)
                                 rw [hv573_0] at ge573_0
                                 have HL573_0 := qA (show Kd.R Kd.bool 4 _ _ _ _ (rd_L16 x4_2 (rd x10_3 x13_4)) from ge573_0)
                                 clear hv573_0 ge573_0
                                 clear hcc573 hce573
                                 have HR573_0 := qA hi573_0
                                 have HC573_0 := qA hl573_0
                                 clear hi573_0 hl573_0
                                 replace p573 := eq_true p573
                                 replace q573 := eq_true q573
                                 have p574 : 0 ≤ (x16_5 : Int) := qO cq0
                                 have q574 : x16_5 < ((rd_L16 x4_2 (rd x10_3 x13_4)).length : Int) := qO cq0
                                 obtain ⟨ad574, e574, hx574_0⟩ := Kd.at_bool cq17 x16_5 p574 q574
                                 (try rw [← Nbq48.out] at hx574_0)
                                 (try rw [← Nbq52.out] at hx574_0)
                                 cases e574
                                 replace p574 := eq_true p574
                                 replace q574 := eq_true q574
                                 iterate 3 (try go_wp2_with (first | ((with_reducible refine gate_builtin (b := .append) (xs := #[.tmp 126, .tmp 128]) rfl ?_); (try (refine gate_guard cq60 ?_; dsimp only)); at_builtin; refine Kd.R_append (Kd.int .i64) (w0 := w) w.heap.size rfl (.tmp 126) (.tmp 128) 44 3 (.int .i64 0) 8 rfl Tryz.underlying44 info3 rfl cq6 cq2 u14 x14_5 x16_5 [.int .i64 x16_5] (fun k_ => some k_ ≠ (.slice (some ad560) x10_3.length co30 : Value).ownBlock) (fun _ => False) rfl rfl ?aP (fun _ hk => hk.elim) ?aF ?aO ?aB ?aS ?aL ?_; (case aP => exact rfl); (case aB => exact cq1); (case aF => exact (fun k_ hk => Kd.fresh' (Kd.R_lt cq12) k_ hk)); (case aO => exact cq5); (case aS => exact (below_size cq1)); (case aL => have := LMc54.out; omega); intro v576 w61 ho hb hg hat; rw [← Ny575.out] at ho; have n0_ := qA (Kd.S_over' cq10 (Kd.R_typed cq5) cq6 hg); have n1_ := qA (Kd.R_after (ok := (fun _ => True)) cq9 hg hat); have n2_ := qA (Kd.S_after (ok := (fun k_ => some k_ ≠ (.slice (some ad560) x10_3.length co30 : Value).ownBlock)) cq13 hg hat); have n3_ := qA (Kd.R_over' cq24 (Kd.R_typed cq5) cq6 hg); have n4_ := qA (Kd.R_over' cq25 (Kd.R_typed cq5) cq6 hg); have n5_ := qA (hb); have n6_ := qA (ho); clear HO_4; clear HO_10; clear HO_12; clear HL569_0; clear HL573_0; clear HB; clear HO_14; have HO_4 := n0_; have HO_10 := n1_; have HO_12 := n2_; have HL569_0 := n3_; have HL573_0 := n4_; have HB := n5_; have HO577 := n6_; clear n0_ n1_ n2_ n3_ n4_ n5_ n6_; clear ho hb hg hat; have q62 : ((ji56) : Int) ≤ ((x10_3.length : Int) : Int) := qO cq0; obtain ⟨i062, hi062, _, hsz62, _⟩ := info_parts info3; have hroom62 : x10_3.length ≤ co30 := (Kd.R_reads' HO_10.out).2.1; have hC62 : Kd.C (Kd.int .i64) _ (some ad560) x10_3.length x10_3 := (Kd.R_reads' HO_10.out).2.2; have q062 : (0 : Int) ≤ ((ji56) : Int) := qO cq0; have hcut62 := cut_from (P := Tryz.prog) 44 3 .i64 Tryz.underlying44 hi062 1 hsz62 (some ad560) x10_3.length co30 (ji56) q062 q62; have hr62 := Kd.C_drop (m := ((ji56) : Int).toNat) (c := co30) hC62 cq2 hroom62; obtain ⟨A62, hA62⟩ : ∃ A1, A1 = (if co30 = ((ji56) : Int).toNat then (some ad560) else ((some ad560) : Option Addr).map (·.add (((ji56) : Int).toNat * 1))) := ⟨_, rfl⟩; obtain ⟨c62, hc62⟩ : ∃ c1, c1 = co30 - ((ji56) : Int).toNat := ⟨_, rfl⟩; have hy62 : y578.length = x10_3.length - ((ji56) : Int).toNat := (by rw [Ny578.out, List.length_drop] <;> omega); rw [show (x10_3).drop ((ji56) : Int).toNat = y578 from Ny578.out.symm] at hr62; replace hr62 : Kd.C (Kd.int .i64) _ A62 y578.length y578 := (by rw [hA62]; exact hr62); rw [← hy62, ← hA62, ← hc62] at hcut62; have HR581 := qA hr62; have HC581 := qA (show y578.length ≤ c62 from by rw [hy62, hc62]; exact Nat.sub_le_sub_right hroom62 _); clear hr62 hC62 hroom62 hi062 hsz62 hc62; have KY62 := qA hy62; have KA62 := qA hA62; clear hy62 hA62; have KL62 := qA (show ((ji56) : Int).toNat ≤ x10_3.length from by omega); replace q62 := eq_true q62) | (go_at_call 37; (with_reducible refine (smithyref19_has.calls k5 _ _ y578 x16_5 t582 _ ?side1 ?side2 A59.out).mono ?_); (case side1 => repeat (first | exact cq30 | (with_reducible refine Kd.C_alloc ?_ _) | (with_reducible refine Kd.C_drewN ?_ _) | (with_reducible refine Kd.C_drew ?_))); (case side2 => exact HC581.out); rintro e w' ⟨rfl, ⟨nd, rfl⟩⟩; (try first | exact ⟨rfl, _, World.drewN_drewN _ _ _⟩ | exact ⟨rfl, _, Eq.trans (World.drewN_drewN _ _ _) (congrArg (World.drewN _) (Nat.add_assoc _ _ _))⟩))); try go_quiet (first | ((with_reducible refine gate_builtin (b := .append) (xs := #[.tmp 126, .tmp 128]) rfl ?_); (try (refine gate_guard cq60 ?_; dsimp only)); at_builtin; refine Kd.R_append (Kd.int .i64) (w0 := w) w.heap.size rfl (.tmp 126) (.tmp 128) 44 3 (.int .i64 0) 8 rfl Tryz.underlying44 info3 rfl cq6 cq2 u14 x14_5 x16_5 [.int .i64 x16_5] (fun k_ => some k_ ≠ (.slice (some ad560) x10_3.length co30 : Value).ownBlock) (fun _ => False) rfl rfl ?aP (fun _ hk => hk.elim) ?aF ?aO ?aB ?aS ?aL ?_; (case aP => exact rfl); (case aB => exact cq1); (case aF => exact (fun k_ hk => Kd.fresh' (Kd.R_lt cq12) k_ hk)); (case aO => exact cq5); (case aS => exact (below_size cq1)); (case aL => have := LMc54.out; omega); intro v576 w61 ho hb hg hat; rw [← Ny575.out] at ho; have n0_ := qA (Kd.S_over' cq10 (Kd.R_typed cq5) cq6 hg); have n1_ := qA (Kd.R_after (ok := (fun _ => True)) cq9 hg hat); have n2_ := qA (Kd.S_after (ok := (fun k_ => some k_ ≠ (.slice (some ad560) x10_3.length co30 : Value).ownBlock)) cq13 hg hat); have n3_ := qA (Kd.R_over' cq24 (Kd.R_typed cq5) cq6 hg); have n4_ := qA (Kd.R_over' cq25 (Kd.R_typed cq5) cq6 hg); have n5_ := qA (hb); have n6_ := qA (ho); clear HO_4; clear HO_10; clear HO_12; clear HL569_0; clear HL573_0; clear HB; clear HO_14; have HO_4 := n0_; have HO_10 := n1_; have HO_12 := n2_; have HL569_0 := n3_; have HL573_0 := n4_; have HB := n5_; have HO577 := n6_; clear n0_ n1_ n2_ n3_ n4_ n5_ n6_; clear ho hb hg hat; have q62 : ((ji56) : Int) ≤ ((x10_3.length : Int) : Int) := qO cq0; obtain ⟨i062, hi062, _, hsz62, _⟩ := info_parts info3; have hroom62 : x10_3.length ≤ co30 := (Kd.R_reads' HO_10.out).2.1; have hC62 : Kd.C (Kd.int .i64) _ (some ad560) x10_3.length x10_3 := (Kd.R_reads' HO_10.out).2.2; have q062 : (0 : Int) ≤ ((ji56) : Int) := qO cq0; have hcut62 := cut_from (P := Tryz.prog) 44 3 .i64 Tryz.underlying44 hi062 1 hsz62 (some ad560) x10_3.length co30 (ji56) q062 q62; have hr62 := Kd.C_drop (m := ((ji56) : Int).toNat) (c := co30) hC62 cq2 hroom62; obtain ⟨A62, hA62⟩ : ∃ A1, A1 = (if co30 = ((ji56) : Int).toNat then (some ad560) else ((some ad560) : Option Addr).map (·.add (((ji56) : Int).toNat * 1))) := ⟨_, rfl⟩; obtain ⟨c62, hc62⟩ : ∃ c1, c1 = co30 - ((ji56) : Int).toNat := ⟨_, rfl⟩; have hy62 : y578.length = x10_3.length - ((ji56) : Int).toNat := (by rw [Ny578.out, List.length_drop] <;> omega); rw [show (x10_3).drop ((ji56) : Int).toNat = y578 from Ny578.out.symm] at hr62; replace hr62 : Kd.C (Kd.int .i64) _ A62 y578.length y578 := (by rw [hA62]; exact hr62); rw [← hy62, ← hA62, ← hc62] at hcut62; have HR581 := qA hr62; have HC581 := qA (show y578.length ≤ c62 from by rw [hy62, hc62]; exact Nat.sub_le_sub_right hroom62 _); clear hr62 hC62 hroom62 hi062 hsz62 hc62; have KY62 := qA hy62; have KA62 := qA hA62; clear hy62 hA62; have KL62 := qA (show ((ji56) : Int).toNat ≤ x10_3.length from by omega); replace q62 := eq_true q62) | (go_at_call 37; (with_reducible refine (smithyref19_has.calls k5 _ _ y578 x16_5 t582 _ ?side1 ?side2 A59.out).mono ?_); (case side1 => repeat (first | exact cq30 | (with_reducible refine Kd.C_alloc ?_ _) | (with_reducible refine Kd.C_drewN ?_ _) | (with_reducible refine Kd.C_drew ?_))); (case side2 => exact HC581.out); rintro e w' ⟨rfl, ⟨nd, rfl⟩⟩; (try first | exact ⟨rfl, _, World.drewN_drewN _ _ _⟩ | exact ⟨rfl, _, Eq.trans (World.drewN_drewN _ _ _) (congrArg (World.drewN _) (Nat.add_assoc _ _ _))⟩))))
                                 go_roundg k5
                                 case measure => have := HK1.out; have := HK2.out; have := HK3.out; have := HK4.out; have := HK5.out; omega
                                 case rel => exact ⟨(y575), (!t582), (wrap64 (x16_5 + 1)), cq4, cq4, H', ⟨by have := HK1.out; have := HK2.out; have := HK3.out; have := HK4.out; have := HK5.out; omega⟩, ⟨by (with_reducible repeat (first | apply Kd.S_alloc | apply Kd.S_drewN | apply Kd.S_drew)); exact HO_4.out⟩, ⟨by (with_reducible repeat (first | apply Kd.R_alloc | apply Kd.R_drewN | apply Kd.R_drew)); exact Kd.R_mono HO_10.out (fun _ hk => hk.2)⟩, ⟨by (with_reducible repeat (first | apply Kd.S_alloc | apply Kd.S_drewN | apply Kd.S_drew)); exact HO_12.out⟩, ⟨by (with_reducible repeat (first | apply Kd.R_alloc | apply Kd.R_drewN | apply Kd.R_drew)); exact HO577.out⟩, ⟨by repeat (first | (with_reducible first | exact HB.out | apply below_alloc | apply pw_below_drewN | apply below_drew1) | exact HB.out)⟩⟩
                                ·
                                 rw [if_neg c58] at H
                                 exact absurd H cq23
                               ·
                                rw [if_neg c57] at H
                                exact absurd H cq23
                              ·
                               replace c55 := Bool.eq_false_iff.mpr c55
                               subst c55
                               have H1 : (smithyref19_Parts.l5 k5 l0 x4_2 x10_3 x12_4 x13_4 y575 false (wrap64 (x16_5 + 1))) = some (r1, r2) := by rw [if_neg (show ¬ (false = true) by decide)] at H; exact H
                               clear H
                               have H := H1
                               clear H1
                               have H' := qA H
                               clear H
                               have p560 : 0 ≤ (x13_4 : Int) := qO cq0
                               have q560 : x13_4 < (x10_3.length : Int) := qO cq0
                               obtain ⟨ad560, e560, hx560_0⟩ := Kd.at_int (Kd.R_reads' HO_10.out).2.2 x13_4 p560 q560
                               cases e560
                               replace p560 := eq_true p560
                               replace q560 := eq_true q560
                               obtain ⟨Ao63, co63, eo63⟩ := Kd.S_slice HO_4.out
                               subst eo63
                               have p569 : 0 ≤ (x16_5 : Int) := qO cq0
                               have q569 : x16_5 < (x4_2.length : Int) := qO cq0
                               obtain ⟨ad569, A569_0, c569_0, e569, hx569_0, hl569_0, hi569_0⟩ := at_L16 (Kd.S_reads' HO_4.out).2.2 x16_5 p569 q569
                               cases e569
                               obtain ⟨ce569, hce569, hMe569, hcc569⟩ := Kd.S_get HO_4.out [] x16_5 p569 cq18
                               obtain ⟨ve569_0, rfl, ge569_0⟩ := hMe569
                               have hv569_0 := hcc569 0 _ rfl
                               rw [Nat.add_zero, show ((Kd.slice 4 Kd.bool)).sz = 1 from rfl, Nat.mul_one] at hv569_0
                               replace hv569_0 := Option.some.inj (hv569_0.symm.trans hx569_0)
                               rw [hv569_0] at ge569_0
                               have HL569_0 := qA (show Kd.R Kd.bool 4 _ _ _ _ (rd_L16 x4_2 x16_5) from ge569_0)
                               clear hv569_0 ge569_0
                               clear hcc569 hce569
                               have HR569_0 := qA hi569_0
                               have HC569_0 := qA hl569_0
                               clear hi569_0 hl569_0
                               replace p569 := eq_true p569
                               replace q569 := eq_true q569
                               have p570 : 0 ≤ (x13_4 : Int) := qO cq0
                               have q570 : x13_4 < (x10_3.length : Int) := qO cq0
                               obtain ⟨ad570, e570, hx570_0⟩ := Kd.at_int (Kd.R_reads' HO_10.out).2.2 x13_4 p570 q570
                               obtain rfl : ad560 = ad570 := (by injection e570)
                               replace p570 := eq_true p570
                               replace q570 := eq_true q570
                               have p571 : 0 ≤ ((rd x10_3 x13_4) : Int) := qO cq0
                               have q571 : (rd x10_3 x13_4) < ((rd_L16 x4_2 x16_5).length : Int) := qO cq0
                               obtain ⟨ad571, e571, hx571_0⟩ := Kd.at_bool cq15 (rd x10_3 x13_4) p571 q571
                               (try rw [← Nbq48.out] at hx571_0)
                               (try rw [← Nbq52.out] at hx571_0)
                               cases e571
                               replace p571 := eq_true p571
                               replace q571 := eq_true q571
                               have p572 : 0 ≤ (x13_4 : Int) := qO cq0
                               have q572 : x13_4 < (x10_3.length : Int) := qO cq0
                               obtain ⟨ad572, e572, hx572_0⟩ := Kd.at_int (Kd.R_reads' HO_10.out).2.2 x13_4 p572 q572
                               obtain rfl : ad560 = ad572 := (by injection e572)
                               replace p572 := eq_true p572
                               replace q572 := eq_true q572
                               have p573 : 0 ≤ ((rd x10_3 x13_4) : Int) := qO cq0
                               have q573 : (rd x10_3 x13_4) < (x4_2.length : Int) := qO cq0
                               obtain ⟨ad573, A573_0, c573_0, e573, hx573_0, hl573_0, hi573_0⟩ := at_L16 (Kd.S_reads' HO_4.out).2.2 (rd x10_3 x13_4) p573 q573
                               obtain rfl : ad569 = ad573 := (by injection e573)
                               obtain ⟨ce573, hce573, hMe573, hcc573⟩ := Kd.S_get HO_4.out [] (rd x10_3 x13_4) p573 cq27
                               obtain ⟨ve573_0, rfl, ge573_0⟩ := hMe573
                               have hv573_0 := hcc573 0 _ rfl
                               rw [Nat.add_zero, show ((Kd.slice 4 Kd.bool)).sz = 1 from rfl, Nat.mul_one] at hv573_0
                               replace hv573_0 := Option.some.inj (hv573_0.symm.trans hx573_0)
                               rw [hv573_0] at ge573_0
                               have HL573_0 := qA (show Kd.R Kd.bool 4 _ _ _ _ (rd_L16 x4_2 (rd x10_3 x13_4)) from ge573_0)
                               clear hv573_0 ge573_0
                               clear hcc573 hce573
                               have HR573_0 := qA hi573_0
                               have HC573_0 := qA hl573_0
                               clear hi573_0 hl573_0
                               replace p573 := eq_true p573
                               replace q573 := eq_true q573
                               have p574 : 0 ≤ (x16_5 : Int) := qO cq0
                               have q574 : x16_5 < ((rd_L16 x4_2 (rd x10_3 x13_4)).length : Int) := qO cq0
                               obtain ⟨ad574, e574, hx574_0⟩ := Kd.at_bool cq17 x16_5 p574 q574
                               (try rw [← Nbq48.out] at hx574_0)
                               (try rw [← Nbq52.out] at hx574_0)
                               cases e574
                               replace p574 := eq_true p574
                               replace q574 := eq_true q574
                               iterate 3 (try go_wp2_with (first | ((with_reducible refine gate_builtin (b := .append) (xs := #[.tmp 126, .tmp 128]) rfl ?_); (try (refine gate_guard cq60 ?_; dsimp only)); at_builtin; refine Kd.R_append (Kd.int .i64) (w0 := w) w.heap.size rfl (.tmp 126) (.tmp 128) 44 3 (.int .i64 0) 8 rfl Tryz.underlying44 info3 rfl cq6 cq2 u14 x14_5 x16_5 [.int .i64 x16_5] (fun k_ => some k_ ≠ (.slice (some ad560) x10_3.length co30 : Value).ownBlock) (fun _ => False) rfl rfl ?aP (fun _ hk => hk.elim) ?aF ?aO ?aB ?aS ?aL ?_; (case aP => exact rfl); (case aB => exact cq1); (case aF => exact (fun k_ hk => Kd.fresh' (Kd.R_lt cq12) k_ hk)); (case aO => exact cq5); (case aS => exact (below_size cq1)); (case aL => have := LMc54.out; omega); intro v576 w64 ho hb hg hat; rw [← Ny575.out] at ho; have n0_ := qA (Kd.S_over' cq10 (Kd.R_typed cq5) cq6 hg); have n1_ := qA (Kd.R_after (ok := (fun _ => True)) cq9 hg hat); have n2_ := qA (Kd.S_after (ok := (fun k_ => some k_ ≠ (.slice (some ad560) x10_3.length co30 : Value).ownBlock)) cq13 hg hat); have n3_ := qA (Kd.R_over' cq24 (Kd.R_typed cq5) cq6 hg); have n4_ := qA (Kd.R_over' cq25 (Kd.R_typed cq5) cq6 hg); have n5_ := qA (hb); have n6_ := qA (ho); clear HO_4; clear HO_10; clear HO_12; clear HL569_0; clear HL573_0; clear HB; clear HO_14; have HO_4 := n0_; have HO_10 := n1_; have HO_12 := n2_; have HL569_0 := n3_; have HL573_0 := n4_; have HB := n5_; have HO577 := n6_; clear n0_ n1_ n2_ n3_ n4_ n5_ n6_; clear ho hb hg hat)); try go_quiet (first | ((with_reducible refine gate_builtin (b := .append) (xs := #[.tmp 126, .tmp 128]) rfl ?_); (try (refine gate_guard cq60 ?_; dsimp only)); at_builtin; refine Kd.R_append (Kd.int .i64) (w0 := w) w.heap.size rfl (.tmp 126) (.tmp 128) 44 3 (.int .i64 0) 8 rfl Tryz.underlying44 info3 rfl cq6 cq2 u14 x14_5 x16_5 [.int .i64 x16_5] (fun k_ => some k_ ≠ (.slice (some ad560) x10_3.length co30 : Value).ownBlock) (fun _ => False) rfl rfl ?aP (fun _ hk => hk.elim) ?aF ?aO ?aB ?aS ?aL ?_; (case aP => exact rfl); (case aB => exact cq1); (case aF => exact (fun k_ hk => Kd.fresh' (Kd.R_lt cq12) k_ hk)); (case aO => exact cq5); (case aS => exact (below_size cq1)); (case aL => have := LMc54.out; omega); intro v576 w64 ho hb hg hat; rw [← Ny575.out] at ho; have n0_ := qA (Kd.S_over' cq10 (Kd.R_typed cq5) cq6 hg); have n1_ := qA (Kd.R_after (ok := (fun _ => True)) cq9 hg hat); have n2_ := qA (Kd.S_after (ok := (fun k_ => some k_ ≠ (.slice (some ad560) x10_3.length co30 : Value).ownBlock)) cq13 hg hat); have n3_ := qA (Kd.R_over' cq24 (Kd.R_typed cq5) cq6 hg); have n4_ := qA (Kd.R_over' cq25 (Kd.R_typed cq5) cq6 hg); have n5_ := qA (hb); have n6_ := qA (ho); clear HO_4; clear HO_10; clear HO_12; clear HL569_0; clear HL573_0; clear HB; clear HO_14; have HO_4 := n0_; have HO_10 := n1_; have HO_12 := n2_; have HL569_0 := n3_; have HL573_0 := n4_; have HB := n5_; have HO577 := n6_; clear n0_ n1_ n2_ n3_ n4_ n5_ n6_; clear ho hb hg hat)))
                               go_roundg k5
                               case measure => have := HK1.out; have := HK2.out; have := HK3.out; have := HK4.out; have := HK5.out; omega
                               case rel => exact ⟨(y575), (false), (wrap64 (x16_5 + 1)), cq4, cq4, H', ⟨by have := HK1.out; have := HK2.out; have := HK3.out; have := HK4.out; have := HK5.out; omega⟩, ⟨by (with_reducible repeat (first | apply Kd.S_alloc | apply Kd.S_drewN | apply Kd.S_drew)); exact HO_4.out⟩, ⟨by (with_reducible repeat (first | apply Kd.R_alloc | apply Kd.R_drewN | apply Kd.R_drew)); exact Kd.R_mono HO_10.out (fun _ hk => hk.2)⟩, ⟨by (with_reducible repeat (first | apply Kd.S_alloc | apply Kd.S_drewN | apply Kd.S_drew)); exact HO_12.out⟩, ⟨by (with_reducible repeat (first | apply Kd.R_alloc | apply Kd.R_drewN | apply Kd.R_drew)); exact HO577.out⟩, ⟨by repeat (first | (with_reducible first | exact HB.out | apply below_alloc | apply pw_below_drewN | apply below_drew1) | exact HB.out)⟩⟩
                             ·
                              rw [if_neg c54] at H
                              exact absurd H cq23
                            ·
                             replace c53 := Bool.eq_false_iff.mpr c53
                             subst c53
                             have H1 : (smithyref19_Parts.l5 k5 l0 x4_2 x10_3 x12_4 x13_4 x14_5 x15_5 (wrap64 (x16_5 + 1))) = some (r1, r2) := by rw [if_neg (show ¬ (false = true) by decide)] at H; exact H
                             clear H
                             have H := H1
                             clear H1
                             have H' := qA H
                             clear H
                             have p560 : 0 ≤ (x13_4 : Int) := qO cq0
                             have q560 : x13_4 < (x10_3.length : Int) := qO cq0
                             obtain ⟨ad560, e560, hx560_0⟩ := Kd.at_int (Kd.R_reads' HO_10.out).2.2 x13_4 p560 q560
                             cases e560
                             replace p560 := eq_true p560
                             replace q560 := eq_true q560
                             obtain ⟨Ao65, co65, eo65⟩ := Kd.S_slice HO_4.out
                             subst eo65
                             have p569 : 0 ≤ (x16_5 : Int) := qO cq0
                             have q569 : x16_5 < (x4_2.length : Int) := qO cq0
                             obtain ⟨ad569, A569_0, c569_0, e569, hx569_0, hl569_0, hi569_0⟩ := at_L16 (Kd.S_reads' HO_4.out).2.2 x16_5 p569 q569
                             cases e569
                             obtain ⟨ce569, hce569, hMe569, hcc569⟩ := Kd.S_get HO_4.out [] x16_5 p569 cq18
                             obtain ⟨ve569_0, rfl, ge569_0⟩ := hMe569
                             have hv569_0 := hcc569 0 _ rfl
                             rw [Nat.add_zero, show ((Kd.slice 4 Kd.bool)).sz = 1 from rfl, Nat.mul_one] at hv569_0
                             replace hv569_0 := Option.some.inj (hv569_0.symm.trans hx569_0)
                             rw [hv569_0] at ge569_0
                             have HL569_0 := qA (show Kd.R Kd.bool 4 _ _ _ _ (rd_L16 x4_2 x16_5) from ge569_0)
                             clear hv569_0 ge569_0
                             clear hcc569 hce569
                             have HR569_0 := qA hi569_0
                             have HC569_0 := qA hl569_0
                             clear hi569_0 hl569_0
                             replace p569 := eq_true p569
                             replace q569 := eq_true q569
                             have p570 : 0 ≤ (x13_4 : Int) := qO cq0
                             have q570 : x13_4 < (x10_3.length : Int) := qO cq0
                             obtain ⟨ad570, e570, hx570_0⟩ := Kd.at_int (Kd.R_reads' HO_10.out).2.2 x13_4 p570 q570
                             obtain rfl : ad560 = ad570 := (by injection e570)
                             replace p570 := eq_true p570
                             replace q570 := eq_true q570
                             have p571 : 0 ≤ ((rd x10_3 x13_4) : Int) := qO cq0
                             have q571 : (rd x10_3 x13_4) < ((rd_L16 x4_2 x16_5).length : Int) := qO cq0
                             obtain ⟨ad571, e571, hx571_0⟩ := Kd.at_bool cq15 (rd x10_3 x13_4) p571 q571
                             (try rw [← Nbq48.out] at hx571_0)
                             (try rw [← Nbq52.out] at hx571_0)
                             cases e571
                             replace p571 := eq_true p571
                             replace q571 := eq_true q571
                             have p572 : 0 ≤ (x13_4 : Int) := qO cq0
                             have q572 : x13_4 < (x10_3.length : Int) := qO cq0
                             obtain ⟨ad572, e572, hx572_0⟩ := Kd.at_int (Kd.R_reads' HO_10.out).2.2 x13_4 p572 q572
                             obtain rfl : ad560 = ad572 := (by injection e572)
                             replace p572 := eq_true p572
                             replace q572 := eq_true q572
                             have p573 : 0 ≤ ((rd x10_3 x13_4) : Int) := qO cq0
                             have q573 : (rd x10_3 x13_4) < (x4_2.length : Int) := qO cq0
                             obtain ⟨ad573, A573_0, c573_0, e573, hx573_0, hl573_0, hi573_0⟩ := at_L16 (Kd.S_reads' HO_4.out).2.2 (rd x10_3 x13_4) p573 q573
                             obtain rfl : ad569 = ad573 := (by injection e573)
                             obtain ⟨ce573, hce573, hMe573, hcc573⟩ := Kd.S_get HO_4.out [] (rd x10_3 x13_4) p573 cq27
                             obtain ⟨ve573_0, rfl, ge573_0⟩ := hMe573
                             have hv573_0 := hcc573 0 _ rfl
                             rw [Nat.add_zero, show ((Kd.slice 4 Kd.bool)).sz = 1 from rfl, Nat.mul_one] at hv573_0
                             replace hv573_0 := Option.some.inj (hv573_0.symm.trans hx573_0)
                             rw [hv573_0] at ge573_0
                             have HL573_0 := qA (show Kd.R Kd.bool 4 _ _ _ _ (rd_L16 x4_2 (rd x10_3 x13_4)) from ge573_0)
                             clear hv573_0 ge573_0
                             clear hcc573 hce573
                             have HR573_0 := qA hi573_0
                             have HC573_0 := qA hl573_0
                             clear hi573_0 hl573_0
                             replace p573 := eq_true p573
                             replace q573 := eq_true q573
                             have p574 : 0 ≤ (x16_5 : Int) := qO cq0
                             have q574 : x16_5 < ((rd_L16 x4_2 (rd x10_3 x13_4)).length : Int) := qO cq0
                             obtain ⟨ad574, e574, hx574_0⟩ := Kd.at_bool cq17 x16_5 p574 q574
                             (try rw [← Nbq48.out] at hx574_0)
                             (try rw [← Nbq52.out] at hx574_0)
                             cases e574
                             replace p574 := eq_true p574
                             replace q574 := eq_true q574
                             go_wp2
                             repeat (go_quiet (fail); try go_wp2)
                             go_roundg k5
                             case measure => have := HK1.out; have := HK2.out; have := HK3.out; have := HK4.out; have := HK5.out; omega
                             case rel => exact ⟨(x14_5), (x15_5), (wrap64 (x16_5 + 1)), cq4, cq4, H', ⟨by have := HK1.out; have := HK2.out; have := HK3.out; have := HK4.out; have := HK5.out; omega⟩, ⟨by (with_reducible repeat (first | apply Kd.S_alloc | apply Kd.S_drewN | apply Kd.S_drew)); exact HO_4.out⟩, ⟨by (with_reducible repeat (first | apply Kd.R_alloc | apply Kd.R_drewN | apply Kd.R_drew)); exact HO_10.out⟩, ⟨by (with_reducible repeat (first | apply Kd.S_alloc | apply Kd.S_drewN | apply Kd.S_drew)); exact HO_12.out⟩, ⟨by (with_reducible repeat (first | apply Kd.R_alloc | apply Kd.R_drewN | apply Kd.R_drew)); exact HO_14.out⟩, ⟨by repeat (first | (with_reducible first | exact HB.out | apply below_alloc | apply pw_below_drewN | apply below_drew1) | exact HB.out)⟩⟩
                           ·
                            rw [if_neg c51] at H
                            exact absurd H cq23
                          ·
                           rw [if_neg c50] at H
                           exact absurd H cq23
                         ·
                          replace c49 := Bool.eq_false_iff.mpr c49
                          subst c49
                          have H1 : (smithyref19_Parts.l5 k5 l0 x4_2 x10_3 x12_4 x13_4 x14_5 x15_5 (wrap64 (x16_5 + 1))) = some (r1, r2) := by rw [if_neg (show ¬ (false = true) by decide)] at H; exact H
                          clear H
                          have H := H1
                          clear H1
                          have H' := qA H
                          clear H
                          have p560 : 0 ≤ (x13_4 : Int) := qO cq0
                          have q560 : x13_4 < (x10_3.length : Int) := qO cq0
                          obtain ⟨ad560, e560, hx560_0⟩ := Kd.at_int (Kd.R_reads' HO_10.out).2.2 x13_4 p560 q560
                          cases e560
                          replace p560 := eq_true p560
                          replace q560 := eq_true q560
                          obtain ⟨Ao66, co66, eo66⟩ := Kd.S_slice HO_4.out
                          subst eo66
                          have p569 : 0 ≤ (x16_5 : Int) := qO cq0
                          have q569 : x16_5 < (x4_2.length : Int) := qO cq0
                          obtain ⟨ad569, A569_0, c569_0, e569, hx569_0, hl569_0, hi569_0⟩ := at_L16 (Kd.S_reads' HO_4.out).2.2 x16_5 p569 q569
                          cases e569
                          obtain ⟨ce569, hce569, hMe569, hcc569⟩ := Kd.S_get HO_4.out [] x16_5 p569 cq18
                          obtain ⟨ve569_0, rfl, ge569_0⟩ := hMe569
                          have hv569_0 := hcc569 0 _ rfl
                          rw [Nat.add_zero, show ((Kd.slice 4 Kd.bool)).sz = 1 from rfl, Nat.mul_one] at hv569_0
                          replace hv569_0 := Option.some.inj (hv569_0.symm.trans hx569_0)
                          rw [hv569_0] at ge569_0
                          have HL569_0 := qA (show Kd.R Kd.bool 4 _ _ _ _ (rd_L16 x4_2 x16_5) from ge569_0)
                          clear hv569_0 ge569_0
                          clear hcc569 hce569
                          have HR569_0 := qA hi569_0
                          have HC569_0 := qA hl569_0
                          clear hi569_0 hl569_0
                          replace p569 := eq_true p569
                          replace q569 := eq_true q569
                          have p570 : 0 ≤ (x13_4 : Int) := qO cq0
                          have q570 : x13_4 < (x10_3.length : Int) := qO cq0
                          obtain ⟨ad570, e570, hx570_0⟩ := Kd.at_int (Kd.R_reads' HO_10.out).2.2 x13_4 p570 q570
                          obtain rfl : ad560 = ad570 := (by injection e570)
                          replace p570 := eq_true p570
                          replace q570 := eq_true q570
                          have p571 : 0 ≤ ((rd x10_3 x13_4) : Int) := qO cq0
                          have q571 : (rd x10_3 x13_4) < ((rd_L16 x4_2 x16_5).length : Int) := qO cq0
                          obtain ⟨ad571, e571, hx571_0⟩ := Kd.at_bool cq15 (rd x10_3 x13_4) p571 q571
                          (try rw [← Nbq48.out] at hx571_0)
                          cases e571
                          replace p571 := eq_true p571
                          replace q571 := eq_true q571
                          go_wp2
                          repeat (go_quiet (fail); try go_wp2)
                          go_roundg k5
                          case measure => have := HK1.out; have := HK2.out; have := HK3.out; have := HK4.out; have := HK5.out; omega
                          case rel => exact ⟨(x14_5), (x15_5), (wrap64 (x16_5 + 1)), cq4, cq4, H', ⟨by have := HK1.out; have := HK2.out; have := HK3.out; have := HK4.out; have := HK5.out; omega⟩, ⟨by (with_reducible repeat (first | apply Kd.S_alloc | apply Kd.S_drewN | apply Kd.S_drew)); exact HO_4.out⟩, ⟨by (with_reducible repeat (first | apply Kd.R_alloc | apply Kd.R_drewN | apply Kd.R_drew)); exact HO_10.out⟩, ⟨by (with_reducible repeat (first | apply Kd.S_alloc | apply Kd.S_drewN | apply Kd.S_drew)); exact HO_12.out⟩, ⟨by (with_reducible repeat (first | apply Kd.R_alloc | apply Kd.R_drewN | apply Kd.R_drew)); exact HO_14.out⟩, ⟨by repeat (first | (with_reducible first | exact HB.out | apply below_alloc | apply pw_below_drewN | apply below_drew1) | exact HB.out)⟩⟩
                        ·
                         rw [if_neg c47] at H
                         exact absurd H cq23
                       ·
                        rw [if_neg c46] at H
                        exact absurd H cq23
                      ·
                       rw [if_neg c45] at H
                       exact absurd H cq23
                     ·
                      rw [if_neg c44] at H
                      exact absurd H cq23
                   ·
                    rw [if_neg c33] at H
                    exact absurd H cq23
                  ·
                   rw [if_neg c32] at H
                   exact absurd H cq23
                 ·
                  rw [if_neg c31] at H
                  have c31b0 : decide (x16_5 < (l0.length : Int)) = false := decide_eq_false c31
                  clear c31
                  by_cases c67 : x15_5 = true
                  ·
                   subst c67
                   have H1 : (if x12_4.length < 5864062014805 then (smithyref19_Parts.l4 k5 l0 x4_2 x10_3 (x12_4 ++ [x14_5]) (wrap64 (x13_4 + 1))) else (none)) = some (r1, r2) := by rw [if_pos rfl] at H; exact H
                   clear H
                   have H := H1
                   clear H1
                   by_cases c68 : x12_4.length < 5864062014805
                   ·
                    rw [if_pos c68] at H
                    have LMc68 := qA c68
                    clear c68
                    obtain ⟨y583, hy583⟩ : ∃ y_ : List (List Int), y_ = (x12_4 ++ [x14_5]) := ⟨_, rfl⟩
                    replace H : (smithyref19_Parts.l4 k5 l0 x4_2 x10_3 y583 (wrap64 (x13_4 + 1))) = some (r1, r2) := by first | (rw [hy583]; with_reducible exact H) | (have H2_ := (Option.bind_some _ _).symm.trans H; rw [hy583]; with_reducible exact H2_) | (have H2_ := (Option.bind_some _ _).symm.trans H; with_reducible exact H2_) | with_reducible exact H | (rw [hy583]; exact H) | exact H
                    have Ny583 := qA hy583
                    clear hy583
                    have H' := qA H
                    clear H
                    obtain ⟨Ao70, co70, eo70⟩ := Kd.R_slice HO_14.out
                    subst eo70
                    go_wp2_with (first | ((with_reducible refine gate_builtin (b := .append) (xs := #[.tmp 141, .tmp 143]) rfl ?_); (try (refine gate_guard cq60 ?_; dsimp only)); at_builtin; refine Kd.S_append (Kd.slice 3 (Kd.int .i64)) (w0 := w) w.heap.size rfl (.tmp 141) (.tmp 143) 22 44 (.slice none 0 0) 24 rfl Tryz.underlying22 info44 rfl cq6 cq2 u12 x12_4 x14_5 [.slice Ao70 x14_5.length co70] (fun k_ => some k_ ≠ (.slice Ao30 x10_3.length co30 : Value).ownBlock) (fun k_ => some k_ = (.slice Ao70 x14_5.length co70 : Value).ownBlock) rfl rfl ?aP (fun k_ hk_ => ((Kd.R_mono (ok' := fun k_ => ((fun k_ => some k_ ≠ (.slice Ao30 x10_3.length co30 : Value).ownBlock)) k_ ∧ some k_ ≠ (u12 : Value).ownBlock) (Kd.R_apart' (HO_14.out) (Kd.S_typed HO_12.out) cq6) (fun k_ hk => ⟨hk.1, hk.2⟩))).1 k_ hk_.symm) ?aF ?aO ?aB ?aS ?aL ?_; (case aP => exact Kd.M_row (Kd.R_mono (Kd.R_tight rfl (Kd.R_mono (ok' := fun k_ => ((fun k_ => some k_ ≠ (.slice Ao30 x10_3.length co30 : Value).ownBlock)) k_ ∧ some k_ ≠ (u12 : Value).ownBlock) (Kd.R_apart' (HO_14.out) (Kd.S_typed HO_12.out) cq6) (fun k_ hk => ⟨hk.1, hk.2⟩))) (fun _ h_ => h_))); (case aB => exact cq1); (case aF => exact (fun k_ hk => Kd.fresh' (Kd.R_lt cq12) k_ hk)); (case aO => exact (by (with_reducible repeat (first | apply Kd.S_alloc | apply Kd.S_drewN | apply Kd.S_drew)); exact Kd.S_mono HO_12.out (fun k_ hk => ⟨hk.1, fun e_ => hk.2 e_⟩))); (case aS => exact (below_size cq1)); (case aL => have := LMc68.out; omega); intro v584 w69 ho hb hg hat; rw [← Ny583.out] at ho; have n0_ := qA (Kd.S_over' cq10 (Kd.S_typed cq13) cq6 hg); have n1_ := qA (Kd.R_over' cq12 (Kd.S_typed cq13) cq6 hg); have n2_ := qA (hb); have n3_ := qA (ho); clear HO_4; clear HO_10; clear HB; clear HO_12; clear HO_14; have HO_4 := n0_; have HO_10 := n1_; have HB := n2_; have HO585 := n3_; clear n0_ n1_ n2_ n3_; clear ho hb hg hat))
                    go_roundg k5
                    case measure => have := HK1.out; have := HK2.out; have := HK3.out; have := HK4.out; have := HK5.out; omega
                    case rel => exact ⟨(y583), (wrap64 (x13_4 + 1)), cq4, H', ⟨by have := HK1.out; have := HK2.out; have := HK3.out; have := HK4.out; have := HK5.out; omega⟩, ⟨by (with_reducible repeat (first | apply Kd.S_alloc | apply Kd.S_drewN | apply Kd.S_drew)); exact HO_4.out⟩, ⟨by (with_reducible repeat (first | apply Kd.R_alloc | apply Kd.R_drewN | apply Kd.R_drew)); exact Kd.R_mono HO_10.out (fun _ hk => trivial)⟩, ⟨by (with_reducible repeat (first | apply Kd.S_alloc | apply Kd.S_drewN | apply Kd.S_drew)); exact HO585.out⟩, ⟨by repeat (first | (with_reducible first | exact HB.out | apply below_alloc | apply pw_below_drewN | apply below_drew1) | exact HB.out)⟩⟩
                   ·
                    rw [if_neg c68] at H
                    exact absurd H cq23
                  ·
                   replace c67 := Bool.eq_false_iff.mpr c67
                   subst c67
                   have H1 : (smithyref19_Parts.l4 k5 l0 x4_2 x10_3 x12_4 (wrap64 (x13_4 + 1))) = some (r1, r2) := by rw [if_neg (show ¬ (false = true) by decide)] at H; exact H
                   clear H
                   have H := H1
                   clear H1
                   have H' := qA H
                   clear H
                   go_wp2
                   repeat (go_quiet (fail); try go_wp2)
                   go_roundg k5
                   case measure => have := HK1.out; have := HK2.out; have := HK3.out; have := HK4.out; have := HK5.out; omega
                   case rel => exact ⟨(x12_4), (wrap64 (x13_4 + 1)), cq4, H', ⟨by have := HK1.out; have := HK2.out; have := HK3.out; have := HK4.out; have := HK5.out; omega⟩, ⟨by (with_reducible repeat (first | apply Kd.S_alloc | apply Kd.S_drewN | apply Kd.S_drew)); exact HO_4.out⟩, ⟨by (with_reducible repeat (first | apply Kd.R_alloc | apply Kd.R_drewN | apply Kd.R_drew)); exact Kd.R_mono HO_10.out (fun _ hk => trivial)⟩, ⟨by (with_reducible repeat (first | apply Kd.S_alloc | apply Kd.S_drewN | apply Kd.S_drew)); exact Kd.S_mono HO_12.out (fun _ hk => hk.1)⟩, ⟨by repeat (first | (with_reducible first | exact HB.out | apply below_alloc | apply pw_below_drewN | apply below_drew1) | exact HB.out)⟩⟩
              ·
               rw [if_neg c29] at H
               have c29b0 : decide (x13_4 < (x10_3.length : Int)) = false := decide_eq_false c29
               clear c29
               simp only [Option.some.injEq, Prod.mk.injEq] at H
               obtain ⟨rfl, rfl⟩ := H
               obtain ⟨Ao71, co71, eo71⟩ := Kd.R_slice HO_10.out
               subst eo71
               go_wp2
               repeat (go_quiet (fail); try go_wp2)
               go_ret2
               exact ⟨_, by first | rfl | (simp <;> rfl) | (simp [*] <;> rfl), by (with_reducible repeat (first | apply Kd.S_alloc | apply Kd.S_drewN | apply Kd.S_drew)); exact Kd.S_mono HO_12.out (fun _ hk => trivial), by repeat (first | (with_reducible first | exact HB.out | apply below_alloc | apply pw_below_drewN | apply below_drew1) | exact HB.out)⟩
        ·
         rw [if_neg c16] at H
         exact absurd H cq23
       ·
        rw [if_neg c15] at H
        exact absurd H cq23
end Go.Proofs.YtligpleningglaaGreat.F
