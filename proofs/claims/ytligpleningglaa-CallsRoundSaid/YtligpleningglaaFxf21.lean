-- printed by px2.py, a program of this session, by way of the kit's print; Lean checks it
import Derived.Test.YtligpleningglaaFx0
namespace Go.Proofs.Ytligpleningglaa.F
open Go.RowKit Go.Proofs.YtligpleningglaaW.PrintWords Go.Proofs.YtligpleningglaaW.PrintLast Go.Proofs.YtligpleningglaaW.PrintMore
attribute [local go_sem] max2_int min2_int max_two min_two max_three min_three max_four min_four   -- for this text's walks alone
set_option linter.unusedVariables false
set_option linter.unusedSimpArgs false

/-! ### smithylaw19_reaches: function 21 -/
mutual
def smithylaw19_reaches.l0 : Nat → List (List Int) → Int → List Int → List Int → Option (Bool)
  | 0, _, _, _, _ => none
  | k + 1, x0, x2, x7, x8 => if (x8.length : Int) > 0 then (if 0 < (x8.length : Int) then (if 1 ≤ (x8.length : Int) then (smithylaw19_reaches.l1 k x0 x2 x7 (x8.drop (1 : Int).toNat) (rd x8 0) 0) else (none)) else (none)) else (some false)
def smithylaw19_reaches.l1 : Nat → List (List Int) → Int → List Int → List Int → Int → Int → Option (Bool)
  | 0, _, _, _, _, _, _ => none
  | k + 1, x0, x2, x7, x8, x9, x10 => if 0 ≤ x9 then (if x9 < (x0.length : Int) then (if x10 < ((rd_L1 x0 x9).length : Int) then (if 0 ≤ x10 then (if (rd (rd_L1 x0 x9) x10) = x2 then (some true) else (if 0 ≤ (rd (rd_L1 x0 x9) x10) then (if (rd (rd_L1 x0 x9) x10) < (x7.length : Int) then (if (rd x7 (rd (rd_L1 x0 x9) x10)) = 0 then (if x8.length < 17592186044416 then (smithylaw19_reaches.l1 k x0 x2 (x7.set ((rd (rd_L1 x0 x9) x10) : Int).toNat 1) (x8 ++ [rd (rd_L1 x0 x9) x10]) x9 (wrap64 (x10 + 1))) else (none)) else (smithylaw19_reaches.l1 k x0 x2 x7 x8 x9 (wrap64 (x10 + 1)))) else (none)) else (none))) else (none)) else (smithylaw19_reaches.l0 k x0 x2 x7 x8)) else (none)) else (none)
end
def smithylaw19_reaches.f (k : Nat) (l0 : List (List Int)) (a1 : Int) (a2 : Int) : Option (Bool) := if 0 ≤ (l0.length : Int) then (if ((l0.length : Int) : Int).toNat ≤ 35184372088832 then (smithylaw19_reaches.l0 k l0 a2 (List.replicate ((l0.length : Int) : Int).toNat 0) (([a1] : List Int))) else (none)) else (none)
theorem smithylaw19_reaches.mono_l : ∀ k, (∀ y0 y1 y2 y3, LeO (smithylaw19_reaches.l0 k y0 y1 y2 y3) (smithylaw19_reaches.l0 (k + 1) y0 y1 y2 y3)) ∧ (∀ y0 y1 y2 y3 y4 y5, LeO (smithylaw19_reaches.l1 k y0 y1 y2 y3 y4 y5) (smithylaw19_reaches.l1 (k + 1) y0 y1 y2 y3 y4 y5))
  | 0 => ⟨fun _ _ _ _ r h => by simp [smithylaw19_reaches.l0] at h, fun _ _ _ _ _ _ r h => by simp [smithylaw19_reaches.l1] at h⟩
  | k + 1 => by
    obtain ⟨ih0, ih1⟩ := smithylaw19_reaches.mono_l k
    refine ⟨?_, ?_⟩
    · intro y0 y1 y2 y3
      unfold smithylaw19_reaches.l0
      repeat' first
      | (with_reducible exact ih0 _ _ _ _)
      | (with_reducible exact ih1 _ _ _ _ _ _)
      | (with_reducible exact LeO.refl _)
      | (with_reducible exact LeO.none _)
      | (with_reducible refine LeO.ite ?_ ?_)
      | (with_reducible refine LeO.bind ?_ (fun _ => ?_))
      | exact ih0 _ _ _ _
      | exact ih1 _ _ _ _ _ _
      | exact LeO.none _
      | refine LeO.ite ?_ ?_
      | refine LeO.bind ?_ (fun _ => ?_)
    · intro y0 y1 y2 y3 y4 y5
      unfold smithylaw19_reaches.l1
      repeat' first
      | (with_reducible exact ih0 _ _ _ _)
      | (with_reducible exact ih1 _ _ _ _ _ _)
      | (with_reducible exact LeO.refl _)
      | (with_reducible exact LeO.none _)
      | (with_reducible refine LeO.ite ?_ ?_)
      | (with_reducible refine LeO.bind ?_ (fun _ => ?_))
      | exact ih0 _ _ _ _
      | exact ih1 _ _ _ _ _ _
      | exact LeO.none _
      | refine LeO.ite ?_ ?_
      | refine LeO.bind ?_ (fun _ => ?_)
theorem smithylaw19_reaches.mono : ∀ a0 a1 a2 k, LeO (smithylaw19_reaches.f k a0 a1 a2) (smithylaw19_reaches.f (k + 1) a0 a1 a2) := by
  intro a0 a1 a2 k
  obtain ⟨ih0, ih1⟩ := smithylaw19_reaches.mono_l k
  unfold smithylaw19_reaches.f
  repeat' first
      | (with_reducible exact ih0 _ _ _ _)
      | (with_reducible exact ih1 _ _ _ _ _ _)
      | (with_reducible exact LeO.refl _)
      | (with_reducible exact LeO.none _)
      | (with_reducible refine LeO.ite ?_ ?_)
      | (with_reducible refine LeO.bind ?_ (fun _ => ?_))
      | exact ih0 _ _ _ _
      | exact ih1 _ _ _ _ _ _
      | exact LeO.none _
      | refine LeO.ite ?_ ?_
      | refine LeO.bind ?_ (fun _ => ?_)
set_option maxHeartbeats 8000000 in
set_option maxRecDepth 100000 in
theorem smithylaw19_reaches.calls (k : Nat) (A0 : Option Addr) (c0 : Nat) (l0 : List (List Int)) (a1 : Int) (a2 : Int) (r : Bool) (w : World) (hr0 : Kd.C (Kd.slice 3 (Kd.int .i64)) w A0 l0.length l0) (hc0 : l0.length ≤ c0) (h : smithylaw19_reaches.f k l0 a1 a2 = some r) :
    Calls Try.prog 21 #[.slice A0 l0.length c0, .int .i64 a1, .int .i64 a2] w fun e w' => e = .returned (.bool r) ∧ Below w.heap.size w w' := by
 have HR0 := Aside0.mk hr0
 have HC0 := Aside0.mk hc0
 clear hr0 hc0
 have HB := Aside0.mk (Below.refl w.heap.size w)
 have H : (if 0 ≤ (l0.length : Int) then (if ((l0.length : Int) : Int).toNat ≤ 35184372088832 then (smithylaw19_reaches.l0 k l0 a2 (List.replicate ((l0.length : Int) : Int).toNat 0) (([a1] : List Int))) else (none)) else (none)) = some r := h
 clear h
 by_cases c4 : 0 ≤ (l0.length : Int)
 ·
  rw [if_pos c4] at H
  have c4b0 := eq_true c4
  have c4b1 : decide (0 ≤ (l0.length : Int)) = true := decide_eq_true c4
  clear c4
  by_cases c5 : ((l0.length : Int) : Int).toNat ≤ 35184372088832
  ·
   rw [if_pos c5] at H
   have c5b0 := eq_true c5
   have c5b1 : decide (((l0.length : Int) : Int).toNat ≤ 35184372088832) = true := decide_eq_true c5
   clear c5
   obtain ⟨y462, hy462⟩ : ∃ y_ : List Int, y_ = (List.replicate ((l0.length : Int) : Int).toNat 0) := ⟨_, rfl⟩
   replace H : (smithylaw19_reaches.l0 k l0 a2 y462 (([a1] : List Int))) = some r := by first | (rw [hy462]; with_reducible exact H) | (have H2_ := (Option.bind_some _ _).symm.trans H; rw [hy462]; with_reducible exact H2_) | (have H2_ := (Option.bind_some _ _).symm.trans H; with_reducible exact H2_) | with_reducible exact H | (rw [hy462]; exact H) | exact H
   have Ny462 := Aside0.mk hy462
   clear hy462
   obtain ⟨y465, hy465⟩ : ∃ y_ : List Int, y_ = (([a1] : List Int)) := ⟨_, rfl⟩
   replace H : (smithylaw19_reaches.l0 k l0 a2 y462 y465) = some r := by first | (rw [hy465]; with_reducible exact H) | (have H2_ := (Option.bind_some _ _).symm.trans H; rw [hy465]; with_reducible exact H2_) | (have H2_ := (Option.bind_some _ _).symm.trans H; with_reducible exact H2_) | with_reducible exact H | (rw [hy465]; exact H) | exact H
   have Ny465 := Aside0.mk hy465
   clear hy465
   have H' := Aside0.mk H
   clear H
   go_enter Try.func21, Try.ntmps21
   go_wp2_with (first | ((with_reducible refine gate_dst (N := 14) rfl ?_); refine Kd.R_make (Kd.int .i64) _ 3 rfl (N := 14) rfl 35 _ _ rfl (l0.length : Int) rfl rfl Try.underlying35 (.int .i64 0) 8 info3 rfl (by decide) (by omega) 0 (ok := fun _ => True) (okp := fun _ => True) rfl (fun _ hk => hk) trivial (of_decide_eq_true (by first | (with_reducible assumption) | assumption)) (Nat.le_trans (Nat.mul_le_mul_right _ (of_decide_eq_true (by first | (with_reducible assumption) | assumption) : (l0.length : Int).toNat ≤ 35184372088832)) (by omega)) (Below.refl _ _) (Nat.le_refl _) ?_; intro v463 w6 ho7 hb hg_ hnew_; clear hg_ hnew_; (first | rw [← Ny462.out] at ho7 | (simp only [Int.reduceToNat] at ho7; rw [← Ny462.out] at ho7)); have n0_ := Aside0.mk (Kd.R_lower ho7 (below_size (by repeat (first | (with_reducible first | exact HB.out | apply below_alloc | apply pw_below_drewN | apply below_drew1) | exact HB.out)))); have n1_ := Aside0.mk (below_step (by repeat (first | (with_reducible first | exact HB.out | apply below_alloc | apply pw_below_drewN | apply below_drew1) | exact HB.out)) hb); clear HB; have HO464 := n0_; have HB := n1_; clear n0_ n1_; clear hb ho7) | ((with_reducible refine gate_dst (N := 16) rfl ?_); refine Kd.R_lit (Kd.int .i64) _ 3 ?hg (N := 16) ?hd (xs := ([a1] : List Int)) (inner := [.int .i64 a1]) (ok := fun _ => True) (okp := fun _ => True) ?hr ?hp (fun _ hk => hk) trivial (Below.refl _ _) (Nat.le_refl _) (by simp) ?_; (case hd => rfl); (case hg => rfl); (case hr => first | (go_simp; done) | (go_simp; rfl)); (case hp => exact (Reps.one (show Kd.M (Kd.int .i64) _ _ _ a1 [.int .i64 a1] from rfl) (Reps.none _ _))); intro v466 w8 ho9 hb hg_ hnew_; clear hg_ hnew_; (first | rw [← Ny465.out] at ho9 | (simp only [Int.reduceToNat] at ho9; rw [← Ny465.out] at ho9)); have n0_ := Aside0.mk (Kd.R_elder' (by (with_reducible repeat (first | apply Kd.R_alloc | apply Kd.R_drewN | apply Kd.R_drew)); exact HO464.out) (Kd.R_base ho9) hb); have n1_ := Aside0.mk (Kd.R_lower (Kd.R_new' ho9 (Kd.R_lt (by (with_reducible repeat (first | apply Kd.R_alloc | apply Kd.R_drewN | apply Kd.R_drew)); exact HO464.out))) (below_size (by repeat (first | (with_reducible first | exact HB.out | apply below_alloc | apply pw_below_drewN | apply below_drew1) | exact HB.out)))); have n2_ := Aside0.mk (below_step (by repeat (first | (with_reducible first | exact HB.out | apply below_alloc | apply pw_below_drewN | apply below_drew1) | exact HB.out)) hb); clear HO464; clear HB; have HO464 := n0_; have HO467 := n1_; have HB := n2_; clear n0_ n1_ n2_; clear hb ho9))
   go_loopg [8] k (fun kq v8 w' => ∃ (x7_1 : List Int) (x8_1 : List Int), Aside0 (smithylaw19_reaches.l0 kq l0 a2 x7_1 x8_1 = some r) ∧ Aside0 (kq ≤ k) ∧ Aside0 (Kd.R (Kd.int .i64) 3 w' w.heap.size (fun k_ => some k_ ≠ (v8 : Value).ownBlock) v463 x7_1) ∧ Aside0 (Kd.Q (Kd.int .i64) 3 w' w.heap.size (fun k_ => some k_ ≠ (v463 : Value).ownBlock) v8 x8_1) ∧ Aside0 (Below w.heap.size w w'))
   case atStart => exact ⟨(y462), (y465), H', ⟨Nat.le_refl _⟩, ⟨by (with_reducible repeat (first | apply Kd.R_alloc | apply Kd.R_drewN | apply Kd.R_drew)); exact Kd.R_mono HO464.out (fun _ hk => hk.2)⟩, ⟨Kd.Q_of_R (by (with_reducible repeat (first | apply Kd.R_alloc | apply Kd.R_drewN | apply Kd.R_drew)); exact Kd.R_mono HO467.out (fun _ hk => hk.2))⟩, ⟨by repeat (first | (with_reducible first | exact HB.out | apply below_alloc | apply pw_below_drewN | apply below_drew1) | exact HB.out)⟩⟩
   case round =>
    clear H'
    try clear c2
    try clear p2
    try clear c4
    try clear c4b0
    try clear c4b1
    try clear c5
    try clear c5b0
    try clear c5b1
    obtain ⟨x7_1, x8_1, HA, HK1, HO_7, HO_8, HB⟩ := hrel
    cases gk with
    | zero => exact absurd HA.out (by simp [smithylaw19_reaches.l0])
    | succ k1 =>
     have H := HA.out
     clear HA
     simp only [smithylaw19_reaches.l0] at H
     by_cases c10 : (x8_1.length : Int) > 0
     ·
      rw [if_pos c10] at H
      have c10b0 : decide (0 < (x8_1.length : Int)) = true := decide_eq_true c10
      have c10b1 : decide (0 < x8_1.length) = true := decide_eq_true (by omega)
      clear c10
      by_cases c11 : 0 < (x8_1.length : Int)
      ·
       rw [if_pos c11] at H
       have c11b0 : decide (0 < (x8_1.length : Int)) = true := decide_eq_true c11
       have c11b1 : decide (0 < x8_1.length) = true := decide_eq_true (by omega)
       clear c11
       by_cases c12 : 1 ≤ (x8_1.length : Int)
       ·
        rw [if_pos c12] at H
        have c12b0 := eq_true c12
        have c12b1 : decide (1 ≤ (x8_1.length : Int)) = true := decide_eq_true c12
        clear c12
        obtain ⟨y469, hy469⟩ : ∃ y_ : List Int, y_ = (x8_1.drop (1 : Int).toNat) := ⟨_, rfl⟩
        replace H : (smithylaw19_reaches.l1 k1 l0 a2 x7_1 y469 (rd x8_1 0) 0) = some r := by first | (rw [hy469]; with_reducible exact H) | (have H2_ := (Option.bind_some _ _).symm.trans H; rw [hy469]; with_reducible exact H2_) | (have H2_ := (Option.bind_some _ _).symm.trans H; with_reducible exact H2_) | with_reducible exact H | (rw [hy469]; exact H) | exact H
        have Ny469 := Aside0.mk hy469
        clear hy469
        have H' := Aside0.mk H
        clear H
        obtain ⟨Ao13, co13, eo13, _⟩ := Kd.Q_slice HO_8.out
        subst eo13
        have p468 : 0 ≤ (0 : Int) := (by omega)
        have q468 : 0 < (x8_1.length : Int) := of_decide_eq_true (by first | (with_reducible assumption) | assumption)
        obtain ⟨ad468, e468, hx468_0⟩ := Kd.at_int (Kd.Q_reads' HO_8.out).2.2 0 p468 q468
        cases e468
        have qi468 : (0 < x8_1.length) = True := eq_true (by omega)
        (try rw [show ((0 : Int)).toNat = 0 from rfl] at hx468_0)
        (try rw [Addr.add_zero'] at hx468_0)
        replace p468 := eq_true p468
        replace q468 := eq_true q468
        have q14 : (1 : Int) ≤ ((x8_1.length : Int) : Int) := of_decide_eq_true (by first | (with_reducible assumption) | assumption)
        obtain ⟨i014, hi014, _, hsz14, _⟩ := info_parts info3
        have hcut14 := cut_from (P := Try.prog) 35 3 .i64 Try.underlying35 hi014 1 hsz14 (some ad468) x8_1.length co13 1 (by omega) q14
        have hr14 := Kd.Q_drop (k := (1 : Int).toNat) HO_8.out (by omega)
        obtain ⟨A14, hA14⟩ : ∃ A1, A1 = (if co13 = (1 : Int).toNat then (some ad468) else ((some ad468) : Option Addr).map (·.add ((1 : Int).toNat * 1))) := ⟨_, rfl⟩
        obtain ⟨c14, hc14⟩ : ∃ c1, c1 = co13 - (1 : Int).toNat := ⟨_, rfl⟩
        have hy14 : y469.length = x8_1.length - (1 : Int).toNat := (by rw [Ny469.out, List.length_drop])
        rw [← Ny469.out] at hr14
        rw [← hy14, ← hA14, ← hc14] at hcut14
        replace hr14 : Kd.Q (Kd.int .i64) 3 wr w.heap.size (fun k_ => some k_ ≠ (v463 : Value).ownBlock) (.slice A14 y469.length c14) y469 := (by rw [hA14, hc14, hy14]; exact hr14)
        have HE14 : Aside0 ((Value.slice A14 y469.length c14).ownBlock = (.slice (some ad468) x8_1.length co13 : Value).ownBlock) := ⟨by rw [hA14]; split <;> (cases ((some ad468) : Option Addr) <;> rfl)⟩
        clear hy14 hi014 hsz14 HO_8 hA14 hc14
        have HO471 := Aside0.mk hr14
        clear hr14
        replace q14 := eq_true q14
        have n_ := Aside0.mk (Kd.R_mono (ok' := fun k_ => some k_ ≠ (.slice A14 y469.length c14 : Value).ownBlock) HO_7.out (fun k_ hk => (by rw [HE14.out]; exact hk)))
        clear HO_7
        have HO_7 := n_
        clear n_
        go_wp2
        go_loopg [8, 10] k1 (fun kq v8 v10 w' => ∃ (x7_2 : List Int) (x8_2 : List Int) (x10_2 : Int), v10 = .int .i64 x10_2 ∧ Aside0 (smithylaw19_reaches.l1 kq l0 a2 x7_2 x8_2 (rd x8_1 0) x10_2 = some r) ∧ Aside0 (kq ≤ k1) ∧ Aside0 (Kd.R (Kd.int .i64) 3 w' w.heap.size (fun k_ => some k_ ≠ (v8 : Value).ownBlock) v463 x7_2) ∧ Aside0 (Kd.Q (Kd.int .i64) 3 w' w.heap.size (fun k_ => some k_ ≠ (v463 : Value).ownBlock) v8 x8_2) ∧ Aside0 (Below w.heap.size w w'))
        case atStart => exact ⟨(x7_1), (y469), (0), (by first | rfl | (simp; done) | (simp [*]; done)), H', ⟨Nat.le_refl _⟩, ⟨by (with_reducible repeat (first | apply Kd.R_alloc | apply Kd.R_drewN | apply Kd.R_drew)); exact HO_7.out⟩, ⟨by (with_reducible repeat (first | apply Kd.Q_alloc | apply Kd.Q_drewN | apply Kd.Q_drew)); exact HO471.out⟩, ⟨by repeat (first | (with_reducible first | exact HB.out | apply below_alloc | apply pw_below_drewN | apply below_drew1) | exact HB.out)⟩⟩
        case round =>
         clear H'
         try clear c1
         try clear q1
         try clear c2
         try clear p2
         try clear c4
         try clear c4b0
         try clear c4b1
         try clear p4
         try clear q4
         try clear hx4
         try clear qi4
         try clear c5
         try clear c5b0
         try clear c5b1
         try clear c10
         try clear c10b0
         try clear c10b1
         try clear c11
         try clear c11b0
         try clear c11b1
         try clear c12
         try clear c12b0
         try clear c12b1
         try clear c14
         try clear q14
         try clear hx468_0
         try clear p2
         try clear p468
         try clear q14
         try clear q468
         obtain ⟨x7_2, x8_2, x10_2, rfl, HA, HK2, HO_7, HO_8, HB⟩ := hrel
         cases gk with
         | zero => exact absurd HA.out (by simp [smithylaw19_reaches.l1])
         | succ k2 =>
          have H := HA.out
          clear HA
          simp only [smithylaw19_reaches.l1] at H
          by_cases c15 : 0 ≤ (rd x8_1 0)
          ·
           rw [if_pos c15] at H
           have c15b0 : decide (0 ≤ (rd x8_1 0)) = true := decide_eq_true c15
           clear c15
           by_cases c16 : (rd x8_1 0) < (l0.length : Int)
           ·
            rw [if_pos c16] at H
            have c16b0 : decide ((rd x8_1 0) < (l0.length : Int)) = true := decide_eq_true c16
            clear c16
            by_cases c17 : x10_2 < ((rd_L1 l0 (rd x8_1 0)).length : Int)
            ·
             rw [if_pos c17] at H
             have c17b0 : decide (x10_2 < ((rd_L1 l0 (rd x8_1 0)).length : Int)) = true := decide_eq_true c17
             clear c17
             by_cases c18 : 0 ≤ x10_2
             ·
              rw [if_pos c18] at H
              have c18b0 : decide (0 ≤ x10_2) = true := decide_eq_true c18
              clear c18
              by_cases c19 : (rd (rd_L1 l0 (rd x8_1 0)) x10_2) = a2
              ·
               rw [if_pos c19] at H
               have c19b0 : ((rd (rd_L1 l0 (rd x8_1 0)) x10_2) == a2) = true := beq_iff_eq.mpr c19
               have c19b1 : ((rd (rd_L1 l0 (rd x8_1 0)) x10_2) != a2) = false := bne_eq_false_iff_eq.mpr c19
               clear c19
               obtain rfl := Option.some.inj H
               have p472 : 0 ≤ ((rd x8_1 0) : Int) := of_decide_eq_true (by first | (with_reducible assumption) | assumption)
               have q472 : (rd x8_1 0) < (l0.length : Int) := of_decide_eq_true (by first | (with_reducible assumption) | assumption)
               obtain ⟨ad472, A472_0, c472_0, e472, hx472_0, hl472_0, hi472_0⟩ := at_L1 HR0.out (rd x8_1 0) p472 q472
               cases e472
               replace hx472_0 := (HB.out.cell (World.block_lt_of_cell? w _ hx472_0)).trans hx472_0
               have HR472_0 := Aside0.mk hi472_0
               have HC472_0 := Aside0.mk hl472_0
               clear hi472_0 hl472_0
               replace p472 := eq_true p472
               replace q472 := eq_true q472
               have p473 : 0 ≤ ((rd x8_1 0) : Int) := of_decide_eq_true (by first | (with_reducible assumption) | assumption)
               have q473 : (rd x8_1 0) < (l0.length : Int) := of_decide_eq_true (by first | (with_reducible assumption) | assumption)
               obtain ⟨ad473, A473_0, c473_0, e473, hx473_0, hl473_0, hi473_0⟩ := at_L1 HR0.out (rd x8_1 0) p473 q473
               obtain rfl : ad472 = ad473 := (by injection e473)
               replace hx473_0 := (HB.out.cell (World.block_lt_of_cell? w _ hx473_0)).trans hx473_0
               have HR473_0 := Aside0.mk hi473_0
               have HC473_0 := Aside0.mk hl473_0
               clear hi473_0 hl473_0
               replace p473 := eq_true p473
               replace q473 := eq_true q473
               have ea_ := Option.some.inj (hx472_0.symm.trans hx473_0)
               injection ea_ with ea_ en_ ec_
               subst ea_
               subst ec_
               clear en_
               have p474 : 0 ≤ (x10_2 : Int) := of_decide_eq_true (by first | (with_reducible assumption) | assumption)
               have q474 : x10_2 < ((rd_L1 l0 (rd x8_1 0)).length : Int) := of_decide_eq_true (by first | (with_reducible assumption) | assumption)
               obtain ⟨ad474, e474, hx474_0⟩ := Kd.at_int HR473_0.out x10_2 p474 q474
               cases e474
               replace hx474_0 := (HB.out.cell (World.block_lt_of_cell? w _ hx474_0)).trans hx474_0
               replace p474 := eq_true p474
               replace q474 := eq_true q474
               go_wp2
               go_ret
               exact ⟨by first | rfl | (simp <;> rfl) | (simp [*] <;> rfl), by repeat (first | (with_reducible first | exact HB.out | apply below_alloc | apply pw_below_drewN | apply below_drew1) | exact HB.out)⟩
              ·
               rw [if_neg c19] at H
               have c19b0 : ((rd (rd_L1 l0 (rd x8_1 0)) x10_2) == a2) = false := beq_eq_false_iff_ne.mpr c19
               have c19b1 : ((rd (rd_L1 l0 (rd x8_1 0)) x10_2) != a2) = true := bne_iff_ne.mpr c19
               by_cases c20 : 0 ≤ (rd (rd_L1 l0 (rd x8_1 0)) x10_2)
               ·
                rw [if_pos c20] at H
                have c20b0 : decide (0 ≤ (rd (rd_L1 l0 (rd x8_1 0)) x10_2)) = true := decide_eq_true c20
                clear c20
                by_cases c21 : (rd (rd_L1 l0 (rd x8_1 0)) x10_2) < (x7_2.length : Int)
                ·
                 rw [if_pos c21] at H
                 have c21b0 : decide ((rd (rd_L1 l0 (rd x8_1 0)) x10_2) < (x7_2.length : Int)) = true := decide_eq_true c21
                 clear c21
                 by_cases c22 : (rd x7_2 (rd (rd_L1 l0 (rd x8_1 0)) x10_2)) = 0
                 ·
                  rw [if_pos c22] at H
                  have c22b0 : ((rd x7_2 (rd (rd_L1 l0 (rd x8_1 0)) x10_2)) == 0) = true := beq_iff_eq.mpr c22
                  have c22b1 : ((rd x7_2 (rd (rd_L1 l0 (rd x8_1 0)) x10_2)) != 0) = false := bne_eq_false_iff_eq.mpr c22
                  clear c22
                  obtain ⟨y476, hy476⟩ : ∃ y_ : List Int, y_ = (x7_2.set ((rd (rd_L1 l0 (rd x8_1 0)) x10_2) : Int).toNat 1) := ⟨_, rfl⟩
                  replace H : (if x8_2.length < 17592186044416 then (smithylaw19_reaches.l1 k2 l0 a2 y476 (x8_2 ++ [rd (rd_L1 l0 (rd x8_1 0)) x10_2]) (rd x8_1 0) (wrap64 (x10_2 + 1))) else (none)) = some r := by first | (rw [hy476]; with_reducible exact H) | (have H2_ := (Option.bind_some _ _).symm.trans H; rw [hy476]; with_reducible exact H2_) | (have H2_ := (Option.bind_some _ _).symm.trans H; with_reducible exact H2_) | with_reducible exact H | (rw [hy476]; exact H) | exact H
                  have Ny476 := Aside0.mk hy476
                  clear hy476
                  by_cases c24 : x8_2.length < 17592186044416
                  ·
                   rw [if_pos c24] at H
                   have LMc24 := Aside0.mk c24
                   clear c24
                   obtain ⟨y477, hy477⟩ : ∃ y_ : List Int, y_ = (x8_2 ++ [rd (rd_L1 l0 (rd x8_1 0)) x10_2]) := ⟨_, rfl⟩
                   replace H : (smithylaw19_reaches.l1 k2 l0 a2 y476 y477 (rd x8_1 0) (wrap64 (x10_2 + 1))) = some r := by first | (rw [hy477]; with_reducible exact H) | (have H2_ := (Option.bind_some _ _).symm.trans H; rw [hy477]; with_reducible exact H2_) | (have H2_ := (Option.bind_some _ _).symm.trans H; with_reducible exact H2_) | with_reducible exact H | (rw [hy477]; exact H) | exact H
                   have Ny477 := Aside0.mk hy477
                   clear hy477
                   have H' := Aside0.mk H
                   clear H
                   have p472 : 0 ≤ ((rd x8_1 0) : Int) := of_decide_eq_true (by first | (with_reducible assumption) | assumption)
                   have q472 : (rd x8_1 0) < (l0.length : Int) := of_decide_eq_true (by first | (with_reducible assumption) | assumption)
                   obtain ⟨ad472, A472_0, c472_0, e472, hx472_0, hl472_0, hi472_0⟩ := at_L1 HR0.out (rd x8_1 0) p472 q472
                   cases e472
                   replace hx472_0 := (HB.out.cell (World.block_lt_of_cell? w _ hx472_0)).trans hx472_0
                   have HR472_0 := Aside0.mk hi472_0
                   have HC472_0 := Aside0.mk hl472_0
                   clear hi472_0 hl472_0
                   replace p472 := eq_true p472
                   replace q472 := eq_true q472
                   have p473 : 0 ≤ ((rd x8_1 0) : Int) := of_decide_eq_true (by first | (with_reducible assumption) | assumption)
                   have q473 : (rd x8_1 0) < (l0.length : Int) := of_decide_eq_true (by first | (with_reducible assumption) | assumption)
                   obtain ⟨ad473, A473_0, c473_0, e473, hx473_0, hl473_0, hi473_0⟩ := at_L1 HR0.out (rd x8_1 0) p473 q473
                   obtain rfl : ad472 = ad473 := (by injection e473)
                   replace hx473_0 := (HB.out.cell (World.block_lt_of_cell? w _ hx473_0)).trans hx473_0
                   have HR473_0 := Aside0.mk hi473_0
                   have HC473_0 := Aside0.mk hl473_0
                   clear hi473_0 hl473_0
                   replace p473 := eq_true p473
                   replace q473 := eq_true q473
                   have ea_ := Option.some.inj (hx472_0.symm.trans hx473_0)
                   injection ea_ with ea_ en_ ec_
                   subst ea_
                   subst ec_
                   clear en_
                   have p474 : 0 ≤ (x10_2 : Int) := of_decide_eq_true (by first | (with_reducible assumption) | assumption)
                   have q474 : x10_2 < ((rd_L1 l0 (rd x8_1 0)).length : Int) := of_decide_eq_true (by first | (with_reducible assumption) | assumption)
                   obtain ⟨ad474, e474, hx474_0⟩ := Kd.at_int HR473_0.out x10_2 p474 q474
                   cases e474
                   replace hx474_0 := (HB.out.cell (World.block_lt_of_cell? w _ hx474_0)).trans hx474_0
                   replace p474 := eq_true p474
                   replace q474 := eq_true q474
                   obtain ⟨Ao25, co25, eo25⟩ := Kd.R_slice HO_7.out
                   subst eo25
                   have p475 : 0 ≤ ((rd (rd_L1 l0 (rd x8_1 0)) x10_2) : Int) := of_decide_eq_true (by first | (with_reducible assumption) | assumption)
                   have q475 : (rd (rd_L1 l0 (rd x8_1 0)) x10_2) < (x7_2.length : Int) := of_decide_eq_true (by first | (with_reducible assumption) | assumption)
                   obtain ⟨ad475, e475, hx475_0⟩ := Kd.at_int (Kd.R_reads' HO_7.out).2.2 (rd (rd_L1 l0 (rd x8_1 0)) x10_2) p475 q475
                   cases e475
                   replace p475 := eq_true p475
                   replace q475 := eq_true q475
                   have p23 : 0 ≤ ((rd (rd_L1 l0 (rd x8_1 0)) x10_2) : Int) := of_decide_eq_true (by first | (with_reducible assumption) | assumption)
                   have q23 : ((rd (rd_L1 l0 (rd x8_1 0)) x10_2) : Int) < ((x7_2.length : Int) : Int) := of_decide_eq_true (by first | (with_reducible assumption) | assumption)
                   obtain ⟨go23, co23, eo23, gb23, gl23, cl23, HG23⟩ := Kd.R_form HO_7.out (by omega)
                   (first | cases eo23 | (injection eo23 with ea_ en_ ec_; (first | subst ea_ | (injection ea_ with ea_; subst ea_)); subst ec_; clear en_))
                   have GB23 := Aside0.mk gb23
                   have GG23 := Aside0.mk HG23
                   clear gb23 gl23 HG23
                   (first | simp only [add_plain] at hx475_0 | skip)
                   obtain ⟨hx23_0, hf23_0⟩ := Kd.R_celln 0 HO_7.out ((rd (rd_L1 l0 (rd x8_1 0)) x10_2) : Int) p23 q23
                   replace p23 := eq_true p23
                   replace q23 := eq_true q23
                   have HP26 := Kd.R_putg HO_7.out ((rd (rd_L1 l0 (rd x8_1 0)) x10_2) : Int) 1
                   go_wp2_with (first | ((with_reducible refine gate_store (t := 3) (p := 51) rfl ?_); refine store_event (t := 3) (p := 51) (v := ?vo_w27) (w1 := (wr.setCell ⟨go23, ((rd (rd_L1 l0 (rd x8_1 0)) x10_2) : Int).toNat, none⟩ (.int .i64 1))) ?hg ?ho ?hn ?hr ?_; (case ho => rfl); (case hg => rfl); (case hn => rfl); (case hr => first | (go_simp; done) | (go_simp; rfl)); intro w27 hw; have hg : wr.grownBy w27 (some go23) := (by rw [hw]; exact HP26.2); have hp_ : Kd.R (Kd.int .i64) 3 w27 w.heap.size (fun k_ => some k_ ≠ (u8 : Value).ownBlock) (.slice (some ⟨go23, 0, none⟩) x7_2.length co25) y476 := (by rw [hw, Ny476.out]; exact HP26.1); clear HP26; have n0_ := Aside0.mk (hp_); have n1_ := Aside0.mk (Kd.Q_after (v := (.slice (some ⟨go23, 0, none⟩) x7_2.length co25)) (v1 := (.slice (some ⟨go23, 0, none⟩) x7_2.length co25)) (ok := (fun _ => True)) (by (with_reducible repeat (first | apply Kd.Q_alloc | apply Kd.Q_drewN | apply Kd.Q_drew)); exact Kd.Q_mono HO_8.out (fun _ hk => ⟨trivial, hk⟩)) hg (.inl rfl)); have n2_ := Aside0.mk ((by rw [hw]; exact below_set (HB.out) GB23.out : Below w.heap.size w w27)); clear HO_7; clear HO_8; clear HB; have HO_7 := n0_; have HO_8 := n1_; have HB := n2_; clear n0_ n1_ n2_; clear hg hw hp_) | ((with_reducible refine gate_builtin (b := .append) (xs := #[.tmp 52, .tmp 54]) rfl ?_); at_builtin; refine Kd.Q_append (Kd.int .i64) (w0 := w) w.heap.size rfl (.tmp 52) (.tmp 54) 35 3 (.int .i64 0) 8 rfl Try.underlying35 info3 rfl (by decide) (by omega) u8 x8_2 (rd (rd_L1 l0 (rd x8_1 0)) x10_2) [.int .i64 (rd (rd_L1 l0 (rd x8_1 0)) x10_2)] (fun k_ => some k_ ≠ (.slice (some ⟨go23, 0, none⟩) x7_2.length co25 : Value).ownBlock) (fun _ => False) rfl rfl ?aP (fun _ hk => hk.elim) ?aF ?aO ?aB ?aS ?aL ?_; (case aP => exact rfl); (case aB => exact (by repeat (first | (with_reducible first | exact HB.out | apply below_alloc | apply pw_below_drewN | apply below_drew1) | exact HB.out))); (case aF => exact (fun k_ hk => Kd.fresh' (Kd.R_lt (by (with_reducible repeat (first | apply Kd.R_alloc | apply Kd.R_drewN | apply Kd.R_drew)); exact HO_7.out)) k_ hk)); (case aO => exact (by (with_reducible repeat (first | apply Kd.Q_alloc | apply Kd.Q_drewN | apply Kd.Q_drew)); exact Kd.Q_mono HO_8.out (fun _ hk => hk.2))); (case aS => exact (below_size (by repeat (first | (with_reducible first | exact HB.out | apply below_alloc | apply pw_below_drewN | apply below_drew1) | exact HB.out)))); (case aL => have := LMc24.out; omega); intro v478 w28 ho hb hg hat; rw [← Ny477.out] at ho; have n0_ := Aside0.mk (Kd.R_after (ok := (fun _ => True)) (by (with_reducible repeat (first | apply Kd.R_alloc | apply Kd.R_drewN | apply Kd.R_drew)); exact Kd.R_mono HO_7.out (fun _ hk => ⟨trivial, hk⟩)) hg hat); have n1_ := Aside0.mk (hb); have n2_ := Aside0.mk (ho); clear HO_7; clear HB; clear HO_8; have HO_7 := n0_; have HB := n1_; have HO479 := n2_; clear n0_ n1_ n2_; clear ho hb hg hat))
                   go_roundg k2
                   case measure => have := HK1.out; have := HK2.out; omega
                   case rel => exact ⟨(y476), (y477), (wrap64 (x10_2 + 1)), (by first | rfl | (simp; done) | (simp [*]; done)), H', ⟨by have := HK1.out; have := HK2.out; omega⟩, ⟨by (with_reducible repeat (first | apply Kd.R_alloc | apply Kd.R_drewN | apply Kd.R_drew)); exact Kd.R_mono HO_7.out (fun _ hk => hk.2)⟩, ⟨by (with_reducible repeat (first | apply Kd.Q_alloc | apply Kd.Q_drewN | apply Kd.Q_drew)); exact HO479.out⟩, ⟨by repeat (first | (with_reducible first | exact HB.out | apply below_alloc | apply pw_below_drewN | apply below_drew1) | exact HB.out)⟩⟩
                  ·
                   rw [if_neg c24] at H
                   exact absurd H (by simp)
                 ·
                  rw [if_neg c22] at H
                  have c22b0 : ((rd x7_2 (rd (rd_L1 l0 (rd x8_1 0)) x10_2)) == 0) = false := beq_eq_false_iff_ne.mpr c22
                  have c22b1 : ((rd x7_2 (rd (rd_L1 l0 (rd x8_1 0)) x10_2)) != 0) = true := bne_iff_ne.mpr c22
                  have H' := Aside0.mk H
                  clear H
                  have p472 : 0 ≤ ((rd x8_1 0) : Int) := of_decide_eq_true (by first | (with_reducible assumption) | assumption)
                  have q472 : (rd x8_1 0) < (l0.length : Int) := of_decide_eq_true (by first | (with_reducible assumption) | assumption)
                  obtain ⟨ad472, A472_0, c472_0, e472, hx472_0, hl472_0, hi472_0⟩ := at_L1 HR0.out (rd x8_1 0) p472 q472
                  cases e472
                  replace hx472_0 := (HB.out.cell (World.block_lt_of_cell? w _ hx472_0)).trans hx472_0
                  have HR472_0 := Aside0.mk hi472_0
                  have HC472_0 := Aside0.mk hl472_0
                  clear hi472_0 hl472_0
                  replace p472 := eq_true p472
                  replace q472 := eq_true q472
                  have p473 : 0 ≤ ((rd x8_1 0) : Int) := of_decide_eq_true (by first | (with_reducible assumption) | assumption)
                  have q473 : (rd x8_1 0) < (l0.length : Int) := of_decide_eq_true (by first | (with_reducible assumption) | assumption)
                  obtain ⟨ad473, A473_0, c473_0, e473, hx473_0, hl473_0, hi473_0⟩ := at_L1 HR0.out (rd x8_1 0) p473 q473
                  obtain rfl : ad472 = ad473 := (by injection e473)
                  replace hx473_0 := (HB.out.cell (World.block_lt_of_cell? w _ hx473_0)).trans hx473_0
                  have HR473_0 := Aside0.mk hi473_0
                  have HC473_0 := Aside0.mk hl473_0
                  clear hi473_0 hl473_0
                  replace p473 := eq_true p473
                  replace q473 := eq_true q473
                  have ea_ := Option.some.inj (hx472_0.symm.trans hx473_0)
                  injection ea_ with ea_ en_ ec_
                  subst ea_
                  subst ec_
                  clear en_
                  have p474 : 0 ≤ (x10_2 : Int) := of_decide_eq_true (by first | (with_reducible assumption) | assumption)
                  have q474 : x10_2 < ((rd_L1 l0 (rd x8_1 0)).length : Int) := of_decide_eq_true (by first | (with_reducible assumption) | assumption)
                  obtain ⟨ad474, e474, hx474_0⟩ := Kd.at_int HR473_0.out x10_2 p474 q474
                  cases e474
                  replace hx474_0 := (HB.out.cell (World.block_lt_of_cell? w _ hx474_0)).trans hx474_0
                  replace p474 := eq_true p474
                  replace q474 := eq_true q474
                  obtain ⟨Ao29, co29, eo29⟩ := Kd.R_slice HO_7.out
                  subst eo29
                  have p475 : 0 ≤ ((rd (rd_L1 l0 (rd x8_1 0)) x10_2) : Int) := of_decide_eq_true (by first | (with_reducible assumption) | assumption)
                  have q475 : (rd (rd_L1 l0 (rd x8_1 0)) x10_2) < (x7_2.length : Int) := of_decide_eq_true (by first | (with_reducible assumption) | assumption)
                  obtain ⟨ad475, e475, hx475_0⟩ := Kd.at_int (Kd.R_reads' HO_7.out).2.2 (rd (rd_L1 l0 (rd x8_1 0)) x10_2) p475 q475
                  cases e475
                  replace p475 := eq_true p475
                  replace q475 := eq_true q475
                  go_wp2
                  go_roundg k2
                  case measure => have := HK1.out; have := HK2.out; omega
                  case rel => exact ⟨(x7_2), (x8_2), (wrap64 (x10_2 + 1)), (by first | rfl | (simp; done) | (simp [*]; done)), H', ⟨by have := HK1.out; have := HK2.out; omega⟩, ⟨by (with_reducible repeat (first | apply Kd.R_alloc | apply Kd.R_drewN | apply Kd.R_drew)); exact HO_7.out⟩, ⟨by (with_reducible repeat (first | apply Kd.Q_alloc | apply Kd.Q_drewN | apply Kd.Q_drew)); exact HO_8.out⟩, ⟨by repeat (first | (with_reducible first | exact HB.out | apply below_alloc | apply pw_below_drewN | apply below_drew1) | exact HB.out)⟩⟩
                ·
                 rw [if_neg c21] at H
                 exact absurd H (by simp)
               ·
                rw [if_neg c20] at H
                exact absurd H (by simp)
             ·
              rw [if_neg c18] at H
              exact absurd H (by simp)
            ·
             rw [if_neg c17] at H
             have c17b0 : decide (x10_2 < ((rd_L1 l0 (rd x8_1 0)).length : Int)) = false := decide_eq_false c17
             clear c17
             have H' := Aside0.mk H
             clear H
             have p472 : 0 ≤ ((rd x8_1 0) : Int) := of_decide_eq_true (by first | (with_reducible assumption) | assumption)
             have q472 : (rd x8_1 0) < (l0.length : Int) := of_decide_eq_true (by first | (with_reducible assumption) | assumption)
             obtain ⟨ad472, A472_0, c472_0, e472, hx472_0, hl472_0, hi472_0⟩ := at_L1 HR0.out (rd x8_1 0) p472 q472
             cases e472
             replace hx472_0 := (HB.out.cell (World.block_lt_of_cell? w _ hx472_0)).trans hx472_0
             have HR472_0 := Aside0.mk hi472_0
             have HC472_0 := Aside0.mk hl472_0
             clear hi472_0 hl472_0
             replace p472 := eq_true p472
             replace q472 := eq_true q472
             go_wp2
             go_roundg k2
             case measure => have := HK1.out; have := HK2.out; omega
             case rel => exact ⟨(x7_2), (x8_2), H', ⟨by have := HK1.out; have := HK2.out; omega⟩, ⟨by (with_reducible repeat (first | apply Kd.R_alloc | apply Kd.R_drewN | apply Kd.R_drew)); exact HO_7.out⟩, ⟨by (with_reducible repeat (first | apply Kd.Q_alloc | apply Kd.Q_drewN | apply Kd.Q_drew)); exact HO_8.out⟩, ⟨by repeat (first | (with_reducible first | exact HB.out | apply below_alloc | apply pw_below_drewN | apply below_drew1) | exact HB.out)⟩⟩
           ·
            rw [if_neg c16] at H
            exact absurd H (by simp)
          ·
           rw [if_neg c15] at H
           exact absurd H (by simp)
       ·
        rw [if_neg c12] at H
        exact absurd H (by simp)
      ·
       rw [if_neg c11] at H
       exact absurd H (by simp)
     ·
      rw [if_neg c10] at H
      have c10b0 : decide (0 < (x8_1.length : Int)) = false := decide_eq_false c10
      have c10b1 : decide (0 < x8_1.length) = false := decide_eq_false (by omega)
      clear c10
      obtain rfl := Option.some.inj H
      obtain ⟨Ao30, co30, eo30, _⟩ := Kd.Q_slice HO_8.out
      subst eo30
      go_wp2
      go_ret
      exact ⟨by first | rfl | (simp <;> rfl) | (simp [*] <;> rfl), by repeat (first | (with_reducible first | exact HB.out | apply below_alloc | apply pw_below_drewN | apply below_drew1) | exact HB.out)⟩
  ·
   rw [if_neg c5] at H
   exact absurd H (by simp)
 ·
  rw [if_neg c4] at H
  exact absurd H (by simp)

end Go.Proofs.Ytligpleningglaa.F
