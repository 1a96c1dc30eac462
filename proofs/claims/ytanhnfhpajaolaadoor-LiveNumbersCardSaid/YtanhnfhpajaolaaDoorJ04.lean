/- Texts of this proof, joined in build order: Fxf20, Ah. -/
import Derived.Test.YtanhnfhpajaolaaDoorJ00
import Derived.Test.YtanhnfhpajaolaaDoorJ03
import Derived.Test.YtanhnfhpajaolaaDoorJ02
import Derived.Test.YtanhnfhpajaolaaDoorJ01
-- printed by px2.py, a program of this session, by way of the kit's print; Lean checks it
namespace Go.Proofs.YtanhnfhpajaolaaDoor.F
open Go.RowKit Go.Proofs.YtanhnfhpajaolaaDoorW.PrintWords Go.Proofs.YtanhnfhpajaolaaDoorW.PrintLast Go.Proofs.YtanhnfhpajaolaaDoorW.PrintMore
attribute [local go_sem] max2_int min2_int max_two min_two max_three min_three max_four min_four   -- for this text's walks alone
set_option linter.unusedVariables false
set_option linter.unusedSimpArgs false

/-! ### graph_Ahead: function 20 -/
mutual
def graph_Ahead.l0 : Nat → List (List Int) → List (S43) → Int → Int → Option ((List (List Int)))
  | 0, _, _, _, _ => none
  | k + 1, x3, x13, x14, x15 => if x15 < x14 then (if 0 ≤ x15 then (if x15 < (x13.length : Int) then ((graph_Next.f ((rd_T43 x13 x15).f0) ((rd_T43 x13 x15).f1.f0) ((rd_T43 x13 x15).f1.f1) ((rd_T43 x13 x15).f1.f2.f0) ((rd_T43 x13 x15).f1.f2.f1) ((rd_T43 x13 x15).f1.f3)).bind fun t121 => (graph_Ahead.l1 k x3 x15 x13 x14 x15 t121 (t121.length : Int) 0)) else (none)) else (none)) else (some x3)
def graph_Ahead.l1 : Nat → List (List Int) → Int → List (S43) → Int → Int → List Int → Int → Int → Option ((List (List Int)))
  | 0, _, _, _, _, _, _, _, _ => none
  | k + 1, x3, x4, x13, x14, x15, x21, x22, x23 => if x23 < x22 then (if 0 ≤ x23 then (if x23 < (x21.length : Int) then ((graph_in.f (rd x21 x23) (x3.length : Int)).bind fun t125 => (if t125 = true then (if 0 ≤ (rd x21 x23) then (if (rd x21 x23) < (x3.length : Int) then (if (rd_L2 x3 (rd x21 x23)).length < 17592186044416 then (graph_Ahead.l1 k (x3.set ((rd x21 x23) : Int).toNat ((rd_L2 x3 (rd x21 x23)) ++ [x4])) x4 x13 x14 x15 x21 x22 (wrap64 (x23 + 1))) else (none)) else (none)) else (none)) else (graph_Ahead.l1 k x3 x4 x13 x14 x15 x21 x22 (wrap64 (x23 + 1))))) else (none)) else (none)) else (graph_Ahead.l0 k x3 x13 x14 (wrap64 (x15 + 1)))
end
def graph_Ahead.f (k : Nat) (a0_0 : ByteArray) (l0_1 : List Int) (a0_2 : Int) (l0_3 : List Int) (l0_4 : List (S113)) (l0_5 : List (S43)) : Option ((List (List Int))) := if 0 ≤ (l0_5.length : Int) then (if ((l0_5.length : Int) : Int).toNat ≤ 11728124029610 then (graph_Ahead.l0 k (List.replicate ((l0_5.length : Int) : Int).toNat []) l0_5 (l0_5.length : Int) 0) else (none)) else (none)
theorem graph_Ahead.mono_l : ∀ k, (∀ y0 y1 y2 y3, LeO (graph_Ahead.l0 k y0 y1 y2 y3) (graph_Ahead.l0 (k + 1) y0 y1 y2 y3)) ∧ (∀ y0 y1 y2 y3 y4 y5 y6 y7, LeO (graph_Ahead.l1 k y0 y1 y2 y3 y4 y5 y6 y7) (graph_Ahead.l1 (k + 1) y0 y1 y2 y3 y4 y5 y6 y7))
  | 0 => ⟨fun _ _ _ _ r h => by simp [graph_Ahead.l0] at h, fun _ _ _ _ _ _ _ _ r h => by simp [graph_Ahead.l1] at h⟩
  | k + 1 => by
    obtain ⟨ih0, ih1⟩ := graph_Ahead.mono_l k
    refine ⟨?_, ?_⟩
    · intro y0 y1 y2 y3
      unfold graph_Ahead.l0
      repeat' first
      | (with_reducible exact ih0 _ _ _ _)
      | (with_reducible exact ih1 _ _ _ _ _ _ _ _)
      | (with_reducible exact LeO.refl _)
      | (with_reducible exact LeO.none _)
      | (with_reducible refine LeO.ite ?_ ?_)
      | (with_reducible refine LeO.bind ?_ (fun _ => ?_))
      | exact ih0 _ _ _ _
      | exact ih1 _ _ _ _ _ _ _ _
      | exact LeO.none _
      | refine LeO.ite ?_ ?_
      | refine LeO.bind ?_ (fun _ => ?_)
    · intro y0 y1 y2 y3 y4 y5 y6 y7
      unfold graph_Ahead.l1
      repeat' first
      | (with_reducible exact ih0 _ _ _ _)
      | (with_reducible exact ih1 _ _ _ _ _ _ _ _)
      | (with_reducible exact LeO.refl _)
      | (with_reducible exact LeO.none _)
      | (with_reducible refine LeO.ite ?_ ?_)
      | (with_reducible refine LeO.bind ?_ (fun _ => ?_))
      | exact ih0 _ _ _ _
      | exact ih1 _ _ _ _ _ _ _ _
      | exact LeO.none _
      | refine LeO.ite ?_ ?_
      | refine LeO.bind ?_ (fun _ => ?_)
theorem graph_Ahead.mono : ∀ a0 a1 a2 a3 a4 a5 k, LeO (graph_Ahead.f k a0 a1 a2 a3 a4 a5) (graph_Ahead.f (k + 1) a0 a1 a2 a3 a4 a5) := by
  intro a0 a1 a2 a3 a4 a5 k
  obtain ⟨ih0, ih1⟩ := graph_Ahead.mono_l k
  unfold graph_Ahead.f
  repeat' first
      | (with_reducible exact ih0 _ _ _ _)
      | (with_reducible exact ih1 _ _ _ _ _ _ _ _)
      | (with_reducible exact LeO.refl _)
      | (with_reducible exact LeO.none _)
      | (with_reducible refine LeO.ite ?_ ?_)
      | (with_reducible refine LeO.bind ?_ (fun _ => ?_))
      | exact ih0 _ _ _ _
      | exact ih1 _ _ _ _ _ _ _ _
      | exact LeO.none _
      | refine LeO.ite ?_ ?_
      | refine LeO.bind ?_ (fun _ => ?_)
set_option maxHeartbeats 8000000 in
set_option maxRecDepth 100000 in
theorem graph_Ahead.calls (k : Nat) (a0_0 : ByteArray) (A0_1 : Option Addr) (c0_1 : Nat) (l0_1 : List Int) (a0_2 : Int) (A0_3 : Option Addr) (c0_3 : Nat) (l0_3 : List Int) (A0_4 : Option Addr) (c0_4 : Nat) (l0_4 : List (S113)) (A0_5 : Option Addr) (c0_5 : Nat) (l0_5 : List (S43)) (r : List (List Int)) (w : World) (hr0_1 : Kd.C (Kd.int .i64) w A0_1 l0_1.length l0_1) (hc0_1 : l0_1.length ≤ c0_1) (hr0_3 : Kd.C (Kd.int .u8) w A0_3 l0_3.length l0_3) (hc0_3 : l0_3.length ≤ c0_3) (hr0_4 : Kd.C k113 w A0_4 l0_4.length l0_4) (hc0_4 : l0_4.length ≤ c0_4) (hr0_5 : Kd.C k43 w A0_5 l0_5.length l0_5) (hc0_5 : l0_5.length ≤ c0_5) (h : graph_Ahead.f k a0_0 l0_1 a0_2 l0_3 l0_4 l0_5 = some r) :
    Calls Tryd.prog 20 #[.agg #[.string a0_0, .slice A0_1 l0_1.length c0_1, .int .u8 a0_2, .slice A0_3 l0_3.length c0_3, .slice A0_4 l0_4.length c0_4, .slice A0_5 l0_5.length c0_5]] w fun e w' => ∃ v0_ : Value, e = .returned (v0_) ∧ Kd.S (Kd.slice 3 (Kd.int .i64)) 22 w' w.heap.size (fun _ => True) v0_ r ∧ Below w.heap.size w w' := by
 have hu28 := Tryd.underlying28
 have hu43 := Tryd.underlying43
 have HR0_1 := Aside0.mk hr0_1
 have HC0_1 := Aside0.mk hc0_1
 clear hr0_1 hc0_1
 have HR0_3 := Aside0.mk hr0_3
 have HC0_3 := Aside0.mk hc0_3
 clear hr0_3 hc0_3
 have HR0_4 := Aside0.mk hr0_4
 have HC0_4 := Aside0.mk hc0_4
 clear hr0_4 hc0_4
 have HR0_5 := Aside0.mk hr0_5
 have HC0_5 := Aside0.mk hc0_5
 clear hr0_5 hc0_5
 have HB := Aside0.mk (Below.refl w.heap.size w)
 have H : (if 0 ≤ (l0_5.length : Int) then (if ((l0_5.length : Int) : Int).toNat ≤ 11728124029610 then (graph_Ahead.l0 k (List.replicate ((l0_5.length : Int) : Int).toNat []) l0_5 (l0_5.length : Int) 0) else (none)) else (none)) = some r := h
 clear h
 by_cases c2 : 0 ≤ (l0_5.length : Int)
 ·
  rw [if_pos c2] at H
  have c2b0 := eq_true c2
  have c2b1 : decide (0 ≤ (l0_5.length : Int)) = true := decide_eq_true c2
  clear c2
  by_cases c3 : ((l0_5.length : Int) : Int).toNat ≤ 11728124029610
  ·
   rw [if_pos c3] at H
   have c3b0 := eq_true c3
   have c3b1 : decide (((l0_5.length : Int) : Int).toNat ≤ 11728124029610) = true := decide_eq_true c3
   clear c3
   obtain ⟨y116, hy116⟩ : ∃ y_ : List (List Int), y_ = (List.replicate ((l0_5.length : Int) : Int).toNat []) := ⟨_, rfl⟩
   replace H : (graph_Ahead.l0 k y116 l0_5 (l0_5.length : Int) 0) = some r := by first | (rw [hy116]; with_reducible exact H) | (have H2_ := (Option.bind_some _ _).symm.trans H; rw [hy116]; with_reducible exact H2_) | (have H2_ := (Option.bind_some _ _).symm.trans H; with_reducible exact H2_) | with_reducible exact H | (rw [hy116]; exact H) | exact H
   have Ny116 := Aside0.mk hy116
   clear hy116
   have H' := Aside0.mk H
   clear H
   go_enter Tryd.func20, Tryd.ntmps20
   go_wp2_with (first | ((with_reducible refine gate_dst (N := 1) rfl ?_); refine box_event ?hg (N := 1) ?hd (cs := #[.string a0_0, .slice A0_1 l0_1.length c0_1, .int .u8 a0_2, .slice A0_3 l0_3.length c0_3, .slice A0_4 l0_4.length c0_4, .slice A0_5 l0_5.length c0_5]) (t := 28) ?hr ?_; (case hd => rfl); (case hg => rfl); (case hr => first | (go_simp; done) | (go_simp; rfl)); intro gb115 hg w4 hbox hb; have n0_ := Aside0.mk (below_step (by repeat (first | (with_reducible first | exact HB.out | apply below_alloc | apply pw_below_drewN | apply below_drew1) | exact HB.out)) hb); have n1_ := Aside0.mk (hbox); have n2_ := Aside0.mk ((by rw [hg]; exact (below_size (by repeat (first | (with_reducible first | exact HB.out | apply below_alloc | apply pw_below_drewN | apply below_drew1) | exact HB.out))) : w.heap.size ≤ gb115)); have n3_ := Aside0.mk ((by rw [hg]; exact (below_size (by repeat (first | (with_reducible first | exact HB.out | apply below_alloc | apply pw_below_drewN | apply below_drew1) | exact HB.out))) : w.heap.size ≤ gb115)); clear HB; have HB := n0_; have BK115 := n1_; have GW115 := n2_; have GE115 := n3_; clear n0_ n1_ n2_ n3_; clear hb hbox hg; have hcz5_0 : w4.cell? ⟨gb115, 0, none⟩ = some (.string a0_0) := (blk_cell BK115.out 0).trans rfl; have hcz5_1 : w4.cell? ⟨gb115, 1, none⟩ = some (.slice A0_1 l0_1.length c0_1) := (blk_cell BK115.out 1).trans rfl; have hcz5_2 : w4.cell? ⟨gb115, 2, none⟩ = some (.int .u8 a0_2) := (blk_cell BK115.out 2).trans rfl; have hcz5_3 : w4.cell? ⟨gb115, 3, none⟩ = some (.slice A0_3 l0_3.length c0_3) := (blk_cell BK115.out 3).trans rfl; have hcz5_4 : w4.cell? ⟨gb115, 4, none⟩ = some (.slice A0_4 l0_4.length c0_4) := (blk_cell BK115.out 4).trans rfl; have hcz5_5 : w4.cell? ⟨gb115, 5, none⟩ = some (.slice A0_5 l0_5.length c0_5) := (blk_cell BK115.out 5).trans rfl; have hfz5_0 := blk_frozen BK115.out 0; have hfz5_1 := blk_frozen BK115.out 1; have hfz5_2 := blk_frozen BK115.out 2; have hfz5_3 := blk_frozen BK115.out 3; have hfz5_4 := blk_frozen BK115.out 4; have hfz5_5 := blk_frozen BK115.out 5) | ((with_reducible refine gate_dst (N := 11) rfl ?_); refine Kd.S_make (Kd.slice 3 (Kd.int .i64)) _ 22 rfl (N := 11) rfl 31 _ _ rfl (l0_5.length : Int) rfl rfl Tryd.underlying31 (.slice none 0 0) 24 info22 rfl (by decide) (by omega) [] (ok := fun _ => True) (okp := fun _ => True) ⟨_, rfl, Kd.R_nil _ _ _ _ _⟩ (fun _ hk => hk) trivial (of_decide_eq_true (by first | (with_reducible assumption) | assumption)) (Nat.le_trans (Nat.mul_le_mul_right _ (of_decide_eq_true (by first | (with_reducible assumption) | assumption) : (l0_5.length : Int).toNat ≤ 11728124029610)) (by omega)) (Below.refl _ _) (Nat.le_refl _) ?_; intro v117 w6 ho7 hb hg_ hnew_; clear hg_ hnew_; (first | rw [← Ny116.out] at ho7 | (simp only [Int.reduceToNat] at ho7; rw [← Ny116.out] at ho7)); have n0_ := Aside0.mk (Kd.S_lower ho7 (below_size (by repeat (first | (with_reducible first | exact HB.out | apply below_alloc | apply pw_below_drewN | apply below_drew1 | refine below_set ?_ GE115.out) | exact HB.out)))); have n1_ := Aside0.mk (blk_below (g := gb115) (o := .cells #[.string a0_0, .slice A0_1 l0_1.length c0_1, .int .u8 a0_2, .slice A0_3 l0_3.length c0_3, .slice A0_4 l0_4.length c0_4, .slice A0_5 l0_5.length c0_5] 28 (0, 0)) (by (with_reducible repeat (first | refine blk_drewN ?_ _ | refine blk_drew ?_ | refine blk_alloc ?_ _)); exact BK115.out) hb); have n2_ := Aside0.mk (below_step (by repeat (first | (with_reducible first | exact HB.out | apply below_alloc | apply pw_below_drewN | apply below_drew1 | refine below_set ?_ GE115.out) | exact HB.out)) hb); clear BK115; clear HB; have HO118 := n0_; have BK115 := n1_; have HB := n2_; clear n0_ n1_ n2_; clear hb ho7; have hcz8_0 : w6.cell? ⟨gb115, 0, none⟩ = some (.string a0_0) := (blk_cell BK115.out 0).trans rfl; have hcz8_1 : w6.cell? ⟨gb115, 1, none⟩ = some (.slice A0_1 l0_1.length c0_1) := (blk_cell BK115.out 1).trans rfl; have hcz8_2 : w6.cell? ⟨gb115, 2, none⟩ = some (.int .u8 a0_2) := (blk_cell BK115.out 2).trans rfl; have hcz8_3 : w6.cell? ⟨gb115, 3, none⟩ = some (.slice A0_3 l0_3.length c0_3) := (blk_cell BK115.out 3).trans rfl; have hcz8_4 : w6.cell? ⟨gb115, 4, none⟩ = some (.slice A0_4 l0_4.length c0_4) := (blk_cell BK115.out 4).trans rfl; have hcz8_5 : w6.cell? ⟨gb115, 5, none⟩ = some (.slice A0_5 l0_5.length c0_5) := (blk_cell BK115.out 5).trans rfl; have hfz8_0 := blk_frozen BK115.out 0; have hfz8_1 := blk_frozen BK115.out 1; have hfz8_2 := blk_frozen BK115.out 2; have hfz8_3 := blk_frozen BK115.out 3; have hfz8_4 := blk_frozen BK115.out 4; have hfz8_5 := blk_frozen BK115.out 5))
   go_loopg [15] k (fun kq v15 w' => ∃ (x3_1 : List (List Int)) (x15_1 : Int), v15 = .int .i64 x15_1 ∧ Aside0 (graph_Ahead.l0 kq x3_1 l0_5 (l0_5.length : Int) x15_1 = some r) ∧ Aside0 (kq ≤ k) ∧ Aside0 (Kd.S (Kd.slice 3 (Kd.int .i64)) 22 w' w.heap.size (fun _ => True) v117 x3_1) ∧ Aside0 (w'.heap[gb115]? = some (.cells #[.string a0_0, (.slice A0_1 l0_1.length c0_1), .int .u8 a0_2, (.slice A0_3 l0_3.length c0_3), (.slice A0_4 l0_4.length c0_4), (.slice A0_5 l0_5.length c0_5)] 28 (0, 0))) ∧ Aside0 (Below w.heap.size w w'))
   case atStart => exact ⟨(y116), (0), (by first | rfl | (simp; done) | (simp [*]; done)), H', ⟨Nat.le_refl _⟩, ⟨by (with_reducible repeat (first | apply Kd.S_alloc | apply Kd.S_drewN | apply Kd.S_drew)); exact HO118.out⟩, ⟨by (with_reducible repeat (first | refine blk_drewN ?_ _ | refine blk_drew ?_ | refine blk_alloc ?_ _)); exact BK115.out⟩, ⟨by repeat (first | (with_reducible first | exact HB.out | apply below_alloc | apply pw_below_drewN | apply below_drew1 | refine below_set ?_ GE115.out) | exact HB.out)⟩⟩
   case round =>
    clear H'
    try clear c2
    try clear c2b0
    try clear c2b1
    try clear p2
    try clear c3
    try clear c3b0
    try clear c3b1
    try clear hcz5_0
    try clear hcz5_1
    try clear hcz5_2
    try clear hcz5_3
    try clear hcz5_4
    try clear hcz5_5
    try clear hcz8_0
    try clear hcz8_1
    try clear hcz8_2
    try clear hcz8_3
    try clear hcz8_4
    try clear hcz8_5
    try clear hfz5_0
    try clear hfz5_1
    try clear hfz5_2
    try clear hfz5_3
    try clear hfz5_4
    try clear hfz5_5
    try clear hfz8_0
    try clear hfz8_1
    try clear hfz8_2
    try clear hfz8_3
    try clear hfz8_4
    try clear hfz8_5
    obtain ⟨x3_1, x15_1, rfl, HA, HK1, HO_3, BK115, HB⟩ := hrel
    cases gk with
    | zero => exact absurd HA.out (by simp [graph_Ahead.l0])
    | succ k1 =>
     have H := HA.out
     clear HA
     simp only [graph_Ahead.l0] at H
     by_cases c9 : x15_1 < (l0_5.length : Int)
     ·
      rw [if_pos c9] at H
      have c9b0 : decide (x15_1 < (l0_5.length : Int)) = true := decide_eq_true c9
      clear c9
      by_cases c10 : 0 ≤ x15_1
      ·
       rw [if_pos c10] at H
       have c10b0 : decide (0 ≤ x15_1) = true := decide_eq_true c10
       clear c10
       by_cases c11 : x15_1 < (l0_5.length : Int)
       ·
        rw [if_pos c11] at H
        have c11b0 : decide (x15_1 < (l0_5.length : Int)) = true := decide_eq_true c11
        clear c11
        replace H := Option.bind_eq_some_iff.mp H
        obtain ⟨t121, A120, H⟩ := H
        replace H : (graph_Ahead.l1 k1 x3_1 x15_1 l0_5 (l0_5.length : Int) x15_1 t121 (t121.length : Int) 0) = some r := H
        have A12 := Aside0.mk A120
        clear A120
        have H' := Aside0.mk H
        clear H
        have p119 : 0 ≤ (x15_1 : Int) := of_decide_eq_true (by first | (with_reducible assumption) | assumption)
        have q119 : x15_1 < (l0_5.length : Int) := of_decide_eq_true (by first | (with_reducible assumption) | assumption)
        obtain ⟨ad119, A119_0, c119_0, e119, hx119_0, hx119_1, hx119_2, hx119_3, hx119_4, hx119_5, hl119_0, hi119_0⟩ := at_T43 HR0_5.out x15_1 p119 q119
        cases e119
        replace hx119_0 := (HB.out.cell (World.block_lt_of_cell? w _ hx119_0)).trans hx119_0
        replace hx119_1 := (HB.out.cell (World.block_lt_of_cell? w _ hx119_1)).trans hx119_1
        replace hx119_2 := (HB.out.cell (World.block_lt_of_cell? w _ hx119_2)).trans hx119_2
        replace hx119_3 := (HB.out.cell (World.block_lt_of_cell? w _ hx119_3)).trans hx119_3
        replace hx119_4 := (HB.out.cell (World.block_lt_of_cell? w _ hx119_4)).trans hx119_4
        replace hx119_5 := (HB.out.cell (World.block_lt_of_cell? w _ hx119_5)).trans hx119_5
        have HR119_0 := Aside0.mk hi119_0
        have HC119_0 := Aside0.mk hl119_0
        clear hi119_0 hl119_0
        replace p119 := eq_true p119
        replace q119 := eq_true q119
        go_wp2_with (first | ((with_reducible refine gate_dst (N := 5) rfl ?_); refine box_event ?hg (N := 5) ?hd (cs := #[.slice none 0 0, .int .u8 0, .int .i64 0, .int .i64 0, .int .i64 0, .int .u8 0]) (t := 43) ?hr ?_; (case hd => rfl); (case hg => rfl); (case hr => first | (go_simp; done) | (go_simp; rfl)); intro gb120 hg w13 hbox hb; have n0_ := Aside0.mk (Kd.S_below (by (with_reducible repeat (first | apply Kd.S_alloc | apply Kd.S_drewN | apply Kd.S_drew)); exact HO_3.out) hb); have n1_ := Aside0.mk (blk_below (g := gb115) (o := .cells #[.string a0_0, .slice A0_1 l0_1.length c0_1, .int .u8 a0_2, .slice A0_3 l0_3.length c0_3, .slice A0_4 l0_4.length c0_4, .slice (some ad119) l0_5.length c0_5] 28 (0, 0)) (by (with_reducible repeat (first | refine blk_drewN ?_ _ | refine blk_drew ?_ | refine blk_alloc ?_ _)); exact BK115.out) hb); have n2_ := Aside0.mk (below_step (by repeat (first | (with_reducible first | exact HB.out | apply below_alloc | apply pw_below_drewN | apply below_drew1 | refine below_set ?_ GE115.out) | exact HB.out)) hb); have n3_ := Aside0.mk (hbox); have n4_ := Aside0.mk ((by rw [hg]; exact (below_size (by repeat (first | (with_reducible first | exact HB.out | apply below_alloc | apply pw_below_drewN | apply below_drew1 | refine below_set ?_ GE115.out) | exact HB.out))) : w.heap.size ≤ gb120)); have n5_ := Aside0.mk ((by rw [hg]; exact (below_size (by repeat (first | (with_reducible first | exact HB.out | apply below_alloc | apply pw_below_drewN | apply below_drew1 | refine below_set ?_ GE115.out) | exact HB.out))) : w.heap.size ≤ gb120)); have n6_ := Aside0.mk ((by rw [hg]; exact Nat.ne_of_lt (blk_lt (g := gb115) (o := .cells #[.string a0_0, .slice A0_1 l0_1.length c0_1, .int .u8 a0_2, .slice A0_3 l0_3.length c0_3, .slice A0_4 l0_4.length c0_4, .slice (some ad119) l0_5.length c0_5] 28 (0, 0)) (by (with_reducible repeat (first | refine blk_drewN ?_ _ | refine blk_drew ?_ | refine blk_alloc ?_ _)); exact BK115.out)) : gb115 ≠ gb120)); have n7_ := Aside0.mk ((by rw [hg]; exact Nat.ne_of_gt (blk_lt (g := gb115) (o := .cells #[.string a0_0, .slice A0_1 l0_1.length c0_1, .int .u8 a0_2, .slice A0_3 l0_3.length c0_3, .slice A0_4 l0_4.length c0_4, .slice (some ad119) l0_5.length c0_5] 28 (0, 0)) (by (with_reducible repeat (first | refine blk_drewN ?_ _ | refine blk_drew ?_ | refine blk_alloc ?_ _)); exact BK115.out)) : gb120 ≠ gb115)); clear HO_3; clear BK115; clear HB; have HO_3 := n0_; have BK115 := n1_; have HB := n2_; have BK120 := n3_; have GW120 := n4_; have GE120 := n5_; have NB115_120 := n6_; have NB120_115 := n7_; clear n0_ n1_ n2_ n3_ n4_ n5_ n6_ n7_; clear hb hbox hg; have hnb14 := NB120_115.out; have hnc14 := NB115_120.out; have hcz15_0 : w13.cell? ⟨gb120, 0, none⟩ = some (.slice none 0 0) := (blk_cell BK120.out 0).trans rfl; have hcz15_1 : w13.cell? ⟨gb120, 1, none⟩ = some (.int .u8 0) := (blk_cell BK120.out 1).trans rfl; have hcz15_2 : w13.cell? ⟨gb120, 2, none⟩ = some (.int .i64 0) := (blk_cell BK120.out 2).trans rfl; have hcz15_3 : w13.cell? ⟨gb120, 3, none⟩ = some (.int .i64 0) := (blk_cell BK120.out 3).trans rfl; have hcz15_4 : w13.cell? ⟨gb120, 4, none⟩ = some (.int .i64 0) := (blk_cell BK120.out 4).trans rfl; have hcz15_5 : w13.cell? ⟨gb120, 5, none⟩ = some (.int .u8 0) := (blk_cell BK120.out 5).trans rfl; have hfz15_0 := blk_frozen BK120.out 0; have hfz15_1 := blk_frozen BK120.out 1; have hfz15_2 := blk_frozen BK120.out 2; have hfz15_3 := blk_frozen BK120.out 3; have hfz15_4 := blk_frozen BK120.out 4; have hfz15_5 := blk_frozen BK120.out 5) | ((with_reducible refine gate_callee (f := 49) rfl ?_); refine goesL_ (some 21) rfl rfl Tryd.func49 (by kernel_rfl) rfl #[.agg #[.slice A119_0 ((rd_T43 l0_5 x15_1).f0).length c119_0, .int .u8 ((rd_T43 l0_5 x15_1).f1.f0), .int .i64 ((rd_T43 l0_5 x15_1).f1.f1), .int .i64 ((rd_T43 l0_5 x15_1).f1.f2.f0), .int .i64 ((rd_T43 l0_5 x15_1).f1.f2.f1), .int .u8 ((rd_T43 l0_5 x15_1).f1.f3)]] rfl (by (try simp only [List.map_toArray, List.map_cons, List.map_nil]); first | done | rfl | (simp only [List.length_drop, List.length_take]; rfl)) ?_; (with_reducible refine (graph_Next.calls _ _ ((rd_T43 l0_5 x15_1).f0) ((rd_T43 l0_5 x15_1).f1.f0) ((rd_T43 l0_5 x15_1).f1.f1) ((rd_T43 l0_5 x15_1).f1.f2.f0) ((rd_T43 l0_5 x15_1).f1.f2.f1) ((rd_T43 l0_5 x15_1).f1.f3) t121 _ ?side1 ?side2 A12.out).mono ?_); (case side1 => exact Kd.C_below HR119_0.out (by repeat (first | (with_reducible first | exact HB.out | apply below_alloc | apply pw_below_drewN | apply below_drew1 | refine below_set ?_ GE115.out | refine below_set ?_ GE120.out) | exact HB.out))); (case side2 => exact HC119_0.out); rintro e w16 ⟨v122, rfl, ho0, hb⟩; refine ⟨_, rfl, ?_⟩; have n0_ := Aside0.mk (Kd.S_elder' (by (with_reducible repeat (first | apply Kd.S_alloc | apply Kd.S_drewN | apply Kd.S_drew)); exact (Kd.S_mono (Kd.S_far (p := ⟨gb120, 5, none⟩) (Kd.S_far (p := ⟨gb120, 4, none⟩) (Kd.S_far (p := ⟨gb120, 3, none⟩) (Kd.S_far (p := ⟨gb120, 2, none⟩) (Kd.S_far (p := ⟨gb120, 1, none⟩) (Kd.S_far (p := ⟨gb120, 0, none⟩) (Kd.S_types HO_3.out BK120.out (by decide)) (fun _ hk => hk.2) (.slice A119_0 ((rd_T43 l0_5 x15_1).f0).length c119_0)) (fun _ hk => hk.2) (.int .u8 ((rd_T43 l0_5 x15_1).f1.f0))) (fun _ hk => hk.2) (.int .i64 ((rd_T43 l0_5 x15_1).f1.f1))) (fun _ hk => hk.2) (.int .i64 ((rd_T43 l0_5 x15_1).f1.f2.f0))) (fun _ hk => hk.2) (.int .i64 ((rd_T43 l0_5 x15_1).f1.f2.f1))) (fun _ hk => hk.2) (.int .u8 ((rd_T43 l0_5 x15_1).f1.f3))) (fun _ h_ => h_.1))) (Kd.R_base ho0) hb); have n1_ := Aside0.mk (Kd.R_lower ho0 (below_size (by repeat (first | (with_reducible first | exact HB.out | apply below_alloc | apply pw_below_drewN | apply below_drew1 | refine below_set ?_ GE115.out | refine below_set ?_ GE120.out) | exact HB.out)))); have n2_ := Aside0.mk (blk_below (g := gb115) (o := .cells #[.string a0_0, .slice A0_1 l0_1.length c0_1, .int .u8 a0_2, .slice A0_3 l0_3.length c0_3, .slice A0_4 l0_4.length c0_4, .slice (some ad119) l0_5.length c0_5] 28 (0, 0)) (by (with_reducible repeat (first | refine blk_drewN ?_ _ | refine blk_drew ?_ | refine blk_alloc ?_ _)); refine blk_far ?_ NB115_120.out _; (with_reducible repeat (first | refine blk_drewN ?_ _ | refine blk_drew ?_ | refine blk_alloc ?_ _)); refine blk_far ?_ NB115_120.out _; (with_reducible repeat (first | refine blk_drewN ?_ _ | refine blk_drew ?_ | refine blk_alloc ?_ _)); refine blk_far ?_ NB115_120.out _; (with_reducible repeat (first | refine blk_drewN ?_ _ | refine blk_drew ?_ | refine blk_alloc ?_ _)); refine blk_far ?_ NB115_120.out _; (with_reducible repeat (first | refine blk_drewN ?_ _ | refine blk_drew ?_ | refine blk_alloc ?_ _)); refine blk_far ?_ NB115_120.out _; (with_reducible repeat (first | refine blk_drewN ?_ _ | refine blk_drew ?_ | refine blk_alloc ?_ _)); refine blk_far ?_ NB115_120.out _; (with_reducible repeat (first | refine blk_drewN ?_ _ | refine blk_drew ?_ | refine blk_alloc ?_ _)); exact BK115.out) hb); have n3_ := Aside0.mk (blk_below (g := gb120) (o := .cells #[.slice A119_0 ((rd_T43 l0_5 x15_1).f0).length c119_0, .int .u8 ((rd_T43 l0_5 x15_1).f1.f0), .int .i64 ((rd_T43 l0_5 x15_1).f1.f1), .int .i64 ((rd_T43 l0_5 x15_1).f1.f2.f0), .int .i64 ((rd_T43 l0_5 x15_1).f1.f2.f1), .int .u8 ((rd_T43 l0_5 x15_1).f1.f3)] 43 (0, 0)) (by (with_reducible repeat (first | refine blk_drewN ?_ _ | refine blk_drew ?_ | refine blk_alloc ?_ _)); refine blk_put (cs := #[.slice A119_0 ((rd_T43 l0_5 x15_1).f0).length c119_0, .int .u8 ((rd_T43 l0_5 x15_1).f1.f0), .int .i64 ((rd_T43 l0_5 x15_1).f1.f1), .int .i64 ((rd_T43 l0_5 x15_1).f1.f2.f0), .int .i64 ((rd_T43 l0_5 x15_1).f1.f2.f1), .int .u8 0]) ?_ 5 _ rfl; (with_reducible repeat (first | refine blk_drewN ?_ _ | refine blk_drew ?_ | refine blk_alloc ?_ _)); refine blk_put (cs := #[.slice A119_0 ((rd_T43 l0_5 x15_1).f0).length c119_0, .int .u8 ((rd_T43 l0_5 x15_1).f1.f0), .int .i64 ((rd_T43 l0_5 x15_1).f1.f1), .int .i64 ((rd_T43 l0_5 x15_1).f1.f2.f0), .int .i64 0, .int .u8 0]) ?_ 4 _ rfl; (with_reducible repeat (first | refine blk_drewN ?_ _ | refine blk_drew ?_ | refine blk_alloc ?_ _)); refine blk_put (cs := #[.slice A119_0 ((rd_T43 l0_5 x15_1).f0).length c119_0, .int .u8 ((rd_T43 l0_5 x15_1).f1.f0), .int .i64 ((rd_T43 l0_5 x15_1).f1.f1), .int .i64 0, .int .i64 0, .int .u8 0]) ?_ 3 _ rfl; (with_reducible repeat (first | refine blk_drewN ?_ _ | refine blk_drew ?_ | refine blk_alloc ?_ _)); refine blk_put (cs := #[.slice A119_0 ((rd_T43 l0_5 x15_1).f0).length c119_0, .int .u8 ((rd_T43 l0_5 x15_1).f1.f0), .int .i64 0, .int .i64 0, .int .i64 0, .int .u8 0]) ?_ 2 _ rfl; (with_reducible repeat (first | refine blk_drewN ?_ _ | refine blk_drew ?_ | refine blk_alloc ?_ _)); refine blk_put (cs := #[.slice A119_0 ((rd_T43 l0_5 x15_1).f0).length c119_0, .int .u8 0, .int .i64 0, .int .i64 0, .int .i64 0, .int .u8 0]) ?_ 1 _ rfl; (with_reducible repeat (first | refine blk_drewN ?_ _ | refine blk_drew ?_ | refine blk_alloc ?_ _)); refine blk_put (cs := #[.slice none 0 0, .int .u8 0, .int .i64 0, .int .i64 0, .int .i64 0, .int .u8 0]) ?_ 0 _ rfl; (with_reducible repeat (first | refine blk_drewN ?_ _ | refine blk_drew ?_ | refine blk_alloc ?_ _)); exact BK120.out) hb); have n4_ := Aside0.mk (below_step (by repeat (first | (with_reducible first | exact HB.out | apply below_alloc | apply pw_below_drewN | apply below_drew1 | refine below_set ?_ GE115.out | refine below_set ?_ GE120.out) | exact HB.out)) hb); clear HO_3; clear BK115; clear BK120; clear HB; have HO_3 := n0_; have HO123 := n1_; have BK115 := n2_; have BK120 := n3_; have HB := n4_; clear n0_ n1_ n2_ n3_ n4_; (try clear hb); (try clear hb2); (try clear hk); (try clear hi); (try clear ho0); obtain ⟨Ao17, co17, eo17⟩ := Kd.R_slice HO123.out; subst eo17))
        go_loopg [23] k1 (fun kq v23 w' => ∃ (x3_2 : List (List Int)) (x23_2 : Int), v23 = .int .i64 x23_2 ∧ Aside0 (graph_Ahead.l1 kq x3_2 x15_1 l0_5 (l0_5.length : Int) x15_1 t121 (t121.length : Int) x23_2 = some r) ∧ Aside0 (kq ≤ k1) ∧ Aside0 (Kd.S (Kd.slice 3 (Kd.int .i64)) 22 w' w.heap.size (fun k_ => some k_ ≠ ((.slice Ao17 t121.length co17) : Value).ownBlock) v117 x3_2) ∧ Aside0 (Kd.R (Kd.int .i64) 3 w' w.heap.size (fun _ => True) (.slice Ao17 t121.length co17) t121) ∧ Aside0 (w'.heap[gb115]? = some (.cells #[.string a0_0, (.slice A0_1 l0_1.length c0_1), .int .u8 a0_2, (.slice A0_3 l0_3.length c0_3), (.slice A0_4 l0_4.length c0_4), (.slice (some ad119) l0_5.length c0_5)] 28 (0, 0))) ∧ Aside0 (w'.heap[gb120]? = some (.cells #[(.slice A119_0 ((rd_T43 l0_5 x15_1).f0).length c119_0), .int .u8 ((rd_T43 l0_5 x15_1).f1.f0), .int .i64 ((rd_T43 l0_5 x15_1).f1.f1), .int .i64 ((rd_T43 l0_5 x15_1).f1.f2.f0), .int .i64 ((rd_T43 l0_5 x15_1).f1.f2.f1), .int .u8 ((rd_T43 l0_5 x15_1).f1.f3)] 43 (0, 0))) ∧ Aside0 (Below w.heap.size w w'))
        case atStart => exact ⟨(x3_1), (0), (by first | rfl | (simp; done) | (simp [*]; done)), H', ⟨Nat.le_refl _⟩, ⟨by (with_reducible repeat (first | apply Kd.S_alloc | apply Kd.S_drewN | apply Kd.S_drew)); exact Kd.S_mono HO_3.out (fun _ hk => hk.2)⟩, ⟨by (with_reducible repeat (first | apply Kd.R_alloc | apply Kd.R_drewN | apply Kd.R_drew)); exact HO123.out⟩, ⟨by (with_reducible repeat (first | refine blk_drewN ?_ _ | refine blk_drew ?_ | refine blk_alloc ?_ _)); exact BK115.out⟩, ⟨by (with_reducible repeat (first | refine blk_drewN ?_ _ | refine blk_drew ?_ | refine blk_alloc ?_ _)); exact BK120.out⟩, ⟨by repeat (first | (with_reducible first | exact HB.out | apply below_alloc | apply pw_below_drewN | apply below_drew1 | refine below_set ?_ GE115.out | refine below_set ?_ GE120.out) | exact HB.out)⟩⟩
        case round =>
         clear H'
         try clear c1
         try clear p1
         try clear q1
         try clear hx1
         try clear c2
         try clear c2b0
         try clear c2b1
         try clear p2
         try clear c3
         try clear c3b0
         try clear c3b1
         try clear c4
         try clear c9
         try clear c9b0
         try clear c10
         try clear c10b0
         try clear c11
         try clear c11b0
         try clear p11
         try clear q11
         try clear hx11
         try clear c14
         try clear hcz15_0
         try clear hcz15_1
         try clear hcz15_2
         try clear hcz15_3
         try clear hcz15_4
         try clear hcz15_5
         try clear hcz5_0
         try clear hcz5_1
         try clear hcz5_2
         try clear hcz5_3
         try clear hcz5_4
         try clear hcz5_5
         try clear hcz8_0
         try clear hcz8_1
         try clear hcz8_2
         try clear hcz8_3
         try clear hcz8_4
         try clear hcz8_5
         try clear hfz15_0
         try clear hfz15_1
         try clear hfz15_2
         try clear hfz15_3
         try clear hfz15_4
         try clear hfz15_5
         try clear hfz5_0
         try clear hfz5_1
         try clear hfz5_2
         try clear hfz5_3
         try clear hfz5_4
         try clear hfz5_5
         try clear hfz8_0
         try clear hfz8_1
         try clear hfz8_2
         try clear hfz8_3
         try clear hfz8_4
         try clear hfz8_5
         try clear hx119_0
         try clear hx119_1
         try clear hx119_2
         try clear hx119_3
         try clear hx119_4
         try clear hx119_5
         try clear p119
         try clear p2
         try clear q119
         obtain ⟨x3_2, x23_2, rfl, HA, HK2, HO_3, HO_21, BK115, BK120, HB⟩ := hrel
         cases gk with
         | zero => exact absurd HA.out (by simp [graph_Ahead.l1])
         | succ k2 =>
          have H := HA.out
          clear HA
          simp only [graph_Ahead.l1] at H
          by_cases c18 : x23_2 < (t121.length : Int)
          ·
           rw [if_pos c18] at H
           have c18b0 : decide (x23_2 < (t121.length : Int)) = true := decide_eq_true c18
           clear c18
           by_cases c19 : 0 ≤ x23_2
           ·
            rw [if_pos c19] at H
            have c19b0 : decide (0 ≤ x23_2) = true := decide_eq_true c19
            clear c19
            by_cases c20 : x23_2 < (t121.length : Int)
            ·
             rw [if_pos c20] at H
             have c20b0 : decide (x23_2 < (t121.length : Int)) = true := decide_eq_true c20
             clear c20
             replace H := Option.bind_eq_some_iff.mp H
             obtain ⟨t125, A210, H⟩ := H
             replace H : (if t125 = true then (if 0 ≤ (rd t121 x23_2) then (if (rd t121 x23_2) < (x3_2.length : Int) then (if (rd_L2 x3_2 (rd t121 x23_2)).length < 17592186044416 then (graph_Ahead.l1 k2 (x3_2.set ((rd t121 x23_2) : Int).toNat ((rd_L2 x3_2 (rd t121 x23_2)) ++ [x15_1])) x15_1 l0_5 (l0_5.length : Int) x15_1 t121 (t121.length : Int) (wrap64 (x23_2 + 1))) else (none)) else (none)) else (none)) else (graph_Ahead.l1 k2 x3_2 x15_1 l0_5 (l0_5.length : Int) x15_1 t121 (t121.length : Int) (wrap64 (x23_2 + 1)))) = some r := H
             have A21 := Aside0.mk A210
             clear A210
             have HF22 := Aside0.mk H
             clear H
             have p124 : 0 ≤ (x23_2 : Int) := of_decide_eq_true (by first | (with_reducible assumption) | assumption)
             have q124 : x23_2 < (t121.length : Int) := of_decide_eq_true (by first | (with_reducible assumption) | assumption)
             obtain ⟨ad124, e124, hx124_0⟩ := Kd.at_int (Kd.R_reads' HO_21.out).2.2 x23_2 p124 q124
             cases e124
             replace p124 := eq_true p124
             replace q124 := eq_true q124
             obtain ⟨Ao23, co23, eo23⟩ := Kd.S_slice HO_3.out
             subst eo23
             go_upto_if 30 with (first | ((with_reducible refine gate_callee (f := 55) rfl ?_); refine goesL_ (some 30) rfl rfl Tryd.func55 (by kernel_rfl) rfl #[.int .i64 (rd t121 x23_2), .int .i64 (x3_2.length : Int)] rfl (by (try simp only [List.map_toArray, List.map_cons, List.map_nil]); first | done | rfl | (simp only [List.length_drop, List.length_take]; rfl)) ?_; (with_reducible refine (graph_in.calls (rd t121 x23_2) (x3_2.length : Int) t125 _ A21.out).mono ?_); rintro e w' ⟨rfl, ⟨nd, rfl⟩⟩; refine ⟨_, rfl, ?_⟩))
             (try simp only [Act.put, List.setIfInBounds_toArray, List.set_cons_zero, List.set_cons_succ])
             have H := HF22.out
             clear HF22
             by_cases c24 : t125 = true
             ·
              subst c24
              have H1 : (if 0 ≤ (rd t121 x23_2) then (if (rd t121 x23_2) < (x3_2.length : Int) then (if (rd_L2 x3_2 (rd t121 x23_2)).length < 17592186044416 then (graph_Ahead.l1 k2 (x3_2.set ((rd t121 x23_2) : Int).toNat ((rd_L2 x3_2 (rd t121 x23_2)) ++ [x15_1])) x15_1 l0_5 (l0_5.length : Int) x15_1 t121 (t121.length : Int) (wrap64 (x23_2 + 1))) else (none)) else (none)) else (none)) = some r := by rw [if_pos rfl] at H; exact H
              clear H
              have H := H1
              clear H1
              by_cases c25 : 0 ≤ (rd t121 x23_2)
              ·
               rw [if_pos c25] at H
               have c25b0 : decide (0 ≤ (rd t121 x23_2)) = true := decide_eq_true c25
               clear c25
               by_cases c26 : (rd t121 x23_2) < (x3_2.length : Int)
               ·
                rw [if_pos c26] at H
                have c26b0 : decide ((rd t121 x23_2) < (x3_2.length : Int)) = true := decide_eq_true c26
                clear c26
                by_cases c27 : (rd_L2 x3_2 (rd t121 x23_2)).length < 17592186044416
                ·
                 rw [if_pos c27] at H
                 have LMc27 := Aside0.mk c27
                 clear c27
                 obtain ⟨y127, hy127⟩ : ∃ y_ : List Int, y_ = ((rd_L2 x3_2 (rd t121 x23_2)) ++ [x15_1]) := ⟨_, rfl⟩
                 replace H : (graph_Ahead.l1 k2 (x3_2.set ((rd t121 x23_2) : Int).toNat y127) x15_1 l0_5 (l0_5.length : Int) x15_1 t121 (t121.length : Int) (wrap64 (x23_2 + 1))) = some r := by first | (rw [hy127]; with_reducible exact H) | (have H2_ := (Option.bind_some _ _).symm.trans H; rw [hy127]; with_reducible exact H2_) | (have H2_ := (Option.bind_some _ _).symm.trans H; with_reducible exact H2_) | with_reducible exact H | (rw [hy127]; exact H) | exact H
                 have Ny127 := Aside0.mk hy127
                 clear hy127
                 obtain ⟨y130, hy130⟩ : ∃ y_ : List (List Int), y_ = (x3_2.set ((rd t121 x23_2) : Int).toNat y127) := ⟨_, rfl⟩
                 replace H : (graph_Ahead.l1 k2 y130 x15_1 l0_5 (l0_5.length : Int) x15_1 t121 (t121.length : Int) (wrap64 (x23_2 + 1))) = some r := by first | (rw [hy130]; with_reducible exact H) | (have H2_ := (Option.bind_some _ _).symm.trans H; rw [hy130]; with_reducible exact H2_) | (have H2_ := (Option.bind_some _ _).symm.trans H; with_reducible exact H2_) | with_reducible exact H | (rw [hy130]; exact H) | exact H
                 have Ny130 := Aside0.mk hy130
                 clear hy130
                 have H' := Aside0.mk H
                 clear H
                 have p126 : 0 ≤ ((rd t121 x23_2) : Int) := of_decide_eq_true (by first | (with_reducible assumption) | assumption)
                 have q126 : (rd t121 x23_2) < (x3_2.length : Int) := of_decide_eq_true (by first | (with_reducible assumption) | assumption)
                 obtain ⟨ad126, A126_0, c126_0, e126, hx126_0, hl126_0, hi126_0⟩ := at_L2 (Kd.S_reads' HO_3.out).2.2 (rd t121 x23_2) p126 q126
                 cases e126
                 obtain ⟨ce126, hce126, hMe126, hcc126⟩ := Kd.S_get HO_3.out [] (rd t121 x23_2) p126 (by first | exact q126 | exact of_decide_eq_true (by first | (with_reducible assumption) | assumption) | (have e_ := (Kd.S_reads' HO_3.out).1; omega))
                 obtain ⟨ve126_0, rfl, ge126_0⟩ := hMe126
                 have hv126_0 := hcc126 0 _ rfl
                 rw [Nat.add_zero, show ((Kd.slice 3 (Kd.int .i64))).sz = 1 from rfl, Nat.mul_one] at hv126_0
                 replace hv126_0 := Option.some.inj (hv126_0.symm.trans hx126_0)
                 rw [hv126_0] at ge126_0
                 have HL126_0 := Aside0.mk (show Kd.R (Kd.int .i64) 3 _ _ _ _ (rd_L2 x3_2 (rd t121 x23_2)) from ge126_0)
                 clear hv126_0 ge126_0
                 have HX126_0 := Aside0.mk hx126_0
                 clear hcc126 hce126
                 have HR126_0 := Aside0.mk hi126_0
                 have HC126_0 := Aside0.mk hl126_0
                 clear hi126_0 hl126_0
                 replace p126 := eq_true p126
                 replace q126 := eq_true q126
                 obtain ⟨go29, co29, eo29, gb29, gl29, cl29, HG29⟩ := Kd.S_form HO_3.out (by have h_ : ((rd t121 x23_2) : Int) < ((x3_2.length : Int) : Int) := of_decide_eq_true (by first | (with_reducible assumption) | assumption); have h2_ : 0 ≤ ((rd t121 x23_2) : Int) := (of_decide_eq_true (by first | (with_reducible assumption) | assumption)); omega)
                 (first | cases eo29 | (injection eo29 with ea_ en_ ec_; (first | subst ea_ | (injection ea_ with ea_; subst ea_)); subst ec_; clear en_))
                 have GB29 := Aside0.mk gb29
                 have GG29 := Aside0.mk HG29
                 clear gb29 gl29 HG29
                 (first | simp only [add_plain] at hx126_0 | skip)
                 obtain ⟨oki29, ce29, hcl29, hM29, hcc29, _, _, hH29⟩ := Kd.S_elem HO_3.out [] ((rd t121 x23_2) : Int) (of_decide_eq_true (by first | (with_reducible assumption) | assumption)) (by have h_ : ((rd t121 x23_2) : Int) < ((x3_2.length : Int) : Int) := of_decide_eq_true (by first | (with_reducible assumption) | assumption); first | exact h_ | (have e_ := (Kd.S_reads' HO_3.out).1; omega) | simpa using h_)
                 obtain ⟨ve29_0, rfl, ge29_0⟩ := hM29
                 have hv29 := hcc29 0 _ rfl
                 have hX29 := HX126_0.out
                 (try simp only [add_plain] at hX29)
                 (try simp only [Nat.add_zero] at hv29)
                 (try rw [show ((Kd.slice 3 (Kd.int .i64))).sz = 1 from rfl, Nat.mul_one] at hv29)
                 replace hv29 := Option.some.inj (hv29.symm.trans hX29)
                 subst hv29
                 clear hX29 hcc29 hcl29
                 have UU29 := Aside0.mk (show Kd.R (Kd.int .i64) 3 _ w.heap.size oki29 (.slice A126_0 (rd_L2 x3_2 (rd t121 x23_2)).length c126_0) (rd_L2 x3_2 (rd t121 x23_2)) from ge29_0)
                 have HH29 := Aside0.mk hH29
                 have HN29 := Aside0.mk (Kd.S_reads' HO_3.out).1
                 clear hH29 ge29_0
                 go_wp2_with (first | ((with_reducible refine gate_builtin (b := .append) (xs := #[.tmp 36, .tmp 38]) rfl ?_); at_builtin; refine Kd.R_append (Kd.int .i64) (w0 := w) w.heap.size rfl (.tmp 36) (.tmp 38) 22 3 (.int .i64 0) 8 rfl Tryd.underlying22 info3 rfl (by decide) (by omega) (.slice A126_0 (rd_L2 x3_2 (rd t121 x23_2)).length c126_0) (rd_L2 x3_2 (rd t121 x23_2)) x15_1 [.int .i64 x15_1] (fun k_ => oki29 k_ ∨ ((fun k_ => some k_ ≠ (.slice (some ad124) t121.length co17 : Value).ownBlock)) k_ ∧ wr.heap.size ≤ k_) (fun _ => False) rfl rfl ?aP (fun _ hk => hk.elim) ?aF ?aO ?aB ?aS ?aL ?_; (case aP => exact rfl); (case aB => exact (by repeat (first | (with_reducible first | exact HB.out | apply below_alloc | apply pw_below_drewN | apply below_drew1 | refine below_set ?_ GE115.out | refine below_set ?_ GE120.out) | exact HB.out))); (case aF => exact (fun k_ hk => .inr ⟨Kd.fresh' (Kd.R_lt (by (with_reducible repeat (first | apply Kd.R_alloc | apply Kd.R_drewN | apply Kd.R_drew)); exact HO_21.out)) k_ hk, hk⟩)); (case aO => exact (by (with_reducible repeat (first | apply Kd.R_alloc | apply Kd.R_drewN | apply Kd.R_drew)); exact Kd.R_mono UU29.out (fun _ hk => .inl hk))); (case aS => exact (below_size (by repeat (first | (with_reducible first | exact HB.out | apply below_alloc | apply pw_below_drewN | apply below_drew1 | refine below_set ?_ GE115.out | refine below_set ?_ GE120.out) | exact HB.out)))); (case aL => have := LMc27.out; omega); intro v128 w30 ho hb hg hat; rw [← Ny127.out] at ho; have n0_ := Aside0.mk (Kd.R_grown2 (by (with_reducible repeat (first | apply Kd.R_alloc | apply Kd.R_drewN | apply Kd.R_drew)); exact HO_21.out) rfl hg (fun k_ e_ => (HL126_0.out.1 k_ e_).1)); have n1_ := Aside0.mk (blk_grown (g := gb115) (o := .cells #[.string a0_0, .slice A0_1 l0_1.length c0_1, .int .u8 a0_2, .slice A0_3 l0_3.length c0_3, .slice A0_4 l0_4.length c0_4, .slice (some ad119) l0_5.length c0_5] 28 (0, 0)) (by (with_reducible repeat (first | refine blk_drewN ?_ _ | refine blk_drew ?_ | refine blk_alloc ?_ _)); exact BK115.out) hg (Kd.R_ne HL126_0.out BK115.out (by decide))); have n2_ := Aside0.mk (blk_grown (g := gb120) (o := .cells #[.slice A119_0 ((rd_T43 l0_5 x15_1).f0).length c119_0, .int .u8 ((rd_T43 l0_5 x15_1).f1.f0), .int .i64 ((rd_T43 l0_5 x15_1).f1.f1), .int .i64 ((rd_T43 l0_5 x15_1).f1.f2.f0), .int .i64 ((rd_T43 l0_5 x15_1).f1.f2.f1), .int .u8 ((rd_T43 l0_5 x15_1).f1.f3)] 43 (0, 0)) (by (with_reducible repeat (first | refine blk_drewN ?_ _ | refine blk_drew ?_ | refine blk_alloc ?_ _)); exact BK120.out) hg (Kd.R_ne HL126_0.out BK120.out (by decide))); have n3_ := Aside0.mk (hb); have n4_ := Aside0.mk (Kd.H_grown (Kd.H_widen (by repeat (first | exact HH29.out | refine Kd.H_alloc ?_ _ | refine Kd.H_drewN ?_ _ | refine Kd.H_drew ?_))) hg (fun k_ e_ => .inl (UU29.out.1 k_ e_))); have n5_ := Aside0.mk (ho); clear HO_21; clear BK115; clear BK120; clear HB; clear HH29; clear HO_3; clear UU29; clear HL126_0; have HO_21 := n0_; have BK115 := n1_; have BK120 := n2_; have HB := n3_; have HH29 := n4_; have HO129 := n5_; clear n0_ n1_ n2_ n3_ n4_ n5_; clear ho hb hg hat; have p28 : 0 ≤ ((rd t121 x23_2) : Int) := of_decide_eq_true (by first | (with_reducible assumption) | assumption); have q28 : ((rd t121 x23_2) : Int) < ((x3_2.length : Int) : Int) := of_decide_eq_true (by first | (with_reducible assumption) | assumption); replace p28 := eq_true p28; replace q28 := eq_true q28; obtain ⟨Ao33, co33, eo33⟩ := Kd.R_slice HO129.out; subst eo33; obtain ⟨_, _, hraw31, _, _, hcc31, _⟩ := Kd.H_raw HH29.out (of_decide_eq_true (by first | (with_reducible assumption) | assumption)) (by have h_ : ((rd t121 x23_2) : Int) < ((x3_2.length : Int) : Int) := of_decide_eq_true (by first | (with_reducible assumption) | assumption); first | exact h_ | (have e_ := (HN29.out); omega) | simpa using h_); obtain ⟨_, hfr31⟩ := Kd.H_at HH29.out (of_decide_eq_true (by first | (with_reducible assumption) | assumption)) (by have h_ : ((rd t121 x23_2) : Int) < ((x3_2.length : Int) : Int) := of_decide_eq_true (by first | (with_reducible assumption) | assumption); first | exact h_ | (have e_ := (HN29.out); omega) | simpa using h_); have hx31_0 := hcc31 0 _ rfl; have hf31_0 := hfr31 0; (try simp only [Nat.add_zero] at hx31_0 hf31_0); (try rw [show ((Kd.slice 3 (Kd.int .i64))).sz = 1 from rfl, Nat.mul_one] at hx31_0); (try rw [show ((Kd.slice 3 (Kd.int .i64))).sz = 1 from rfl, Nat.mul_one] at hf31_0); have HP31 := Kd.S_seg0 HH29.out (of_decide_eq_true (by first | (with_reducible assumption) | assumption)) (by have h_ : ((rd t121 x23_2) : Int) < ((x3_2.length : Int) : Int) := of_decide_eq_true (by first | (with_reducible assumption) | assumption); first | exact h_ | (have e_ := (HN29.out); omega) | simpa using h_) (seg := [.slice Ao33 y127.length co33]) (j := 0) (show 1 ≤ 1 from by decide) (x' := y127) (Kd.M_row HO129.out) (fun _ hk => hk); (try simp only [show ((Kd.slice 3 (Kd.int .i64))).sz = 1 from rfl, Nat.mul_one, Nat.add_zero] at HP31); clear hcc31 hfr31) | ((with_reducible refine gate_store (t := 22) (p := 40) rfl ?_); refine store_event (t := 22) (p := 40) (v := ?vo_w32) (w1 := (w30.setCell ⟨go29, ((rd t121 x23_2) : Int).toNat, none⟩ (.slice Ao33 y127.length co33))) ?hg ?ho ?hn ?hr ?_; (case ho => rfl); (case hg => rfl); (case hn => rfl); (case hr => first | (go_simp; done) | (go_simp; rfl)); intro w32 hw; have hg : w30.grownBy w32 (some go29) := (by rw [hw]; exact HP31.2); have hp_ : Kd.S (Kd.slice 3 (Kd.int .i64)) 22 w32 w.heap.size (fun k_ => some k_ ≠ (.slice (some ad124) t121.length co17 : Value).ownBlock) (.slice (some ⟨go29, 0, none⟩) x3_2.length co23) y130 := (by rw [hw, Ny130.out]; exact HP31.1); clear HP31; have n0_ := Aside0.mk (Kd.R_over' (v := (.slice (some ⟨go29, 0, none⟩) x3_2.length co23)) (by (with_reducible repeat (first | apply Kd.R_alloc | apply Kd.R_drewN | apply Kd.R_drew)); exact HO_21.out) (Kd.R_typed hraw31) (by decide) hg); have n1_ := Aside0.mk (blk_grown (g := gb115) (o := .cells #[.string a0_0, .slice A0_1 l0_1.length c0_1, .int .u8 a0_2, .slice A0_3 l0_3.length c0_3, .slice A0_4 l0_4.length c0_4, .slice (some ad119) l0_5.length c0_5] 28 (0, 0)) (by (with_reducible repeat (first | refine blk_drewN ?_ _ | refine blk_drew ?_ | refine blk_alloc ?_ _)); exact BK115.out) hg (Kd.R_ne hraw31 BK115.out (by decide))); have n2_ := Aside0.mk (blk_grown (g := gb120) (o := .cells #[.slice A119_0 ((rd_T43 l0_5 x15_1).f0).length c119_0, .int .u8 ((rd_T43 l0_5 x15_1).f1.f0), .int .i64 ((rd_T43 l0_5 x15_1).f1.f1), .int .i64 ((rd_T43 l0_5 x15_1).f1.f2.f0), .int .i64 ((rd_T43 l0_5 x15_1).f1.f2.f1), .int .u8 ((rd_T43 l0_5 x15_1).f1.f3)] 43 (0, 0)) (by (with_reducible repeat (first | refine blk_drewN ?_ _ | refine blk_drew ?_ | refine blk_alloc ?_ _)); exact BK120.out) hg (Kd.R_ne hraw31 BK120.out (by decide))); have n3_ := Aside0.mk ((by rw [hw]; exact below_set HB.out GB29.out : Below w.heap.size w w32)); have n4_ := Aside0.mk (hp_); clear HO_21; clear BK115; clear BK120; clear HB; clear HO129; clear HH29; have HO_21 := n0_; have BK115 := n1_; have BK120 := n2_; have HB := n3_; have HO_3 := n4_; clear n0_ n1_ n2_ n3_ n4_; clear hg hw hp_ hraw31))
                 go_roundg k2
                 case measure => have := HK1.out; have := HK2.out; omega
                 case rel => exact ⟨(y130), (wrap64 (x23_2 + 1)), (by first | rfl | (simp; done) | (simp [*]; done)), H', ⟨by have := HK1.out; have := HK2.out; omega⟩, ⟨by (with_reducible repeat (first | apply Kd.S_alloc | apply Kd.S_drewN | apply Kd.S_drew)); exact HO_3.out⟩, ⟨by (with_reducible repeat (first | apply Kd.R_alloc | apply Kd.R_drewN | apply Kd.R_drew)); exact HO_21.out⟩, ⟨by (with_reducible repeat (first | refine blk_drewN ?_ _ | refine blk_drew ?_ | refine blk_alloc ?_ _)); exact BK115.out⟩, ⟨by (with_reducible repeat (first | refine blk_drewN ?_ _ | refine blk_drew ?_ | refine blk_alloc ?_ _)); exact BK120.out⟩, ⟨by repeat (first | (with_reducible first | exact HB.out | apply below_alloc | apply pw_below_drewN | apply below_drew1 | refine below_set ?_ GE115.out | refine below_set ?_ GE120.out) | exact HB.out)⟩⟩
                ·
                 rw [if_neg c27] at H
                 exact absurd H (by simp)
               ·
                rw [if_neg c26] at H
                exact absurd H (by simp)
              ·
               rw [if_neg c25] at H
               exact absurd H (by simp)
             ·
              replace c24 := Bool.eq_false_iff.mpr c24
              subst c24
              have H1 : (graph_Ahead.l1 k2 x3_2 x15_1 l0_5 (l0_5.length : Int) x15_1 t121 (t121.length : Int) (wrap64 (x23_2 + 1))) = some r := by rw [if_neg (show ¬ (false = true) by decide)] at H; exact H
              clear H
              have H := H1
              clear H1
              have H' := Aside0.mk H
              clear H
              go_wp2
              go_roundg k2
              case measure => have := HK1.out; have := HK2.out; omega
              case rel => exact ⟨(x3_2), (wrap64 (x23_2 + 1)), (by first | rfl | (simp; done) | (simp [*]; done)), H', ⟨by have := HK1.out; have := HK2.out; omega⟩, ⟨by (with_reducible repeat (first | apply Kd.S_alloc | apply Kd.S_drewN | apply Kd.S_drew)); exact HO_3.out⟩, ⟨by (with_reducible repeat (first | apply Kd.R_alloc | apply Kd.R_drewN | apply Kd.R_drew)); exact HO_21.out⟩, ⟨by (with_reducible repeat (first | refine blk_drewN ?_ _ | refine blk_drew ?_ | refine blk_alloc ?_ _)); exact BK115.out⟩, ⟨by (with_reducible repeat (first | refine blk_drewN ?_ _ | refine blk_drew ?_ | refine blk_alloc ?_ _)); exact BK120.out⟩, ⟨by repeat (first | (with_reducible first | exact HB.out | apply below_alloc | apply pw_below_drewN | apply below_drew1 | refine below_set ?_ GE115.out | refine below_set ?_ GE120.out) | exact HB.out)⟩⟩
            ·
             rw [if_neg c20] at H
             exact absurd H (by simp)
           ·
            rw [if_neg c19] at H
            exact absurd H (by simp)
          ·
           rw [if_neg c18] at H
           have c18b0 : decide (x23_2 < (t121.length : Int)) = false := decide_eq_false c18
           clear c18
           have H' := Aside0.mk H
           clear H
           go_wp2
           go_roundg k2
           case measure => have := HK1.out; have := HK2.out; omega
           case rel => exact ⟨(x3_2), (wrap64 (x15_1 + 1)), (by first | rfl | (simp; done) | (simp [*]; done)), H', ⟨by have := HK1.out; have := HK2.out; omega⟩, ⟨by (with_reducible repeat (first | apply Kd.S_alloc | apply Kd.S_drewN | apply Kd.S_drew)); exact Kd.S_mono HO_3.out (fun _ hk => trivial)⟩, ⟨by (with_reducible repeat (first | refine blk_drewN ?_ _ | refine blk_drew ?_ | refine blk_alloc ?_ _)); exact BK115.out⟩, ⟨by repeat (first | (with_reducible first | exact HB.out | apply below_alloc | apply pw_below_drewN | apply below_drew1 | refine below_set ?_ GE115.out | refine below_set ?_ GE120.out) | exact HB.out)⟩⟩
       ·
        rw [if_neg c11] at H
        exact absurd H (by simp)
      ·
       rw [if_neg c10] at H
       exact absurd H (by simp)
     ·
      rw [if_neg c9] at H
      have c9b0 : decide (x15_1 < (l0_5.length : Int)) = false := decide_eq_false c9
      clear c9
      obtain rfl := Option.some.inj H
      go_wp2
      go_ret
      exact ⟨_, by first | rfl | (simp <;> rfl) | (simp [*] <;> rfl), by (with_reducible repeat (first | apply Kd.S_alloc | apply Kd.S_drewN | apply Kd.S_drew)); exact HO_3.out, by repeat (first | (with_reducible first | exact HB.out | apply below_alloc | apply pw_below_drewN | apply below_drew1 | refine below_set ?_ GE115.out) | exact HB.out)⟩
  ·
   rw [if_neg c3] at H
   exact absurd H (by simp)
 ·
  rw [if_neg c2] at H
  exact absurd H (by simp)

end Go.Proofs.YtanhnfhpajaolaaDoor.F
/- graph.Ahead, told plainly. -/
namespace Go.Proofs.YtanhnfhpajaolaaDoor.Fo
open Go Go.RowKit Go.Proofs.YtanhnfhpajaolaaDoorW.PrintWords Go.Proofs.YtanhnfhpajaolaaDoorW.PrintLast Go.Proofs.YtanhnfhpajaolaaDoorW.PrintMore Go.Proofs.YtanhnfhpajaolaaDoor.F Go.Proofs.YtanhnfhpajaolaaDoor.Cf
set_option linter.unusedVariables false
set_option linter.unusedSimpArgs false
def nextOf (bs : List S43) (i : Nat) : List Int := nextL (rd_T43 bs i).f1.f0 (rd_T43 bs i).f1.f2.f0 (rd_T43 bs i).f1.f2.f1
def rowAt (bs : List S43) (i k : Nat) : List Int := ((List.range i).filter (fun j => decide ((k : Int) ∈ nextOf bs j))).map (fun j : Nat => (j : Int))
def aheadAt (bs : List S43) (i : Nat) : List (List Int) := (List.range bs.length).map (rowAt bs i)
def aheadL (bs : List S43) : List (List Int) := aheadAt bs bs.length
def midAt (bs : List S43) (i : Nat) (t : List Int) : List (List Int) := (List.range bs.length).map fun k => rowAt bs i k ++ if (k : Int) ∈ t then [(i : Int)] else []
theorem rowAt_len (bs : List S43) (i k : Nat) : (rowAt bs i k).length ≤ i := by
  unfold rowAt
  rw [List.length_map]
  exact Nat.le_trans (List.length_filter_le _ _) (by simp)
theorem midAt_nil (bs : List S43) (i : Nat) : midAt bs i [] = aheadAt bs i := by simp [midAt, aheadAt]
theorem midAt_all (bs : List S43) (i : Nat) : midAt bs i (nextOf bs i) = aheadAt bs (i + 1) := by
  unfold midAt aheadAt
  apply List.map_congr_left
  intro k _
  unfold rowAt
  rw [List.range_succ, List.filter_append, List.map_append]
  congr 1
  by_cases h : (k : Int) ∈ nextOf bs i <;> simp [h]
theorem midAt_len (bs : List S43) (i : Nat) (t : List Int) : (midAt bs i t).length = bs.length := by simp [midAt]
theorem next_nodup (k a b : Int) : (nextL k a b).Nodup := by
  unfold nextL
  split
  · simp
  · split
    · split
      · simp
      · rename_i h
        have : min a b ≠ max a b := by omega
        simpa using this
    · simp
theorem midAt_rd (bs : List S43) (i : Nat) (t : List Int) (x : Int) (h0 : 0 ≤ x) (h1 : x < bs.length) (hx : x ∉ t) : rd_L2 (midAt bs i t) x = rowAt bs i x.toNat := by
  unfold rd_L2 midAt
  rw [List.getD_eq_getElem?_getD, List.getElem?_map, List.getElem?_range (by omega)]
  simp [show ((x.toNat : Nat) : Int) = x by omega, hx]
theorem midAt_push (bs : List S43) (i : Nat) (t : List Int) (x : Int) (h0 : 0 ≤ x) (h1 : x < bs.length) (hx : x ∉ t) : (midAt bs i t).set x.toNat (rd_L2 (midAt bs i t) x ++ [(i : Int)]) = midAt bs i (t ++ [x]) := by
  rw [midAt_rd bs i t x h0 h1 hx]
  apply List.ext_getElem
  · simp [midAt]
  · intro j hj hj2
    have hjn : j < bs.length := by simpa [midAt] using hj2
    rw [List.getElem_set]
    split
    · rename_i e
      subst e
      simp [midAt, show ((x.toNat : Nat) : Int) = x by omega]
    · rename_i e
      have : (j : Int) ≠ x := by omega
      simp [midAt, this]
theorem midAt_skip (bs : List S43) (i : Nat) (t : List Int) (x : Int) (h : ¬ (0 ≤ x ∧ x < bs.length)) : midAt bs i (t ++ [x]) = midAt bs i t := by
  unfold midAt
  apply List.map_congr_left
  intro k hk
  have hk2 : k < bs.length := by simpa using hk
  have : (k : Int) ≠ x := by omega
  simp [this]
theorem ahead_l1 (bs : List S43) (i : Nat) (hi : i < 17592186044416) (hn : bs.length ≤ 9223372036854775807) (t : List Int) (hnd : t.Nodup) (ht : t.length ≤ 2) (d : Nat) : ∀ j k, j + d = t.length → graph_Ahead.l1 (k + d + 1) (midAt bs i (t.take j)) (i : Int) bs (bs.length : Int) (i : Int) t (t.length : Int) (j : Int) = graph_Ahead.l0 k (midAt bs i t) bs (bs.length : Int) (wrap64 ((i : Int) + 1)) := by
  induction d with
  | zero =>
    intro j k hj
    rw [show k + 0 + 1 = k + 1 from rfl, graph_Ahead.l1, if_neg (by omega), List.take_of_length_le (by omega)]
  | succ d ih =>
    intro j k hj
    have hjt : j < t.length := by omega
    rw [show k + (d + 1) + 1 = (k + d + 1) + 1 by omega]
    rw [graph_Ahead.l1, if_pos (by omega), if_pos (by omega), if_pos (by omega), rd_get _ hjt, in_some, midAt_len, wrap_small (by omega) (by omega)]
    simp only [Option.bind_some]
    have hnot : t[j] ∉ t.take j := by
      intro hm
      obtain ⟨m, hm1, hm2⟩ := List.getElem_of_mem hm
      have hmj : m < j := by simp at hm1; omega
      rw [List.getElem_take] at hm2
      have := (List.getElem_inj hnd).1 hm2
      omega
    have hih := ih (j + 1) k (by omega)
    rw [List.take_succ_eq_append_getElem hjt] at hih
    by_cases hin : 0 ≤ t[j] ∧ t[j] < (bs.length : Int)
    · have e : inB t[j] bs.length = true := by simp [inB, hin]
      rw [e, if_pos rfl, if_pos hin.1, if_pos hin.2, if_pos (by rw [midAt_rd _ _ _ _ hin.1 hin.2 hnot]; have := rowAt_len bs i t[j].toNat; omega), midAt_push _ _ _ _ hin.1 hin.2 hnot]
      rw [show ((j : Int) + 1) = ((j + 1 : Nat) : Int) by omega]
      exact hih
    · have e : inB t[j] bs.length = false := by
        unfold inB
        by_cases h0 : 0 ≤ t[j]
        · have : ¬ t[j] < (bs.length : Int) := fun h => hin ⟨h0, h⟩
          simp [this]
        · simp [h0]
      rw [e, if_neg (by decide)]
      rw [midAt_skip _ _ _ _ hin] at hih
      rw [show ((j : Int) + 1) = ((j + 1 : Nat) : Int) by omega]
      exact hih
theorem next_len (k a b : Int) : (nextL k a b).length ≤ 2 := by
  unfold nextL
  split
  · simp
  · split
    · split <;> simp
    · simp
theorem ahead_l0 (bs : List S43) (hn : bs.length ≤ 11728124029610) (d : Nat) : ∀ i k, i + d = bs.length → 4 * d < k → graph_Ahead.l0 k (aheadAt bs i) bs (bs.length : Int) (i : Int) = some (aheadL bs) := by
  induction d with
  | zero =>
    intro i k hi hk
    obtain ⟨k, rfl⟩ : ∃ m, k = m + 1 := ⟨k - 1, by omega⟩
    simp only [graph_Ahead.l0]
    obtain rfl : i = bs.length := by omega
    rw [if_neg (by omega)]
    rfl
  | succ d ih =>
    intro i k hi hk
    have hl := next_len (rd_T43 bs i).f1.f0 (rd_T43 bs i).f1.f2.f0 (rd_T43 bs i).f1.f2.f1
    obtain ⟨k, rfl⟩ : ∃ m, k = (m + (nextOf bs i).length + 1) + 1 := ⟨k - (nextOf bs i).length - 2, by unfold nextOf; omega⟩
    simp only [graph_Ahead.l0]
    rw [if_pos (by omega), if_pos (by omega), if_pos (by omega)]
    simp only [graph_Next.f, Option.bind_some]
    have h1 := ahead_l1 bs i (by omega) (by omega) (nextOf bs i) (next_nodup _ _ _) hl (nextOf bs i).length 0 k (by omega)
    rw [List.take_zero, midAt_nil, midAt_all, wrap_small (by omega) (by omega)] at h1
    have h2 := ih (i + 1) k (by omega) (by unfold nextOf at hk; omega)
    exact h1.trans h2
theorem ahead_some (a : ByteArray) (b : List Int) (c : Int) (d : List Int) (e : List S113) (bs : List S43) (hn : bs.length ≤ 11728124029610) : graph_Ahead.f (4 * bs.length + 1) a b c d e bs = some (aheadL bs) := by
  unfold graph_Ahead.f
  rw [if_pos (by omega), if_pos (by omega)]
  have h := ahead_l0 bs hn bs.length 0 (4 * bs.length + 1) (by omega) (by omega)
  rw [← h]
  congr 1
  unfold aheadAt rowAt
  apply List.ext_getElem <;> simp
theorem ahead_calls (nm : ByteArray) (A1 : Option Addr) (c1 : Nat) (ps : List Int) (res : Int) (A3 : Option Addr) (c3 : Nat) (vars : List Int) (A4 : Option Addr) (c4 : Nat) (arrs : List S113) (A5 : Option Addr) (c5 : Nat) (bs : List S43) (w : World) (hr1 : Kd.C (Kd.int .i64) w A1 ps.length ps) (hc1 : ps.length ≤ c1) (hr3 : Kd.C (Kd.int .u8) w A3 vars.length vars) (hc3 : vars.length ≤ c3) (hr4 : Kd.C k113 w A4 arrs.length arrs) (hc4 : arrs.length ≤ c4) (hr5 : Kd.C k43 w A5 bs.length bs) (hc5 : bs.length ≤ c5) (hn : bs.length ≤ 11728124029610) :
    Calls Tryd.prog 20 #[.agg #[.string nm, .slice A1 ps.length c1, .int .u8 res, .slice A3 vars.length c3, .slice A4 arrs.length c4, .slice A5 bs.length c5]] w fun e w' => ∃ v, e = .returned v ∧ Kd.S (Kd.slice 3 (Kd.int .i64)) 22 w' w.heap.size (fun _ => True) v (aheadL bs) ∧ Below w.heap.size w w' :=
  graph_Ahead.calls (4 * bs.length + 1) nm A1 c1 ps res A3 c3 vars A4 c4 arrs A5 c5 bs (aheadL bs) w hr1 hc1 hr3 hc3 hr4 hc4 hr5 hc5 (ahead_some nm ps res vars arrs bs hn)
end Go.Proofs.YtanhnfhpajaolaaDoor.Fo
