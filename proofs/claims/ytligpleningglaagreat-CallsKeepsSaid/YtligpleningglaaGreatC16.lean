/- The law CallsKeeps: for every net and every program the call returns true, and the arguments read as they did. No condition. (Texts of this proof, joined in build order: Fxf21, Aw, Ko, Op, Opr, Ckw, WSized, LawCallsKeeps.) -/
import Derived.Test.YtligpleningglaaGreatCz
import Derived.Test.YtligpleningglaaGreatC02
import Derived.Test.YtligpleningglaaGreatC07
import Derived.Test.YtligpleningglaaGreatC14
import Derived.Test.YtligpleningglaaGreatC00
import Derived.Deep.Slices
import Derived.ChangeArms
import Derived.OpenShut
import Derived.SizedLaws
import Derived.Test.YtligpleningglaaGreatC13
import Derived.Test.YtligpleningglaaGreatC09
import Derived.Test.YtligpleningglaaGreatC11
import Derived.Test.YtligpleningglaaGreatC12
import Derived.Test.YtligpleningglaaGreatC15
import Derived.ChangeSlices
import Derived.Test.YtligpleningglaaGreatRows
import Derived.WalkKit
import Derived.ProofKit
import Derived.ShutString
import Derived.ChangeOld
import Derived.Below
set_option linter.unusedVariables false
set_option linter.unusedSimpArgs false
set_option linter.unusedSectionVars false
set_option maxHeartbeats 8000000
set_option maxRecDepth 100000
namespace Go.Proofs.YtligpleningglaaGreat.F
open Go.RowKit Go.Proofs.YtligpleningglaaGreatW.PrintWords Go.Proofs.YtligpleningglaaGreatW.PrintLast Go.Proofs.YtligpleningglaaGreatW.PrintMore
attribute [local go_sem] min2_int min_two
def smithylaw19_caller.l0 : Nat → List Int → Int → List (S75) → Int → Int → Int → Int → Int → Option (ByteArray × List Int × Int × List Int × (List (S155)) × (List (S58)))
  | 0, _, _, _, _, _, _, _, _ => none
  | k + 1, x0, x4, x272000, x272001, x272002, x272003, x272004, x272005 => if x4 < (x0.length : Int) then (if 0 ≤ x4 then (if x272000.length < 2513169434916 then (smithylaw19_caller.l0 k x0 (wrap64 (x4 + 1)) (x272000 ++ [(⟨9, 0, 0, ([] : List Int), 0, rd x0 x4⟩ : S75)]) x272001 x272002 x272003 x272004 x272005) else (none)) else (none)) else (some ((⟨#[]⟩ : ByteArray), ([] : List Int), 0, ([] : List Int), ([] : List (S155)), (([(⟨([] : List (S75)), (⟨0, 0, (⟨0, 0⟩ : S53), 0⟩ : S56)⟩ : S58), (⟨x272000, (⟨x272001, x272002, (⟨x272003, x272004⟩ : S53), x272005⟩ : S56)⟩ : S58)] : List (S58)))))
def smithylaw19_caller.f (k : Nat) (l0 : List Int) : Option (ByteArray × List Int × Int × List Int × (List (S155)) × (List (S58))) := smithylaw19_caller.l0 k l0 0 ([] : List (S75)) 0 0 0 0 0
def smithylaw19_caller.T5 : Bool × List (List Nat × List Nat) := (true, [([], []), ([0], [0]), ([], []), ([], []), ([2, 3], [2, 3]), ([4], [4]), ([5], [5]), ([6], [6]), ([1, 7], [1, 7]), ([0, 1, 2, 3, 4, 5, 6, 7, 8], []), ([9, 8, 8, 0, 1, 2, 3, 4, 5, 6, 7, 8], [8, 9])])
def smithylaw19_caller.B5 : List Nat := [0, 1, 0, 0, 12, 28, 60, 124, 255, 511, 1023]
theorem smithylaw19_caller.tab5 : rtab .any (opsOf Tryz.f21 5) = smithylaw19_caller.T5 := by kernel_rfl
theorem smithylaw19_caller.bits5 : waitsOk smithylaw19_caller.T5.2 smithylaw19_caller.B5 = true := by kernel_rfl
theorem smithylaw19_caller.calls (k : Nat) (A0 : Option Addr) (c0 : Nat) (l0 : List Int) (r1 : ByteArray) (r2 : List Int) (r3 : Int) (r4 : List Int) (r5 : List (S155)) (r6 : List (S58)) (w : World) (hr0 : Kd.C (Kd.int .i64) w A0 l0.length l0) (hc0 : l0.length ≤ c0) (h : smithylaw19_caller.f k l0 = some (r1, r2, r3, r4, r5, r6)) :
    Calls Tryz.prog 21 #[.slice A0 l0.length c0] w fun e w' => ∃ v1_ v3_ v4_ v5_ : Value, e = .returned (.agg #[.string r1, v1_, .int .u8 r3, v3_, v4_, v5_]) ∧ Kd.R (Kd.int .i64) 3 w' w.heap.size (fun k_ => (w.heap.size ≤ k_)) v1_ r2 ∧ Kd.R (Kd.int .u8) 45 w' w.heap.size (fun k_ => (w.heap.size ≤ k_)) v3_ r4 ∧ Kd.R k155 155 w' w.heap.size (fun k_ => (w.heap.size ≤ k_)) v4_ r5 ∧ Kd.N k58 58 w' w.heap.size (fun k_ => (w.heap.size ≤ k_) ∧ some k_ ≠ (v1_ : Value).ownBlock ∧ some k_ ≠ (v3_ : Value).ownBlock ∧ some k_ ≠ (v4_ : Value).ownBlock) v5_ r6 ∧ Below w.heap.size w w' := by
 have hu50 := Tryz.underlying50
 have hu58 := Tryz.underlying58
 have hu75 := Tryz.underlying75
 have HR0 := qA hr0
 have HC0 := qA hc0
 clear hr0 hc0
 have HB := qA (Below.refl w.heap.size w)
 have H : (smithylaw19_caller.l0 k l0 0 ([] : List (S75)) 0 0 0 0 0) = some (r1, r2, r3, r4, r5, r6) := h
 clear h
 have H' := qA H
 clear H
 go_enter Tryz.func21, Tryz.ntmps21
 go_wp2_with (first | ((with_reducible refine gate_dst (N := 2) rfl ?_); refine box_event ?hg (N := 2) ?hd (cs := #[.string (⟨#[]⟩ : ByteArray), .slice none 0 0, .int .u8 0, .slice none 0 0, .slice none 0 0, .slice none 0 0]) (t := 50) ?hr ?_; (case hd => rfl); (case hg => rfl); (case hr => first | (go_simp; done) | (go_simp; rfl)); intro gb270 hg w2 hbox hb; have n0_ := qA (below_step cq1 hb); have n1_ := qA (hbox); have n2_ := qA ((by rw [hg]; exact (below_size cq1) : w.heap.size ≤ gb270)); have n3_ := qA ((by rw [hg]; exact (below_size cq1) : w.heap.size ≤ gb270)); clear HB; have HB := n0_; have BK270 := n1_; have GW270 := n2_; have GE270 := n3_; clear n0_ n1_ n2_ n3_; clear hb hbox hg) | ((with_reducible refine gate_dst (N := 3) rfl ?_); refine box_event ?hg (N := 3) ?hd (cs := #[.slice none 0 0, .int .u8 0, .int .i64 0, .int .i64 0, .int .i64 0, .int .u8 0]) (t := 58) ?hr ?_; (case hd => rfl); (case hg => rfl); (case hr => first | (go_simp; done) | (go_simp; rfl)); intro gb271 hg w3 hbox hb; have n0_ := qA (blk_below (g := gb270) (o := .cells #[.string (⟨#[]⟩ : ByteArray), .slice none 0 0, .int .u8 0, .slice none 0 0, .slice none 0 0, .slice none 0 0] 50 (0, 0)) cq14 hb); have n1_ := qA (below_step cq20 hb); have n2_ := qA (hbox); have n3_ := qA ((by rw [hg]; exact (below_size cq20) : w.heap.size ≤ gb271)); have n4_ := qA ((by rw [hg]; exact (below_size cq20) : w.heap.size ≤ gb271)); have n5_ := qA ((by rw [hg]; exact Nat.ne_of_lt (blk_lt (g := gb270) (o := .cells #[.string (⟨#[]⟩ : ByteArray), .slice none 0 0, .int .u8 0, .slice none 0 0, .slice none 0 0, .slice none 0 0] 50 (0, 0)) cq14) : gb270 ≠ gb271)); have n6_ := qA ((by rw [hg]; exact Nat.ne_of_gt (blk_lt (g := gb270) (o := .cells #[.string (⟨#[]⟩ : ByteArray), .slice none 0 0, .int .u8 0, .slice none 0 0, .slice none 0 0, .slice none 0 0] 50 (0, 0)) cq14) : gb271 ≠ gb270)); clear BK270; clear HB; have BK270 := n0_; have HB := n1_; have BK271 := n2_; have GW271 := n3_; have GE271 := n4_; have NB270_271 := n5_; have NB271_270 := n6_; clear n0_ n1_ n2_ n3_ n4_ n5_ n6_; clear hb hbox hg))
 go_loopg [4] k (fun kq v4 w' => ∃ (x4_1 : Int) (x272000_1 : List (S75)) (u272000 : Value), v4 = .int .i64 x4_1 ∧ Aside0 (smithylaw19_caller.l0 kq l0 x4_1 x272000_1 0 0 0 0 0 = some (r1, r2, r3, r4, r5, r6)) ∧ Aside0 (kq ≤ k) ∧ Aside0 (Kd.N k75 75 w' w.heap.size (fun k_ => (w.heap.size ≤ k_) ∧ k_ ≠ gb270 ∧ k_ ≠ gb271) u272000 x272000_1) ∧ Aside0 (w'.heap[gb270]? = some (.cells #[.string (⟨#[]⟩ : ByteArray), (.slice none 0 0), .int .u8 0, (.slice none 0 0), (.slice none 0 0), (.slice none 0 0)] 50 (0, 0))) ∧ Aside0 (w'.heap[gb271]? = some (.cells #[u272000, .int .u8 0, .int .i64 0, .int .i64 0, .int .i64 0, .int .u8 0] 58 (0, 0))) ∧ Aside0 (Below w.heap.size w w'))
 case atStart => exact ⟨(0), (([] : List (S75))), (.slice none 0 0), cq4, H', ⟨Nat.le_refl _⟩, ⟨by first | exact Kd.S_nil _ _ _ _ _ | exact Kd.N_nil _ _ _ _ _ | exact Kd.V_nil _ _ _ _ _ | exact Kd.Q_nil _ _ _ _ _ | exact Kd.R_nil _ _ _ _ _⟩, ⟨by (with_reducible repeat (first | refine blk_drewN ?_ _ | refine blk_drew ?_ | refine blk_alloc ?_ _)); exact BK270.out⟩, ⟨by (with_reducible repeat (first | refine blk_drewN ?_ _ | refine blk_drew ?_ | refine blk_alloc ?_ _)); exact BK271.out⟩, ⟨by repeat (first | (with_reducible first | exact HB.out | apply below_alloc | apply pw_below_drewN | apply below_drew1 | refine below_set ?_ GE270.out | refine below_set ?_ GE271.out) | exact HB.out)⟩⟩
 case round =>
  clear H'
  try clear c2
  try clear p2
  obtain ⟨x4_1, x272000_1, u272000, rfl, HA, HK1, HO_272000, BK270, BK271, HB⟩ := hrel
  cases gk with
  | zero => exact absurd HA.out (by simp [smithylaw19_caller.l0])
  | succ k1 =>
   have H := HA.out
   clear HA
   simp only [smithylaw19_caller.l0] at H
   by_cases c4 : x4_1 < (l0.length : Int)
   ·
    rw [if_pos c4] at H
    have c4b0 : decide (x4_1 < (l0.length : Int)) = true := decide_eq_true c4
    clear c4
    by_cases c5 : 0 ≤ x4_1
    ·
     rw [if_pos c5] at H
     have c5b0 : decide (0 ≤ x4_1) = true := decide_eq_true c5
     clear c5
     by_cases c6 : x272000_1.length < 2513169434916
     ·
      rw [if_pos c6] at H
      have LMc6 := qA c6
      clear c6
      obtain ⟨y273, hy273⟩ : ∃ y_ : List (S75), y_ = (x272000_1 ++ [(⟨9, 0, 0, ([] : List Int), 0, rd l0 x4_1⟩ : S75)]) := ⟨_, rfl⟩
      replace H : (smithylaw19_caller.l0 k1 l0 (wrap64 (x4_1 + 1)) y273 0 0 0 0 0) = some (r1, r2, r3, r4, r5, r6) := by first | (rw [hy273]; with_reducible exact H) | (have H2_ := (Option.bind_some _ _).symm.trans H; rw [hy273]; with_reducible exact H2_) | (have H2_ := (Option.bind_some _ _).symm.trans H; with_reducible exact H2_) | with_reducible exact H | (rw [hy273]; exact H) | exact H
      have Ny273 := qA hy273
      clear hy273
      have H' := qA H
      clear H
      try go_wp2
      have n0_ := qA (Kd.N_drew HO_272000.out)
      have n1_ := qA (blk_drew BK270.out)
      have n2_ := qA (blk_drew BK271.out)
      have n3_ := qA (below_drew1 HB.out)
      clear HO_272000
      clear BK270
      clear BK271
      clear HB
      have HO_272000 := n0_
      have BK270 := n1_
      have BK271 := n2_
      have HB := n3_
      clear n0_ n1_ n2_ n3_
      have p272 : 0 ≤ (x4_1 : Int) := qO cq0
      have q272 : x4_1 < (l0.length : Int) := qO cq0
      obtain ⟨ad272, e272, hx272_0⟩ := Kd.at_int HR0.out x4_1 p272 q272
      have hw272_0 := hx272_0
      cases e272
      replace hx272_0 := (HB.out.cell (World.block_lt_of_cell? w _ hx272_0)).trans hx272_0
      replace p272 := eq_true p272
      replace q272 := eq_true q272
      refine start_ (n := 11) (S := fun w' => w'.cell? ⟨gb271, 0, none⟩ = some (u272000) ∧ w'.cell? ⟨gb271, 1, none⟩ = some (.int .u8 0) ∧ w'.cell? ⟨gb271, 2, none⟩ = some (.int .i64 0) ∧ w'.cell? ⟨gb271, 3, none⟩ = some (.int .i64 0) ∧ w'.cell? ⟨gb271, 4, none⟩ = some (.int .i64 0) ∧ w'.cell? ⟨gb271, 5, none⟩ = some (.int .u8 0) ∧ w'.cell? (ad272.add (x4_1).toNat) = some (.int .i64 (rd l0 x4_1))) (ds := [10]) #[false, false, false, false, false, false, false, false, false, false, false] cq3 rfl rfl ⟨(blk_cell BK271.out 0).trans rfl, (blk_cell BK271.out 1).trans rfl, (blk_cell BK271.out 2).trans rfl, (blk_cell BK271.out 3).trans rfl, (blk_cell BK271.out 4).trans rfl, (blk_cell BK271.out 5).trans rfl, ((HB.out.cell (World.block_lt_of_cell? w _ hw272_0)).trans hw272_0)⟩ (fun hHeld => ?_); refine with_tabW smithylaw19_caller.tab5 smithylaw19_caller.bits5 (fun HT_ HW_ => ?_)
      generalize wr.drew = w7 at HO_272000 BK270 BK271 HB hx272_0 hHeld ⊢
      refine pure_ (i := 0) (N := some 11) (v := ?_) (a' := ?_) #[true, false, false, false, false, false, false, false, false, false, false] rfl rfl (any_of HT_.out cq3) (fun _ _ _ h => h) (Or.inl ⟨by rfl, ?_⟩) ?_ ?_
      rotate_left
      ·
       intro w'
       go_simp
       with_reducible rfl
      rotate_left
      ·
       simp only [Act.put, qS, qZ, qN, i64_w, i32_w]
       rfl
      refine pure_ (i := 2) (N := some 13) (v := ?_) (a' := ?_) #[true, false, true, false, false, false, false, false, false, false, false] rfl rfl (any_of HT_.out cq3) (fun _ _ _ h => h) (Or.inl ⟨by rfl, ?_⟩) ?_ ?_
      rotate_left
      ·
       intro w'
       go_simp
       with_reducible rfl
      rotate_left
      ·
       simp only [Act.put, qS, qZ, qN, i64_w, i32_w]
       rfl
      refine pure_ (i := 3) (N := some 14) (v := ?_) (a' := ?_) #[true, false, true, true, false, false, false, false, false, false, false] rfl rfl (any_of HT_.out cq3) (fun _ _ _ h => h) (Or.inl ⟨by rfl, ?_⟩) ?_ ?_
      rotate_left
      ·
       intro w'
       go_simp
       with_reducible rfl
      rotate_left
      ·
       simp only [Act.put, qS, qZ, qN, i64_w, i32_w]
       rfl
      refine pure_ (i := 4) (N := some 15) (v := ?_) (a' := ?_) #[true, false, true, true, true, false, false, false, false, false, false] rfl rfl (any_of HT_.out cq3) (fun _ _ _ h => h) (Or.inl ⟨by rfl, ?_⟩) ?_ ?_
      rotate_left
      ·
       intro w'
       go_simp
       with_reducible rfl
      rotate_left
      ·
       simp only [Act.put, qS, qZ, qN, i64_w, i32_w]
       rfl
      refine take_ (i := 1) (N := some 12) (v := ?_) (a' := ?_) #[true, true, true, true, true, false, false, false, false, false, false] rfl rfl (take_ofW HT_.out HW_.out cq3) (fun _ _ _ h => h) (Or.inl ⟨by rfl, ?_⟩) hHeld ?_ ?_
      rotate_left
      ·
       rintro w' ⟨s0, s1, s2, s3, s4, s5, s6⟩
       go_simp
       with_reducible rfl
      rotate_left
      ·
       simp only [Act.put, qS, qZ, qN, i64_w, i32_w]
       rfl
      refine take_ (i := 5) (N := some 16) (v := ?_) (a' := ?_) #[true, true, true, true, true, true, false, false, false, false, false] rfl rfl (take_ofW HT_.out HW_.out cq3) (fun _ _ _ h => h) (Or.inl ⟨by rfl, ?_⟩) hHeld ?_ ?_
      rotate_left
      ·
       rintro w' ⟨s0, s1, s2, s3, s4, s5, s6⟩
       go_simp
       with_reducible rfl
      rotate_left
      ·
       simp only [Act.put, qS, qZ, qN, i64_w, i32_w]
       rfl
      refine pure_ (i := 6) (N := some 17) (v := ?_) (a' := ?_) #[true, true, true, true, true, true, true, false, false, false, false] rfl rfl (any_of HT_.out cq3) (fun _ _ _ h => h) (Or.inl ⟨by rfl, ?_⟩) ?_ ?_
      rotate_left
      ·
       intro w'
       go_simp
       with_reducible rfl
      rotate_left
      ·
       simp only [Act.put, qS, qZ, qN, i64_w, i32_w]
       rfl
      refine one_ (i := 7) (N := some 18) #[true, true, true, true, true, true, true, true, false, false, false] rfl rfl (one_of HT_.out cq3) cq6 (fun K hK => ?_)
      refine value_ (w1 := ?_) (v := ?_) cq60 rfl ?_ ?_
      rotate_left 2
      ·
       go_simp
       constructor
       ·
        rfl
       ·
        rfl
      refine hK.out _ _ ⟨(blk_cell (blk_alloc BK271.out _) 0).trans rfl, (blk_cell (blk_alloc BK271.out _) 1).trans rfl, (blk_cell (blk_alloc BK271.out _) 2).trans rfl, (blk_cell (blk_alloc BK271.out _) 3).trans rfl, (blk_cell (blk_alloc BK271.out _) 4).trans rfl, (blk_cell (blk_alloc BK271.out _) 5).trans rfl, (World.cell?_alloc_lt _ _ _ (World.block_lt_of_cell? _ _ (((HB.out.cell (World.block_lt_of_cell? w _ hw272_0)).trans hw272_0)))).trans (((HB.out.cell (World.block_lt_of_cell? w _ hw272_0)).trans hw272_0))⟩ (fun hHeld => ?_)
      clear hK K
      refine norm_ (a' := ?_) ?_ ?_
      rotate_left
      ·
       show Act.put _ (some 18) _ = _
       simp only [Act.put, qS, qZ, qN, i64_w, i32_w]
       rfl
      refine one_ (i := 8) (N := some 19) #[true, true, true, true, true, true, true, true, true, false, false] rfl rfl (one_of HT_.out cq3) cq6 (fun K hK => ?_)
      refine Kd.N_append_step k75 (w0 := w) w.heap.size cq60 (.tmp 12) (.tmp 18) 51 75 (.agg #[(.int .u8 0), (.int .u8 0), (.int .i64 0), (.slice none 0 0), (.int .u64 0), (.int .i64 0)]) 56 rfl Tryz.underlying51 info75 rfl cq6 cq2 u272000 x272000_1 (⟨9, 0, 0, ([] : List Int), 0, rd l0 x4_1⟩ : S75) [.int .u8 9, .int .u8 0, .int .i64 0, .slice none 0 0, .int .u64 0, .int .i64 (rd l0 x4_1)] (fun k_ => (w.heap.size ≤ k_) ∧ k_ ≠ gb270 ∧ k_ ≠ gb271) (fun k_ => ((fun k_ => (w.heap.size ≤ k_) ∧ k_ ≠ gb270 ∧ k_ ≠ gb271)) k_ ∧ some k_ ≠ (u272000 : Value).ownBlock) rfl rfl ?aP (fun _ hk => hk) ?aF ?aO ?aB ?aS ?aL ?_
      (case aP => exact (k75_mkF _ _ (⟨9, 0, 0, ([] : List Int), 0, rd l0 x4_1⟩ : S75) (Nat.le_refl _) (Kd.F_nil _ _ _)))
      (case aB => exact cq8)
      (case aF => exact (fun k_ hk => ⟨(Nat.le_trans (below_size cq8) hk), Kd.freshB (g := gb270) (o := .cells #[.string (⟨#[]⟩ : ByteArray), .slice none 0 0, .int .u8 0, .slice none 0 0, .slice none 0 0, .slice none 0 0] 50 (0, 0)) cq14 k_ hk, Kd.freshB (g := gb271) (o := .cells #[u272000, .int .u8 0, .int .i64 0, .int .i64 0, .int .i64 0, .int .u8 0] 58 (0, 0)) cq21 k_ hk⟩))
      (case aO => exact (by (with_reducible repeat (first | apply Kd.N_alloc | apply Kd.N_drewN | apply Kd.N_drew)); exact HO_272000.out))
      (case aS => exact (below_size cq8))
      (case aL => have := LMc6.out; omega)
      intro v274 w8 ho hb hg hat
      rw [← Ny273.out] at ho
      have n0_ := qA (blk_grown (g := gb270) (o := .cells #[.string (⟨#[]⟩ : ByteArray), .slice none 0 0, .int .u8 0, .slice none 0 0, .slice none 0 0, .slice none 0 0] 50 (0, 0)) cq14 hg (Kd.N_ne HO_272000.out BK270.out cq6))
      have n1_ := qA (blk_grown (g := gb271) (o := .cells #[u272000, .int .u8 0, .int .i64 0, .int .i64 0, .int .i64 0, .int .u8 0] 58 (0, 0)) cq21 hg (Kd.N_ne HO_272000.out BK271.out cq6))
      have n2_ := qA (hb)
      have n3_ := qA (ho)
      clear BK270
      clear BK271
      clear HB
      clear HO_272000
      have BK270 := n0_
      have BK271 := n1_
      have HB := n2_
      have HO275 := n3_
      clear n0_ n1_ n2_ n3_
      clear ho hb hg hat
      obtain ⟨Ao9, co9, eo9⟩ := Kd.N_slice HO275.out
      (first | subst eo9 | (injection eo9 with f1_ f2_ f3_; have f4_ := f1_.symm; have f5_ := f3_.symm; clear f1_ f2_ f3_; subst f4_; subst f5_))
      refine hK.out _ _ ⟨(blk_cell BK271.out 0).trans rfl, (blk_cell BK271.out 1).trans rfl, (blk_cell BK271.out 2).trans rfl, (blk_cell BK271.out 3).trans rfl, (blk_cell BK271.out 4).trans rfl, (blk_cell BK271.out 5).trans rfl, ((HB.out.cell (World.block_lt_of_cell? w _ hw272_0)).trans hw272_0)⟩ (fun hHeld => ?_)
      clear hK K
      refine norm_ (a' := ?_) ?_ ?_
      rotate_left
      ·
       show Act.put _ (some 19) _ = _
       simp only [Act.put, qS, qZ, qN, i64_w, i32_w]
       rfl
      refine pure_ (i := 9) (N := some 20) (v := ?_) (a' := ?_) #[true, true, true, true, true, true, true, true, true, true, false] rfl rfl (any_of HT_.out cq3) (fun _ _ _ h => h) (Or.inl ⟨by rfl, ?_⟩) ?_ ?_
      rotate_left
      ·
       intro w'
       go_simp
       with_reducible rfl
      rotate_left
      ·
       simp only [Act.put, qS, qZ, qN, i64_w, i32_w]
       rfl
      refine last_ (i := 10) (N := none) #[true, true, true, true, true, true, true, true, true, true, true] rfl rfl (one_of HT_.out cq3) cq6 (fun K hK => ?_)
      have hs10 : w8.cell? ⟨gb271, 0, none⟩ = some (u272000) := (blk_cell BK271.out 0).trans rfl
      have hfs10 := blk_frozen BK271.out 0
      have hns10_0 := NB270_271.out
      have hms10_0 := NB271_270.out
      refine skip_ (w1 := ?_) cq60 rfl ?_ ?_
      rotate_left
      ·
       go_simp
       rfl
      refine hK.out _ _ ?_
      clear hK K
      refine done_ (done_of HT_.out cq3) ?_
      try go_wp2
      go_roundg k1
      case measure => have := HK1.out; omega
      case rel => exact ⟨(wrap64 (x4_1 + 1)), (y273), (.slice Ao9 y273.length co9), cq4, H', ⟨by have := HK1.out; omega⟩, ⟨by (with_reducible repeat (first | apply Kd.N_alloc | apply Kd.N_drewN | apply Kd.N_drew)); exact Kd.N_mono (Kd.N_far (p := ⟨gb271, 0, none⟩) (Kd.N_mono HO275.out (fun k_ hk => (⟨hk, hk.2.2⟩ : _ ∧ k_ ≠ gb271))) (fun _ hk => hk.2) (.slice Ao9 y273.length co9)) (fun _ hk => ⟨hk.1.1, ⟨hk.1.2.1, hk.1.2.2⟩⟩)⟩, ⟨by (with_reducible repeat (first | refine blk_drewN ?_ _ | refine blk_drew ?_ | refine blk_alloc ?_ _)); refine blk_far ?_ NB270_271.out _; (with_reducible repeat (first | refine blk_drewN ?_ _ | refine blk_drew ?_ | refine blk_alloc ?_ _)); exact BK270.out⟩, ⟨by (with_reducible repeat (first | refine blk_drewN ?_ _ | refine blk_drew ?_ | refine blk_alloc ?_ _)); refine blk_put (cs := #[u272000, .int .u8 0, .int .i64 0, .int .i64 0, .int .i64 0, .int .u8 0]) ?_ 0 _ rfl; (with_reducible repeat (first | refine blk_drewN ?_ _ | refine blk_drew ?_ | refine blk_alloc ?_ _)); exact BK271.out⟩, ⟨by repeat (first | (with_reducible first | exact HB.out | apply below_alloc | apply pw_below_drewN | apply below_drew1 | refine below_set ?_ GE270.out | refine below_set ?_ GE271.out) | exact HB.out)⟩⟩
     ·
      rw [if_neg c6] at H
      exact absurd H cq23
    ·
     rw [if_neg c5] at H
     exact absurd H cq23
   ·
    rw [if_neg c4] at H
    have c4b0 : decide (x4_1 < (l0.length : Int)) = false := decide_eq_false c4
    clear c4
    obtain ⟨y276, hy276⟩ : ∃ y_ : List (S58), y_ = (([(⟨([] : List (S75)), (⟨0, 0, (⟨0, 0⟩ : S53), 0⟩ : S56)⟩ : S58), (⟨x272000_1, (⟨0, 0, (⟨0, 0⟩ : S53), 0⟩ : S56)⟩ : S58)] : List (S58))) := ⟨_, rfl⟩
    replace H : (some ((⟨#[]⟩ : ByteArray), ([] : List Int), 0, ([] : List Int), ([] : List (S155)), y276)) = some (r1, r2, r3, r4, r5, r6) := by first | (rw [hy276]; with_reducible exact H) | (have H2_ := (Option.bind_some _ _).symm.trans H; rw [hy276]; with_reducible exact H2_) | (have H2_ := (Option.bind_some _ _).symm.trans H; with_reducible exact H2_) | with_reducible exact H | (rw [hy276]; exact H) | exact H
    have Ny276 := qA hy276
    clear hy276
    simp only [Option.some.injEq, Prod.mk.injEq] at H
    obtain ⟨rfl, rfl, rfl, rfl, rfl, rfl⟩ := H
    have hnb11 := NB271_270.out
    have hnc11 := NB270_271.out
    have hcz12_0 : wr.cell? ⟨gb271, 0, none⟩ = some (u272000) := (blk_cell BK271.out 0).trans rfl
    have hcz12_1 : wr.cell? ⟨gb271, 1, none⟩ = some (.int .u8 0) := (blk_cell BK271.out 1).trans rfl
    have hcz12_2 : wr.cell? ⟨gb271, 2, none⟩ = some (.int .i64 0) := (blk_cell BK271.out 2).trans rfl
    have hcz12_3 : wr.cell? ⟨gb271, 3, none⟩ = some (.int .i64 0) := (blk_cell BK271.out 3).trans rfl
    have hcz12_4 : wr.cell? ⟨gb271, 4, none⟩ = some (.int .i64 0) := (blk_cell BK271.out 4).trans rfl
    have hcz12_5 : wr.cell? ⟨gb271, 5, none⟩ = some (.int .u8 0) := (blk_cell BK271.out 5).trans rfl
    have hfz12_0 := blk_frozen BK271.out 0
    have hfz12_1 := blk_frozen BK271.out 1
    have hfz12_2 := blk_frozen BK271.out 2
    have hfz12_3 := blk_frozen BK271.out 3
    have hfz12_4 := blk_frozen BK271.out 4
    have hfz12_5 := blk_frozen BK271.out 5
    obtain ⟨Ao13, co13, eo13⟩ := Kd.N_slice HO_272000.out
    subst eo13
    go_wp2_with (first | ((with_reducible refine gate_dst (N := 23) rfl ?_); refine Kd.N_lit k58 _ 58 ?hg (N' := 23) ?hd (xs := ([(⟨([] : List (S75)), (⟨0, 0, (⟨0, 0⟩ : S53), 0⟩ : S56)⟩ : S58), (⟨x272000_1, (⟨0, 0, (⟨0, 0⟩ : S53), 0⟩ : S56)⟩ : S58)] : List (S58))) (inner := [.slice none 0 0, .int .u8 0, .int .i64 0, .int .i64 0, .int .i64 0, .int .u8 0, .slice Ao13 x272000_1.length co13, .int .u8 0, .int .i64 0, .int .i64 0, .int .i64 0, .int .u8 0]) (ok := (fun k_ => (w.heap.size ≤ k_) ∧ k_ ≠ gb270 ∧ k_ ≠ gb271)) (okp := (fun k_ => (w.heap.size ≤ k_) ∧ k_ ≠ gb270 ∧ k_ ≠ gb271)) ?hr ?hp (fun _ hk => hk) ((show ∀ k_, wr.heap.size ≤ k_ → (fun k_ => (w.heap.size ≤ k_) ∧ k_ ≠ gb270 ∧ k_ ≠ gb271) k_ from fun k_ hk => ⟨(Nat.le_trans (below_size cq8) hk), Kd.freshB (g := gb270) (o := .cells #[.string (⟨#[]⟩ : ByteArray), .slice none 0 0, .int .u8 0, .slice none 0 0, .slice none 0 0, .slice none 0 0] 50 (0, 0)) cq14 k_ hk, Kd.freshB (g := gb271) (o := .cells #[.slice Ao13 x272000_1.length co13, .int .u8 0, .int .i64 0, .int .i64 0, .int .i64 0, .int .u8 0] 58 (0, 0)) cq21 k_ hk⟩) _ (Nat.le_refl _)) (Below.refl _ _) (Nat.le_refl _) cq23 ?_; (case hd => rfl); (case hg => rfl); (case hr => first | (go_simp; done) | (go_simp; rfl)); (case hp => exact (Reps.c6 (show Kd.FK k58 _ _ (⟨([] : List (S75)), (⟨0, 0, (⟨0, 0⟩ : S53), 0⟩ : S56)⟩ : S58) [.slice none 0 0, .int .u8 0, .int .i64 0, .int .i64 0, .int .i64 0, .int .u8 0] from (k58_mkF _ _ (⟨([] : List (S75)), (⟨0, 0, (⟨0, 0⟩ : S53), 0⟩ : S56)⟩ : S58) (Nat.le_refl _) (Kd.F_nil _ _ _))) (Reps.c6 (show Kd.FK k58 _ _ (⟨x272000_1, (⟨0, 0, (⟨0, 0⟩ : S53), 0⟩ : S56)⟩ : S58) [.slice Ao13 x272000_1.length co13, .int .u8 0, .int .i64 0, .int .i64 0, .int .i64 0, .int .u8 0] from (k58_mkF _ _ (⟨x272000_1, (⟨0, 0, (⟨0, 0⟩ : S53), 0⟩ : S56)⟩ : S58) (Kd.N_reads' (Kd.N_mono (ok' := (fun k_ => (w.heap.size ≤ k_) ∧ k_ ≠ gb270 ∧ k_ ≠ gb271)) (HO_272000.out) (fun k_ hk => ⟨hk.1, ⟨hk.2.1, hk.2.2⟩⟩))).2.1 (Kd.N_F (Kd.N_mono (ok' := (fun k_ => (w.heap.size ≤ k_) ∧ k_ ≠ gb270 ∧ k_ ≠ gb271)) (HO_272000.out) (fun k_ hk => ⟨hk.1, ⟨hk.2.1, hk.2.2⟩⟩))))) (Reps.none _ _)))); intro v277 w14 ho15 hb hg_ hnew_; clear hg_ hnew_; (first | rw [← Ny276.out] at ho15 | (simp only [Int.reduceToNat] at ho15; rw [← Ny276.out] at ho15)); have n0_ := qA (Kd.N_lower ho15 (below_size cq8)); have n1_ := qA (blk_below (g := gb270) (o := .cells #[.string (⟨#[]⟩ : ByteArray), .slice none 0 0, .int .u8 0, .slice none 0 0, .slice none 0 0, .slice none 0 0] 50 (0, 0)) cq14 hb); have n2_ := qA (blk_below (g := gb271) (o := .cells #[.slice Ao13 x272000_1.length co13, .int .u8 0, .int .i64 0, .int .i64 0, .int .i64 0, .int .u8 0] 58 (0, 0)) cq21 hb); have n3_ := qA (below_step cq8 hb); clear BK270; clear BK271; clear HB; clear HO_272000; have HO278 := n0_; have BK270 := n1_; have BK271 := n2_; have HB := n3_; clear n0_ n1_ n2_ n3_; clear hb ho15; obtain ⟨Ao16, co16, eo16⟩ := Kd.N_slice HO278.out; subst eo16; have hcz17_0 : w14.cell? ⟨gb270, 0, none⟩ = some (.string (⟨#[]⟩ : ByteArray)) := (blk_cell BK270.out 0).trans rfl; have hcz17_1 : w14.cell? ⟨gb270, 1, none⟩ = some (.slice none 0 0) := (blk_cell BK270.out 1).trans rfl; have hcz17_2 : w14.cell? ⟨gb270, 2, none⟩ = some (.int .u8 0) := (blk_cell BK270.out 2).trans rfl; have hcz17_3 : w14.cell? ⟨gb270, 3, none⟩ = some (.slice none 0 0) := (blk_cell BK270.out 3).trans rfl; have hcz17_4 : w14.cell? ⟨gb270, 4, none⟩ = some (.slice none 0 0) := (blk_cell BK270.out 4).trans rfl; have hcz17_5 : w14.cell? ⟨gb270, 5, none⟩ = some (.slice none 0 0) := (blk_cell BK270.out 5).trans rfl; have hfz17_0 := blk_frozen BK270.out 0; have hfz17_1 := blk_frozen BK270.out 1; have hfz17_2 := blk_frozen BK270.out 2; have hfz17_3 := blk_frozen BK270.out 3; have hfz17_4 := blk_frozen BK270.out 4; have hfz17_5 := blk_frozen BK270.out 5))
    refine bodyPost_ret (results_cell_row rfl _ _ gb270 50 #[.string (⟨#[]⟩ : ByteArray), .slice none 0 0, .int .u8 0, .slice none 0 0, .slice none 0 0, .slice Ao16 y276.length co16] (0, 0) _ rfl (by (with_reducible repeat (first | refine blk_drewN ?_ _ | refine blk_drew ?_ | refine blk_alloc ?_ _)); refine blk_put (cs := #[.string (⟨#[]⟩ : ByteArray), .slice none 0 0, .int .u8 0, .slice none 0 0, .slice none 0 0, .slice none 0 0]) ?_ 5 _ rfl; (with_reducible repeat (first | refine blk_drewN ?_ _ | refine blk_drew ?_ | refine blk_alloc ?_ _)); refine blk_put (cs := #[.string (⟨#[]⟩ : ByteArray), .slice none 0 0, .int .u8 0, .slice none 0 0, .slice none 0 0, .slice none 0 0]) ?_ 4 _ rfl; (with_reducible repeat (first | refine blk_drewN ?_ _ | refine blk_drew ?_ | refine blk_alloc ?_ _)); refine blk_put (cs := #[.string (⟨#[]⟩ : ByteArray), .slice none 0 0, .int .u8 0, .slice none 0 0, .slice none 0 0, .slice none 0 0]) ?_ 3 _ rfl; (with_reducible repeat (first | refine blk_drewN ?_ _ | refine blk_drew ?_ | refine blk_alloc ?_ _)); refine blk_put (cs := #[.string (⟨#[]⟩ : ByteArray), .slice none 0 0, .int .u8 0, .slice none 0 0, .slice none 0 0, .slice none 0 0]) ?_ 2 _ rfl; (with_reducible repeat (first | refine blk_drewN ?_ _ | refine blk_drew ?_ | refine blk_alloc ?_ _)); refine blk_put (cs := #[.string (⟨#[]⟩ : ByteArray), .slice none 0 0, .int .u8 0, .slice none 0 0, .slice none 0 0, .slice none 0 0]) ?_ 1 _ rfl; (with_reducible repeat (first | refine blk_drewN ?_ _ | refine blk_drew ?_ | refine blk_alloc ?_ _)); refine blk_put (cs := #[.string (⟨#[]⟩ : ByteArray), .slice none 0 0, .int .u8 0, .slice none 0 0, .slice none 0 0, .slice none 0 0]) ?_ 0 _ rfl; (with_reducible repeat (first | refine blk_drewN ?_ _ | refine blk_drew ?_ | refine blk_alloc ?_ _)); exact BK270.out) Tryz.underlying50 rfl cq3) rfl ?_
    exact ⟨_, _, _, _, by first | rfl | (simp <;> rfl) | (simp [*] <;> rfl), by first | exact Kd.R_nil _ _ _ _ _ | exact Kd.N_nil _ _ _ _ _ | exact Kd.V_nil _ _ _ _ _ | exact Kd.Q_nil _ _ _ _ _ | exact Kd.S_nil _ _ _ _ _, by first | exact Kd.R_nil _ _ _ _ _ | exact Kd.N_nil _ _ _ _ _ | exact Kd.V_nil _ _ _ _ _ | exact Kd.Q_nil _ _ _ _ _ | exact Kd.S_nil _ _ _ _ _, by first | exact Kd.R_nil _ _ _ _ _ | exact Kd.N_nil _ _ _ _ _ | exact Kd.V_nil _ _ _ _ _ | exact Kd.Q_nil _ _ _ _ _ | exact Kd.S_nil _ _ _ _ _, by (with_reducible repeat (first | apply Kd.N_alloc | apply Kd.N_drewN | apply Kd.N_drew)); exact Kd.N_mono (Kd.N_far (p := ⟨gb270, 5, none⟩) (Kd.N_far (p := ⟨gb270, 4, none⟩) (Kd.N_far (p := ⟨gb270, 3, none⟩) (Kd.N_far (p := ⟨gb270, 2, none⟩) (Kd.N_far (p := ⟨gb270, 1, none⟩) (Kd.N_far (p := ⟨gb270, 0, none⟩) (Kd.N_mono HO278.out (fun k_ hk => (⟨hk, hk.2.1⟩ : _ ∧ k_ ≠ gb270))) (fun _ hk => hk.2) (.string (⟨#[]⟩ : ByteArray))) (fun _ hk => hk.2) (.slice none 0 0)) (fun _ hk => hk.2) (.int .u8 0)) (fun _ hk => hk.2) (.slice none 0 0)) (fun _ hk => hk.2) (.slice none 0 0)) (fun _ hk => hk.2) (.slice Ao16 y276.length co16)) (fun _ hk => ⟨hk.1.1, ⟨(by simp [Value.ownBlock]), ⟨(by simp [Value.ownBlock]), (by simp [Value.ownBlock])⟩⟩⟩), by repeat (first | (with_reducible first | exact HB.out | apply below_alloc | apply pw_below_drewN | apply below_drew1 | refine below_set ?_ GE270.out | refine below_set ?_ GE271.out) | exact HB.out)⟩
end Go.Proofs.YtligpleningglaaGreat.F
namespace Go.Proofs.YtligpleningglaaGreat.Cw
open Go Go.RowKit Go.Proofs.YtligpleningglaaGreat.Tarjan Go.Proofs.YtligpleningglaaGreatW.PrintWords Go.Proofs.YtligpleningglaaGreatW.PrintLast Go.Proofs.YtligpleningglaaGreatW.PrintMore Go.Proofs.YtligpleningglaaGreat.F
theorem size_alo (W : World) (o : Obj) : (W.alloc o).heap.size = W.heap.size + 1 := by simp
theorem at_new (W : World) (o : Obj) (i : Nat) (h : W.heap.size = i) : (W.alloc o).heap[i]? = some o := by
  subst h
  exact hblk_new W o
theorem at_old (W : World) (o x : Obj) (i : Nat) (h : W.heap[i]? = some x) : (W.alloc o).heap[i]? = some x := hblk_old h o
theorem C_list {α : Type} (d : Kd α) {W : World} {g : Nat} {cs : Array Value} {t : TypeId} (hb : W.heap[g]? = some (.cells cs t (0, 0))) (xs : List α) (hl : xs.length ≤ 9223372036854775807) (hs : cs.size = xs.length * d.sz) (hK : ∀ (j : Nat) (h : j < xs.length), d.K W xs[j] ((cs.toList.drop (j * d.sz)).take d.sz)) : d.C W (some ⟨g, 0, none⟩) xs.length xs := by
  refine ⟨rfl, hl, fun _ => ⟨⟨g, 0, none⟩, rfl, fun j p hj => ?_⟩⟩
  obtain ⟨hjl, hjp⟩ := List.getElem?_eq_some_iff.1 hj
  subst hjp
  have hle : j * d.sz + d.sz ≤ cs.toList.length := by
    rw [Array.length_toList, hs, ← Nat.succ_mul]
    exact Nat.mul_le_mul_right _ hjl
  refine ⟨_, ?_, hK j hjl, fun i u hu => ?_⟩
  · rw [List.length_take, List.length_drop]
    omega
  · have hi : i < d.sz := by
      have := (List.getElem?_eq_some_iff.1 hu).1
      rw [List.length_take] at this
      omega
    rw [List.getElem?_take, if_pos hi, List.getElem?_drop] at hu
    rw [add_at, Nat.zero_add, blk_cell hb, ← Array.getElem?_toList]
    exact hu
theorem C_ints {k : IntKind} {W : World} {g : Nat} {cs : Array Value} {t : TypeId} (hb : W.heap[g]? = some (.cells cs t (0, 0))) (xs : List Int) (hl : xs.length ≤ 9223372036854775807) (hs : cs.toList = xs.map (Value.int k)) : (Kd.int k).C W (some ⟨g, 0, none⟩) xs.length xs := by
  refine C_list (Kd.int k) hb xs hl ?_ (fun j h => ?_)
  · rw [← Array.length_toList, hs, List.length_map]
    exact (Nat.mul_one _).symm
  · show (cs.toList.drop (j * 1)).take 1 = [Value.int k xs[j]]
    rw [hs, Nat.mul_one]
    apply List.ext_getElem?
    intro i
    cases i with
    | zero => simp [h]
    | succ i => simp [List.getElem?_take]
theorem rows_C {W : World} {g t : Nat} {cs : Array Value} (hb : W.heap[g]? = some (.cells cs t (0, 0))) (xs : List (List Int)) (hl : xs.length ≤ 9223372036854775807) (hs : cs.size = xs.length) (hK : ∀ (j : Nat) (h : j < xs.length), ∃ A c, cs[j]? = some (.slice A xs[j].length c) ∧ xs[j].length ≤ c ∧ (Kd.int .i64).C W A xs[j].length xs[j]) : (Kd.slice 3 (Kd.int .i64)).C W (some ⟨g, 0, none⟩) xs.length xs := by
  refine C_list (Kd.slice 3 (Kd.int .i64)) hb xs hl (by rw [hs]; exact (Nat.mul_one _).symm) (fun j h => ?_)
  obtain ⟨A, c, h1, h2, h3⟩ := hK j h
  refine ⟨A, c, ?_, h2, h3⟩
  show (cs.toList.drop (j * 1)).take 1 = _
  rw [Nat.mul_one]
  apply List.ext_getElem?
  intro i
  cases i with
  | zero => simpa using h1
  | succ i => simp [List.getElem?_take]
theorem litA (W : World) : (Kd.slice 3 (Kd.int .i64)).C (((((W.alloc (.cells #[.int .i64 1] 3)).alloc (.cells #[.int .i64 2] 3)).alloc (.cells #[.int .i64 1] 3)).alloc (.cells #[.int .i64 0] 3)).alloc (.cells #[.slice (some ⟨W.heap.size, 0, none⟩) 1 1, .slice (some ⟨W.heap.size + 1, 0, none⟩) 1 1, .slice (some ⟨W.heap.size + 1 + 1, 0, none⟩) 1 1, .slice (some ⟨W.heap.size + 1 + 1 + 1, 0, none⟩) 1 1] 44)) (some ⟨W.heap.size + 1 + 1 + 1 + 1, 0, none⟩) ([[1], [2], [1], [0]] : List (List Int)).length [[1], [2], [1], [0]] := by
  refine rows_C (at_new _ _ _ cq46) [[1], [2], [1], [0]] cq23 rfl (fun j h => ?_)
  have : j = 0 ∨ j = 1 ∨ j = 2 ∨ j = 3 := by have : j < 4 := h; omega
  rcases this with rfl | rfl | rfl | rfl
  · exact ⟨_, _, rfl, Nat.le_refl 1, C_ints (at_old _ _ _ _ (at_old _ _ _ _ (at_old _ _ _ _ (at_old _ _ _ _ (at_new _ _ _ cq60))))) [1] cq23 rfl⟩
  · exact ⟨_, _, rfl, Nat.le_refl 1, C_ints (at_old _ _ _ _ (at_old _ _ _ _ (at_old _ _ _ _ (at_new _ _ _ cq46)))) [2] cq23 rfl⟩
  · exact ⟨_, _, rfl, Nat.le_refl 1, C_ints (at_old _ _ _ _ (at_old _ _ _ _ (at_new _ _ _ cq46))) [1] cq23 rfl⟩
  · exact ⟨_, _, rfl, Nat.le_refl 1, C_ints (at_old _ _ _ _ (at_new _ _ _ cq46)) [0] cq23 rfl⟩
theorem litB (W : World) : (Kd.slice 3 (Kd.int .i64)).C ((((W.alloc (.cells #[.int .i64 1, .int .i64 2] 3)).alloc (.cells #[.int .i64 0] 3)).alloc (.cells #[.int .i64 3] 3)).alloc (.cells #[.slice (some ⟨W.heap.size, 0, none⟩) 2 2, .slice (some ⟨W.heap.size + 1, 0, none⟩) 1 1, .slice (some ⟨W.heap.size + 1 + 1, 0, none⟩) 1 1] 44)) (some ⟨W.heap.size + 1 + 1 + 1, 0, none⟩) ([[1, 2], [0], [3]] : List (List Int)).length [[1, 2], [0], [3]] := by
  refine rows_C (at_new _ _ _ cq46) [[1, 2], [0], [3]] cq23 rfl (fun j h => ?_)
  have : j = 0 ∨ j = 1 ∨ j = 2 := by have : j < 3 := h; omega
  rcases this with rfl | rfl | rfl
  · exact ⟨_, _, rfl, Nat.le_refl 2, C_ints (at_old _ _ _ _ (at_old _ _ _ _ (at_old _ _ _ _ (at_new _ _ _ cq60)))) [1, 2] cq23 rfl⟩
  · exact ⟨_, _, rfl, Nat.le_refl 1, C_ints (at_old _ _ _ _ (at_old _ _ _ _ (at_new _ _ _ cq46))) [0] cq23 rfl⟩
  · exact ⟨_, _, rfl, Nat.le_refl 1, C_ints (at_old _ _ _ _ (at_new _ _ _ cq46)) [3] cq23 rfl⟩
theorem litC (W : World) : (Kd.slice 3 (Kd.int .i64)).C (((W.alloc (.cells #[.int .i64 1] 3)).alloc (.cells #[.int .i64 0] 3)).alloc (.cells #[.slice (some ⟨W.heap.size, 0, none⟩) 1 1, .slice (some ⟨W.heap.size + 1, 0, none⟩) 1 1, .slice none 0 0] 44)) (some ⟨W.heap.size + 1 + 1, 0, none⟩) ([[1], [0], []] : List (List Int)).length [[1], [0], []] := by
  refine rows_C (at_new _ _ _ cq46) [[1], [0], []] cq23 rfl (fun j h => ?_)
  have : j = 0 ∨ j = 1 ∨ j = 2 := by have : j < 3 := h; omega
  rcases this with rfl | rfl | rfl
  · exact ⟨_, _, rfl, Nat.le_refl 1, C_ints (at_old _ _ _ _ (at_old _ _ _ _ (at_new _ _ _ cq60))) [1] cq23 rfl⟩
  · exact ⟨_, _, rfl, Nat.le_refl 1, C_ints (at_old _ _ _ _ (at_new _ _ _ cq46)) [0] cq23 rfl⟩
  · exact ⟨none, 0, rfl, Nat.le_refl 0, Kd.C_nil _ _⟩
theorem litT (W : World) : Kd.bool.C (W.alloc (.cells #[.bool true, .bool true, .bool false] 4)) (some ⟨W.heap.size, 0, none⟩) ([true, true, false] : List Bool).length [true, true, false] := by
  refine C_list Kd.bool (at_new _ _ _ rfl) [true, true, false] cq23 rfl (fun j h => ?_)
  have : j = 0 ∨ j = 1 ∨ j = 2 := by have : j < 3 := h; omega
  rcases this with rfl | rfl | rfl <;> rfl
theorem lit1 (W : World) : (Kd.int .i64).C (W.alloc (.cells #[.int .i64 1] 3)) (some ⟨W.heap.size, 0, none⟩) ([1] : List Int).length [1] := C_ints (at_new _ _ _ rfl) [1] cq23 rfl
theorem lit3 (W : World) : (Kd.int .i64).C (W.alloc (.cells #[.int .i64 0, .int .i64 0, .int .i64 9] 3)) (some ⟨W.heap.size, 0, none⟩) ([0, 0, 9] : List Int).length [0, 0, 9] := C_ints (at_new _ _ _ rfl) [0, 0, 9] cq23 rfl
def ga (l : List Int) : S50 := ⟨⟨#[]⟩, [], 0, [], [], [⟨[], ⟨0, 0, ⟨0, 0⟩, 0⟩⟩, ⟨l.map fun r => ⟨9, 0, 0, [], 0, r⟩, ⟨0, 0, ⟨0, 0⟩, 0⟩⟩]⟩
theorem caller_calls (w : World) (A : Option Addr) (c : Nat) (l : List Int) (hr : Kd.C (Kd.int .i64) w A l.length l) (hc : l.length ≤ c) (h : smithylaw19_caller.f 20 l = some (⟨#[]⟩, [], 0, [], [], (ga l).f5)) :
    Calls Tryz.prog 21 #[.slice A l.length c] w fun e w' => ∃ A1 c1 A3 c3 A4 c4 A5 c5, e = .returned (.agg #[.string ⟨#[]⟩, .slice A1 0 c1, .int .u8 0, .slice A3 0 c3, .slice A4 0 c4, .slice A5 2 c5]) ∧ (∀ W, Below w'.heap.size w' W → k50.K W (ga l) [.string ⟨#[]⟩, .slice A1 0 c1, .int .u8 0, .slice A3 0 c3, .slice A4 0 c4, .slice A5 2 c5]) ∧ Below w.heap.size w w' := by
  refine (smithylaw19_caller.calls 20 A c l _ _ _ _ _ _ w hr hc h).mono ?_
  rintro e w' ⟨v1, v3, v4, v5, rfl, h1, h3, h4, h5, hb⟩
  obtain ⟨A1, c1, rfl, l1, g1⟩ := Kd.R_reads h1
  obtain ⟨A3, c3, rfl, l3, g3⟩ := Kd.R_reads h3
  obtain ⟨A4, c4, rfl, l4, g4⟩ := Kd.R_reads h4
  have hv := Kd.N_V (base' := 0) h5
  obtain ⟨A5, c5, rfl⟩ := Kd.V_slice hv
  obtain ⟨_, l5, g5⟩ := Kd.V_reads' hv
  exact ⟨A1, c1, A3, c3, A4, c4, A5, c5, rfl, fun W hW => k50.K_below hW (k50_mk w' (ga l) l1 g1 l3 g3 l4 g4 l5 g5), hb⟩
theorem gs_C {W : World} {g : Nat} {x1 x2 x3 : S50} {a1 a2 a3 a4 a5 a6 b1 b2 b3 b4 b5 b6 d1 d2 d3 d4 d5 d6 : Value} (hb : W.heap[g]? = some (.cells #[a1, a2, a3, a4, a5, a6, b1, b2, b3, b4, b5, b6, d1, d2, d3, d4, d5, d6] 50 (0, 0))) (h1 : k50.K W x1 [a1, a2, a3, a4, a5, a6]) (h2 : k50.K W x2 [b1, b2, b3, b4, b5, b6]) (h3 : k50.K W x3 [d1, d2, d3, d4, d5, d6]) :
    k50.C W (some ⟨g, 0, none⟩) ([x1, x2, x3] : List S50).length [x1, x2, x3] := by
  refine C_list k50 hb [x1, x2, x3] cq23 rfl (fun j h => ?_)
  have : j = 0 ∨ j = 1 ∨ j = 2 := by have : j < 3 := h; omega
  rcases this with rfl | rfl | rfl
  · exact h1
  · exact h2
  · exact h3
theorem cal1 : smithylaw19_caller.f 20 [1] = some (⟨#[]⟩, [], 0, [], [], (ga [1]).f5) := by kernel_rfl
theorem cal2 : smithylaw19_caller.f 20 [0, 0, 9] = some (⟨#[]⟩, [], 0, [], [], (ga [0, 0, 9]).f5) := by kernel_rfl
theorem cal3 : smithylaw19_caller.f 20 [] = some (⟨#[]⟩, [], 0, [], [], (ga []).f5) := by kernel_rfl
theorem par1 : resP [[1], [2], [1], [0]] = ([[1, 2], [0], [3]], 0) := by rw [resP_eq]; kernel_rfl
theorem cald : calledL [ga [1], ga [0, 0, 9], ga []] = [[1], [0], []] := by unfold calledL; rw [cmpZ_eq]; kernel_rfl
theorem rndl : roundL [ga [1], ga [0, 0, 9], ga []] = [true, true, false] := by unfold roundL; rw [cald, resP_eq]; kernel_rfl
theorem bq1 (W : World) (o1 : Obj) : Below W.heap.size W (W.alloc o1) := below_alloc (Below.refl _ _) _
theorem bq4 (W : World) (o1 o2 o3 o4 : Obj) : Below W.heap.size W ((((W.alloc o1).alloc o2).alloc o3).alloc o4) := below_alloc (below_alloc (below_alloc (below_alloc (Below.refl _ _) _) _) _) _
theorem bq5 (W : World) (o1 o2 o3 o4 o5 : Obj) : Below W.heap.size W (((((W.alloc o1).alloc o2).alloc o3).alloc o4).alloc o5) := below_alloc (bq4 W _ _ _ _) _
theorem bq3 (W : World) (o1 o2 o3 : Obj) : Below W.heap.size W (((W.alloc o1).alloc o2).alloc o3) := below_alloc (below_alloc (below_alloc (Below.refl _ _) _) _) _
theorem awake_calls (w : World) : Calls Tryz.prog 6 #[] w fun e w' => e = .returned (.bool true) ∧ Below w.heap.size w w' := by
  go_enter Tryz.func6, Tryz.ntmps6
  go_wp2_with (fail)
  refine (parts_calls _ _ 4 [[1], [2], [1], [0]] (litA w) cq6 cq3).mono ?_
  rintro e w1 ⟨v1, rfl, hS1, hb1⟩
  rw [par1] at hS1 ⊢
  obtain ⟨A1, c1, rfl, hc1, hC1⟩ := Kd.S_reads hS1
  have HC1 := qA hC1
  have HCL := qA hc1
  have HW1 := qA (show Below w.heap.size w w1 from below_step (bq5 w _ _ _ _ _) hb1)
  clear hS1 hc1 hC1 hb1
  go_wp2_with (fail)
  refine (caller_calls _ _ 1 [1] (lit1 w1) cq6 cal1).mono ?_
  rintro e w2 ⟨a1, b1, a2, b2, a3, b3, a4, b4, rfl, hK1, hb2⟩
  have HK1 := qA hK1
  have HW2 := qA (show Below w1.heap.size w1 w2 from below_step (bq1 w1 _) hb2)
  clear hK1 hb2
  go_wp2_with (fail)
  refine (caller_calls _ _ 3 [0, 0, 9] (lit3 w2) cq6 cal2).mono ?_
  rintro e w3 ⟨d1, e1, d2, e2, d3, e3, d4, e4, rfl, hK2, hb3⟩
  have HK2 := qA hK2
  have HW3 := qA (show Below w2.heap.size w2 w3 from below_step (bq1 w2 _) hb3)
  clear hK2 hb3
  go_wp2_with (fail)
  refine (caller_calls _ none 0 [] (Kd.C_nil _ _) cq6 cal3).mono ?_
  rintro e w4 ⟨f1, g1, f2, g2, f3, g3, f4, g4, rfl, hK3, hb4⟩
  have HK3 := qA hK3
  have HW4 := qA hb4
  clear hK3 hb4
  go_wp2_with (fail)
  have GC := qA (gs_C (at_new w4 _ _ rfl) (HK1.out _ (below_step (below_step HW3.out HW4.out) (bq1 w4 _))) (HK2.out _ (below_step HW4.out (bq1 w4 _))) (HK3.out _ (bq1 w4 _)))
  have HW5 := qA (below_step (below_step (below_step (below_step HW1.out HW2.out) HW3.out) HW4.out) (bq1 w4 (Obj.cells #[.string ⟨#[]⟩, .slice a1 0 b1, .int .u8 0, .slice a2 0 b2, .slice a3 0 b3, .slice a4 2 b4, .string ⟨#[]⟩, .slice d1 0 e1, .int .u8 0, .slice d2 0 e2, .slice d3 0 e3, .slice d4 2 e4, .string ⟨#[]⟩, .slice f1 0 g1, .int .u8 0, .slice f2 0 g2, .slice f3 0 g3, .slice f4 2 g4] 50)))
  have HC5 := qA (Kd.C_below (Kd.C_below (Kd.C_below (Kd.C_below HC1.out HW2.out) HW3.out) HW4.out) (bq1 w4 (Obj.cells #[.string ⟨#[]⟩, .slice a1 0 b1, .int .u8 0, .slice a2 0 b2, .slice a3 0 b3, .slice a4 2 b4, .string ⟨#[]⟩, .slice d1 0 e1, .int .u8 0, .slice d2 0 e2, .slice d3 0 e3, .slice d4 2 e4, .string ⟨#[]⟩, .slice f1 0 g1, .int .u8 0, .slice f2 0 g2, .slice f3 0 g3, .slice f4 2 g4] 50)))
  clear HK1 HK2 HK3 HW1 HW2 HW3 HC1
  refine (round_calls _ _ 3 [ga [1], ga [0, 0, 9], ga []] GC.out cq6 cq3).mono ?_
  rintro e w6 ⟨v6, rfl, hR6, hb6⟩
  rw [rndl] at hR6
  obtain ⟨A6, c6, rfl, hc6, hC6⟩ := Kd.R_reads hR6
  have T6 := qA hC6
  have TC6 := qA hc6
  have GC6 := qA (Kd.C_below GC.out hb6)
  have HC6 := qA (Kd.C_below HC5.out hb6)
  have HW6 := qA (below_step HW5.out hb6)
  clear hR6 hC6 hc6 hb6 GC HC5 HW5 HW4
  go_wp2_with (fail)
  refine (Lk.sameRows_eq A1 _ c1 3 [[1, 2], [0], [3]] _ (Kd.C_below HC6.out (bq4 w6 _ _ _ _)) HCL.out (litB w6) cq6 cq6 cq6).mono ?_
  rintro e w7 ⟨rfl, hnd⟩
  have HB7 := qA (show Below w6.heap.size w6 w7 from below_step (bq4 w6 _ _ _ _) hnd)
  clear hnd
  go_wp2_with (fail)
  refine (called_calls _ _ 3 [ga [1], ga [0, 0, 9], ga []] (Kd.C_below GC6.out HB7.out) cq6 cq3).mono ?_
  rintro e w8 ⟨v8, rfl, hS8, hb8⟩
  rw [cald] at hS8
  obtain ⟨A8, c8, rfl, hc8, hC8⟩ := Kd.S_reads hS8
  have HC8 := qA hC8
  have HCL8 := qA hc8
  have HB8 := qA hb8
  clear hS8 hC8 hc8 hb8
  go_wp2_with (fail)
  refine (Lk.sameRows_eq A8 _ c8 3 [[1], [0], []] _ (Kd.C_below HC8.out (bq3 w8 _ _ _)) HCL8.out (litC w8) cq6 cq6 cq6).mono ?_
  rintro e w9 ⟨rfl, hnd⟩
  have HB9 := qA (show Below w8.heap.size w8 w9 from below_step (bq3 w8 _ _ _) hnd)
  clear hnd
  go_wp2_with (fail)
  refine (Lk.sameTruths_eq A6 _ c6 3 [true, true, false] _ (Kd.C_below (Kd.C_below (Kd.C_below (Kd.C_below T6.out HB7.out) HB8.out) HB9.out) (bq1 w9 _)) TC6.out (litT w9) cq6 cq6).mono ?_
  rintro e w10 ⟨rfl, hnd⟩
  have HB10 := qA (show Below w9.heap.size w9 w10 from below_step (bq1 w9 _) hnd)
  clear hnd
  go_wp2
  go_ret
  exact ⟨rfl, below_step (below_step (below_step (below_step HW6.out HB7.out) HB8.out) HB9.out) HB10.out⟩
end Go.Proofs.YtligpleningglaaGreat.Cw
namespace Go.Proofs.YtligpleningglaaGreat.Ko
open Go Go.ChangeShapes Go.WideShapes Go.Deep Go.RowKit Go.Proofs.YtligpleningglaaGreatW.PrintWords
theorem weightsAll_mem {H : Type} {P : Program} {e : TypeId} : ∀ {l : List (DataW H)} {d : DataW H}, d ∈ l → ∀ n ∈ d.weights P e, n ∈ DataW.weightsAll P e l
  | d' :: r, d, hd, n, hn => by
    simp only [DataW.weightsAll, List.mem_append]
    rcases List.mem_cons.1 hd with rfl | h
    · exact Or.inl hn
    · exact Or.inr (weightsAll_mem h n hn)
structure Opn {α : Type} (P : Program) (W : World) (k : Kd α) (t : TypeId) (Ok : α → Prop) : Prop where
  out : ∀ {H : Type} {enc : TypeId × Value → H} {base : Nat} {spare : Nat → Bool} {held : Bool} {fuel : Nat} {cs : List Value} {x : DataW H × List MemPlace}, DataW.trod enc P W base spare held fuel t cs = some x →
    ∃ v, k.K W v cs ∧ ((∀ n ∈ x.1.weights P t, n ≤ reachBytes) → Ok v)
structure OpF {α : Type} (P : Program) (W : World) (k : Kd α) (off : Nat) (fs : List Field) (Ok : α → Prop) : Prop where
  out : ∀ {H : Type} {enc : TypeId × Value → H} {base : Nat} {spare : Nat → Bool} {held : Bool} {fuel : Nat} {cs : List Value} {xs : List (DataW H × List MemPlace)}, cs.length = off + k.sz → xs.length = fs.length →
    (∀ (i : Nat) (f : Field), fs[i]? = some f → DataW.trod enc P W base spare held fuel f.type ((cs.drop f.offset).take (P.cellsOf f.type)) = xs[i]?) →
    ∃ v, k.K W v (cs.drop off) ∧ ((∀ n ∈ DataW.weightsEach P (fs.map (·.type)) (xs.map (·.1)), n ≤ reachBytes) → Ok v)
section
variable {P : Program} {W : World}
theorem op_int {k : IntKind} {t : TypeId} (ht : P.underlying t = some (.int k)) : Opn P W (Kd.int k) t (fun n => (Lit.int k n).wf = true) := ⟨fun h => by
  obtain ⟨n, rfl, rfl, hw⟩ := DataW.trod_int ht h
  exact ⟨n, rfl, fun _ => hw⟩⟩
theorem op_string {t : TypeId} (ht : P.underlying t = some .string) : Opn P W Kd.string t (fun s => s.size ≤ reachBytes) := ⟨fun h => by
  obtain ⟨s, rfl, rfl, _⟩ := DataW.trod_string ht h
  exact ⟨s, rfl, fun hs => hs _ (by simp [DataW.weights])⟩⟩
theorem op_slice {α : Type} {d : Kd α} {t e : TypeId} {Ok : α → Prop} (q : Nat) (ht : P.underlying t = some (.slice e)) (hc : P.cellsOf e = d.sz) (hd : Opn P W d e Ok) :
    Opn P W (Kd.slice q d) t (fun l => l.length * P.bytesOf e ≤ reachBytes ∧ ∀ x ∈ l, Ok x) := ⟨fun {H enc base spare held fuel cs x} h => by
  rcases open_slice ht h with ⟨rfl, rfl⟩ | ⟨a, len, cap, m, n, D, Pl, rfl, hb, hl, hm, hmm, rfl, hx⟩
  · exact ⟨[], ⟨none, 0, rfl, Nat.le_refl _, Kd.C_nil _ _⟩, fun _ => ⟨by simp, fun _ h => by cases h⟩⟩
  · have hlm : len ≤ m := by rw [hmm]; split <;> omega
    have each : ∀ i, i < len → ∃ v : α, ∃ cs', cs'.length = d.sz ∧ d.K W v cs' ∧ (∀ j u, cs'[j]? = some u → W.cell? (a.add (i * d.sz + j)) = some u) ∧ ((∀ n ∈ (D i).weights P e, n ≤ reachBytes) → Ok v) := fun i hi => by
      obtain ⟨cs', h1, h2⟩ := hx i cq2
      rw [hc] at h1
      obtain ⟨_, hlen, hcell⟩ := World.cells?_some h1
      obtain ⟨v, hv, hw⟩ := hd.out h2
      refine ⟨v, cs', hlen, hv, fun j u hu => ?_, hw⟩
      have hj : j < d.sz := by
        rcases Nat.lt_or_ge j cs'.length with h | h
        · omega
        · rw [List.getElem?_eq_none h] at hu; cases hu
      rw [← hu, ← hcell j hj, Deep.add_add]
    have hinh : len = 0 ∨ Nonempty α := by
      by_cases h0 : len = 0
      · exact .inl h0
      · obtain ⟨v, _⟩ := each 0 cq2; exact .inr ⟨v⟩
    rcases hinh with h0 | ⟨⟨v0⟩⟩
    · subst h0
      refine ⟨[], ⟨some a, cap, rfl, Nat.zero_le _, ⟨rfl, Nat.zero_le _, fun h => absurd h (Nat.lt_irrefl 0)⟩⟩, fun _ => ⟨by simp, fun _ h => by cases h⟩⟩
    · haveI : Inhabited α := ⟨v0⟩
      obtain ⟨f, hf⟩ := choose_lt each
      have hfl : ((List.range len).map f).length = len := by simp
      refine ⟨(List.range len).map f, ⟨some a, cap, by rw [hfl], by rw [hfl]; exact hl, ⟨rfl, by rw [hfl]; unfold maxLen at hm; omega, fun _ => ⟨a, rfl, fun j p hj => ?_⟩⟩⟩, fun hw => ⟨?_, ?_⟩⟩
      · rw [List.getElem?_map] at hj
        by_cases hjl : j < len
        · rw [List.getElem?_range hjl] at hj
          injection hj with hj
          subst hj
          obtain ⟨cs', h1, h2, h3, _⟩ := hf j hjl
          exact ⟨cs', h1, h2, h3⟩
        · rw [List.getElem?_eq_none cq52] at hj
          cases hj
      · have := hw ((((List.range len).map D).length + ((List.range (m - len)).map fun j => D (len + j)).length) * P.bytesOf e) (by simp [DataW.weights, ht])
        rw [hfl]
        rw [List.length_map, List.length_map, List.length_range, List.length_range] at this
        exact Nat.le_trans (Nat.mul_le_mul_right _ (Nat.le_add_right _ _)) this
      · intro x hx
        obtain ⟨j, hj, rfl⟩ := List.mem_map.1 hx
        rw [List.mem_range] at hj
        obtain ⟨_, _, _, _, h4⟩ := hf j hj
        refine h4 (fun n hn => hw n ?_)
        have : n ∈ DataW.weightsAll P e ((List.range len).map D) := weightsAll_mem (List.mem_map.2 ⟨j, List.mem_range.2 hj, rfl⟩) n hn
        simp only [DataW.weights, ht, List.mem_cons, List.mem_append]
        exact .inr (.inl this)⟩
theorem op_last {α : Type} {k : Kd α} {off : Nat} {f : Field} {Ok : α → Prop} (ho : f.offset = off) (hc : P.cellsOf f.type = k.sz) (h : Opn P W k f.type Ok) : OpF P W k off [f] Ok := ⟨fun {H enc base spare held fuel cs xs} hl hx hf => by
  match xs, hx with
  | [y], _ =>
    have h1 : DataW.trod enc P W base spare held fuel f.type ((cs.drop f.offset).take (P.cellsOf f.type)) = some y := hf 0 f rfl
    rw [ho, hc, List.take_of_length_le (by rw [List.length_drop]; omega)] at h1
    obtain ⟨v, h2, h3⟩ := h.out h1
    exact ⟨v, h2, fun hw => h3 (fun n hn => hw n (by simp only [List.map_cons, List.map_nil, DataW.weightsEach, List.append_nil]; exact hn))⟩⟩
theorem op_more {α β : Type} {a : Kd α} {b : Kd β} {off : Nat} {f : Field} {fs : List Field} {OkA : α → Prop} {OkB : β → Prop} (ho : f.offset = off) (hc : P.cellsOf f.type = a.sz) (h : Opn P W a f.type OkA) (hs : OpF P W b (off + a.sz) fs OkB) :
    OpF P W (Kd.pair a b) off (f :: fs) (fun x => OkA x.1 ∧ OkB x.2) := ⟨fun {H enc base spare held fuel cs xs} hl hx hf => by
  have hl' : cs.length = off + (a.sz + b.sz) := hl
  match xs, hx with
  | y :: ys, hx =>
    have h1 : DataW.trod enc P W base spare held fuel f.type ((cs.drop f.offset).take (P.cellsOf f.type)) = some y := hf 0 f rfl
    rw [ho, hc] at h1
    obtain ⟨v, h2, h3⟩ := h.out h1
    obtain ⟨u, h4, h5⟩ := hs.out (cs := cs) (xs := ys) cq2 (by simpa using hx) (fun i g hg => hf (i + 1) g hg)
    refine ⟨(v, u), ⟨(cs.drop off).take a.sz, cs.drop (off + a.sz), ?_, h2, h4⟩, fun hw => ⟨h3 (fun n hn => hw n ?_), h5 (fun n hn => hw n ?_)⟩⟩
    · rw [← List.drop_drop, List.take_append_drop]
    · simp only [List.map_cons, DataW.weightsEach, List.mem_append]; exact .inl hn
    · simp only [List.map_cons, DataW.weightsEach, List.mem_append]; exact .inr hn⟩
theorem op_struct {α : Type} {k : Kd α} {t : TypeId} {fs : Array Field} {Ok : α → Prop} (ht : P.underlying t = some (.struct fs)) (hc : P.cellsOf t = k.sz) (h : OpF P W k 0 fs.toList Ok) : Opn P W k t Ok := ⟨fun {H enc base spare held fuel cs x} hx => by
  obtain ⟨xs, n, _, rfl, hl, hlen, hf⟩ := DataW.trod_struct ht hx
  obtain ⟨v, h1, h2⟩ := h.out (cs := cs) (xs := xs) cq2 (by simpa using hlen) (fun i f hi => hf i f (by simpa using hi))
  exact ⟨v, h1, fun hw => h2 (fun n hn => hw n (by simp only [DataW.weights, ht]; exact hn))⟩⟩
theorem op_arr2 {α : Type} {k : Kd α} {t e : TypeId} {Ok : α → Prop} (ht : P.underlying t = some (.array 2 e)) (hc : P.cellsOf t = k.sz + k.sz) (hce : P.cellsOf e = k.sz) (h : Opn P W k e Ok) : Opn P W (Kd.pair k k) t (fun x => Ok x.1 ∧ Ok x.2) := ⟨fun {H enc base spare held fuel cs x} hx => by
  obtain ⟨xs, n, _, rfl, hl, hlen, hf⟩ := DataW.trod_array ht hx
  match xs, hlen with
  | [y0, y1], _ =>
    have g0 : DataW.trod enc P W base spare held n e ((cs.drop (0 * P.cellsOf e)).take (P.cellsOf e)) = some y0 := hf 0 cq2
    have g1 : DataW.trod enc P W base spare held n e ((cs.drop (1 * P.cellsOf e)).take (P.cellsOf e)) = some y1 := hf 1 cq2
    rw [Nat.zero_mul, List.drop_zero, hce] at g0
    rw [Nat.one_mul, hce, List.take_of_length_le (by rw [List.length_drop]; omega)] at g1
    obtain ⟨v, h1, h2⟩ := h.out g0
    obtain ⟨u, h3, h4⟩ := h.out g1
    refine ⟨(v, u), ⟨cs.take k.sz, cs.drop k.sz, (List.take_append_drop _ _).symm, h1, h3⟩, fun hw => ⟨h2 (fun n hn => hw n ?_), h4 (fun n hn => hw n ?_)⟩⟩
    · simp only [DataW.weights, ht, List.map_cons, List.map_nil, DataW.weightsAll, List.mem_append]; exact .inl hn
    · simp only [DataW.weights, ht, List.map_cons, List.map_nil, DataW.weightsAll, List.mem_append]; exact .inr (.inl hn)⟩
theorem op_iso {α β : Type} {k : Kd α} {t : TypeId} {Ok : α → Prop} {f : β → α} (g : α → β) (hg : ∀ a, f (g a) = a) (h : Opn P W k t Ok) : Opn P W (Kd.iso k f) t (fun b => Ok (f b)) := ⟨fun hx => by
  obtain ⟨v, h1, h2⟩ := h.out hx
  refine ⟨g v, ?_, fun hw => ?_⟩
  · show k.K W (f (g v)) _
    rw [hg]; exact h1
  · show Ok (f (g v))
    rw [hg]; exact h2 hw⟩
theorem op_weaken {α : Type} {k : Kd α} {t : TypeId} {Ok Ok' : α → Prop} (h : Opn P W k t Ok) (hi : ∀ v, Ok v → Ok' v) : Opn P W k t Ok' := ⟨fun hx => by
  obtain ⟨v, h1, h2⟩ := h.out hx
  exact ⟨v, h1, fun hw => hi v (h2 hw)⟩⟩
theorem Opn.arg {α : Type} {d : Kd α} {t : TypeId} {q : Nat} {Ok : List α → Prop} (h : Opn P W (Kd.slice q d) t Ok) {H : Type} {enc : TypeId × Value → H} {base : Nat} {spare : Nat → Bool} {held : Bool} {a : Option Addr} {len cap : Nat} {x : DataW H} {ps : List MemPlace}
    (hx : DataW.Trod enc P W base spare held t (.slice a len cap) x ps) :
    ∃ l : List α, l.length = len ∧ len ≤ cap ∧ Kd.C d W a len l ∧ ∀ {ts : List TypeId} {ds : List (DataW H)} {j : Nat}, (DataW.weightsEach P ts ds).all (· ≤ reachBytes) = true → ts[j]? = some t → ds[j]? = some x → Ok l := by
  obtain ⟨fuel, hf⟩ := hx
  obtain ⟨l, ⟨A, c, e, hl, hC⟩, hw⟩ := h.out hf
  simp [Value.cells] at e
  obtain ⟨rfl, rfl, rfl⟩ := e
  exact ⟨l, rfl, hl, hC, fun hsz ht hd => hw (fun n hn => qO (List.all_eq_true.1 hsz _ (DataW.weights_mem_each ht hd _ hn)))⟩
end
end Go.Proofs.YtligpleningglaaGreat.Ko
namespace Go.Proofs.YtligpleningglaaGreat.Lk
open Go Go.ChangeShapes Go.WideShapes Go.Deep Go.RowKit Go.Proofs.YtligpleningglaaGreatW.PrintWords Go.Proofs.YtligpleningglaaGreat.F Go.Proofs.YtligpleningglaaGreat.Ko
section
variable {W : World}
theorem op_i64 : Opn Tryz.prog W (Kd.int .i64) 3 (fun _ => True) := op_weaken (op_int Tryz.underlying3) (fun _ _ => trivial)
theorem op_ints : Opn Tryz.prog W (Kd.slice 3 (Kd.int .i64)) 44 (fun l => (l.length + 12) * 8 ≤ 140737488355328) := op_weaken (op_slice 3 Tryz.underlying44 cq3 op_i64) (fun l hl => by
  have h : l.length * Tryz.prog.bytesOf 3 ≤ reachBytes := hl.1
  rw [show Tryz.prog.bytesOf 3 = 8 by kernel_rfl, show reachBytes = 140737488351232 from rfl] at h
  omega)
theorem op_types : Opn Tryz.prog W (Kd.slice 45 (Kd.int .u8)) 46 (fun l => (l.length + 12) * 1 ≤ 140737488355328) := op_weaken (op_slice 45 Tryz.underlying46 cq3 (op_int Tryz.underlying45)) (fun l hl => by
  have h : l.length * Tryz.prog.bytesOf 45 ≤ reachBytes := hl.1
  rw [show Tryz.prog.bytesOf 45 = 1 by kernel_rfl, show reachBytes = 140737488351232 from rfl] at h
  omega)
theorem op_array : Opn Tryz.prog W k155 155 (fun _ => True) := op_weaken (op_iso (fun x => ⟨x.1, x.2⟩) (fun _ => rfl)
  (op_struct Tryz.underlying155 cq3 (op_more rfl cq3 (op_int Tryz.underlying45) (op_last rfl cq3 op_i64)))) (fun _ _ => trivial)
theorem op_arrays : Opn Tryz.prog W (Kd.slice 155 k155) 47 (fun l => (l.length + 12) * 16 ≤ 140737488355328) := op_weaken (op_slice 155 Tryz.underlying47 cq3 op_array) (fun l hl => by
  have h : l.length * Tryz.prog.bytesOf 155 ≤ reachBytes := hl.1
  rw [show Tryz.prog.bytesOf 155 = 16 by kernel_rfl, show reachBytes = 140737488351232 from rfl] at h
  omega)
theorem op_to : Opn Tryz.prog W k53 53 (fun _ => True) := op_weaken (op_iso (fun x => ⟨x.1, x.2⟩) (fun _ => rfl) (op_arr2 Tryz.underlying53 cq3 cq3 op_i64)) (fun _ _ => trivial)
theorem op_term : Opn Tryz.prog W k56 56 (fun _ => True) := op_weaken (op_iso (fun x => ⟨x.1, x.2.1, x.2.2.1, x.2.2.2⟩) (fun _ => rfl)
  (op_struct Tryz.underlying56 cq3 (op_more rfl cq3 (op_int Tryz.underlying52) (op_more rfl cq3 op_i64 (op_more rfl cq3 op_to (op_last rfl cq3 (op_int Tryz.underlying54))))))) (fun _ _ => trivial)
theorem op_ins : Opn Tryz.prog W k75 75 szI := op_weaken (op_iso (fun x => ⟨x.1, x.2.1, x.2.2.1, x.2.2.2.1, x.2.2.2.2.1, x.2.2.2.2.2⟩) (fun _ => rfl)
  (op_struct Tryz.underlying75 cq3 (op_more rfl cq3 (op_int Tryz.underlying71) (op_more rfl cq3 (op_int Tryz.underlying72) (op_more rfl cq3 op_i64 (op_more rfl cq3 op_ints (op_more rfl cq3 (op_int Tryz.underlying73) (op_last rfl cq3 op_i64)))))))) (fun x hx => hx.2.2.2.1)
theorem op_block : Opn Tryz.prog W k58 58 szB := op_weaken (op_iso (fun x => ⟨x.1, x.2⟩) (fun _ => rfl)
  (op_struct Tryz.underlying58 cq3 (op_more rfl cq3 (op_slice 75 Tryz.underlying51 cq3 op_ins) (op_last rfl cq3 op_term)))) (fun b hb => by
    have h : b.f0.length * Tryz.prog.bytesOf 75 ≤ reachBytes := hb.1.1
    rw [show Tryz.prog.bytesOf 75 = 56 by kernel_rfl, show reachBytes = 140737488351232 from rfl] at h
    exact ⟨by omega, hb.1.2⟩)
theorem op_graph : Opn Tryz.prog W k50 50 szG := op_weaken (op_iso (fun x => ⟨x.1, x.2.1, x.2.2.1, x.2.2.2.1, x.2.2.2.2.1, x.2.2.2.2.2⟩) (fun _ => rfl)
  (op_struct Tryz.underlying50 cq3 (op_more rfl cq3 (op_string Tryz.underlying9) (op_more rfl cq3 op_ints (op_more rfl cq3 (op_int Tryz.underlying45) (op_more rfl cq3 op_types (op_more rfl cq3 op_arrays (op_last rfl cq3 (op_slice 58 Tryz.underlying48 cq3 op_block))))))))) (fun g hg => by
    have h : g.f5.length * Tryz.prog.bytesOf 58 ≤ reachBytes := hg.2.2.2.2.2.1
    have h2 : ∀ b ∈ g.f5, szB b := hg.2.2.2.2.2.2
    rw [show Tryz.prog.bytesOf 58 = 64 by kernel_rfl, show reachBytes = 140737488351232 from rfl] at h
    exact ⟨hg.2.1, hg.2.2.2.1, hg.2.2.2.2.1, by omega, h2⟩)
theorem op_graphs : Opn Tryz.prog W (Kd.slice 50 k50) 23 szP := op_weaken (op_slice 50 Tryz.underlying23 cq3 op_graph) (fun p hp => by
    obtain ⟨h, h2⟩ := hp
    rw [show Tryz.prog.bytesOf 50 = 120 by kernel_rfl, show reachBytes = 140737488351232 from rfl] at h
    exact ⟨by omega, h2⟩)
end
theorem open_graphs {H : Type} {enc : TypeId × Value → H} {W : World} {a : Option Addr} {len cap : Nat} {d : DataW H} {ps : List MemPlace}
    (h : DataW.Trod enc Tryz.prog W 0 (fun _ => true) true 23 (.slice a len cap) d ps) :
    ∃ l : List S50, l.length = len ∧ len ≤ cap ∧ Kd.C k50 W a len l ∧ ∀ {ts : List TypeId} {ds : List (DataW H)} {j : Nat}, (DataW.weightsEach Tryz.prog ts ds).all (· ≤ reachBytes) = true → ts[j]? = some 23 → ds[j]? = some d → szP l := Opn.arg op_graphs h
end Go.Proofs.YtligpleningglaaGreat.Lk
namespace Go.Proofs.YtligpleningglaaGreat.Lk
open Go Go.ChangeShapes Go.WideShapes Go.Deep Go.RowKit Go.Proofs.YtligpleningglaaGreatW.PrintWords Go.Proofs.YtligpleningglaaGreat.F Go.Proofs.YtligpleningglaaGreat.Ko
theorem op_rows {W : World} : Opn Tryz.prog W (Kd.slice 44 (Kd.slice 3 (Kd.int .i64))) 22 szN := op_weaken (op_slice 44 Tryz.underlying22 cq3 op_ints) (fun l hl => by
  have h : l.length * Tryz.prog.bytesOf 44 ≤ reachBytes := hl.1
  rw [show Tryz.prog.bytesOf 44 = 24 by kernel_rfl, show reachBytes = 140737488351232 from rfl] at h
  exact ⟨by omega, hl.2⟩)
theorem open_net {H : Type} {enc : TypeId × Value → H} {W : World} {a : Option Addr} {len cap : Nat} {d : DataW H} {ps : List MemPlace}
    (h : DataW.Trod enc Tryz.prog W 0 (fun _ => true) true 22 (.slice a len cap) d ps) :
    ∃ l : List (List Int), l.length = len ∧ len ≤ cap ∧ Kd.C (Kd.slice 3 (Kd.int .i64)) W a len l ∧ ∀ {ts : List TypeId} {ds : List (DataW H)} {j : Nat}, (DataW.weightsEach Tryz.prog ts ds).all (· ≤ reachBytes) = true → ts[j]? = some 22 → ds[j]? = some d → szN l := Opn.arg op_rows h
end Go.Proofs.YtligpleningglaaGreat.Lk
namespace Go.Proofs.YtligpleningglaaGreat.Ck
open Go Go.RowKit Go.Proofs.YtligpleningglaaGreatW.PrintWords Go.Proofs.YtligpleningglaaGreatW.PrintLast Go.Proofs.YtligpleningglaaGreatW.PrintMore Go.Proofs.YtligpleningglaaGreat.F Go.Proofs.YtligpleningglaaGreat.Lk Go.Proofs.YtligpleningglaaGreat.Cw Go.Proofs.YtligpleningglaaGreat.Keep Go.Proofs.YtligpleningglaaGreat.Mv
theorem S_past {α : Type} {d : Kd α} {e : Nat} {wa wb : World} {base b' : Nat} {v : Value} {xs : List α} (h : Kd.S d e wa base (fun _ => True) v xs) (hb : b' ≤ base) (hm : ∀ k, base ≤ k → k < wa.heap.size → wb.heap[k]? = wa.heap[k]?) : Kd.S d e wb b' (fun k => base ≤ k ∧ k < wa.heap.size) v xs :=
  Kd.S_lower (Kd.S_step (Kd.S_mono (Kd.S_bound h) (fun k hk => ⟨hk.2.1, hk.2.2.1⟩)) (fun k hk _ => hm k hk.1 hk.2)) hb
theorem R_past {α : Type} {d : Kd α} {e : Nat} {wa wb : World} {base b' : Nat} {v : Value} {xs : List α} (h : Kd.R d e wa base (fun _ => True) v xs) (hb : b' ≤ base) (hm : ∀ k, base ≤ k → k < wa.heap.size → wb.heap[k]? = wa.heap[k]?) : Kd.R d e wb b' (fun k => base ≤ k ∧ k < wa.heap.size) v xs :=
  Kd.R_lower (Kd.R_step (Kd.R_mono (Kd.R_bound h) (fun k hk => ⟨hk.2.1, hk.2.2.1⟩)) (fun k hk _ => hm k hk.1 hk.2)) hb
theorem rows2 {w : World} {base e sz n m : Nat} {u v : Value} {xs ys : List Value} (h : w.ownsRow base e sz u n xs) (k : w.ownsRow base e sz v m ys) : ∃ cs, RowsO w base e sz [u, v] [n, m] cs :=
  ⟨fun j => if j = 0 then xs else ys, fun j hj => by
    match j, hj with
    | 0, _ => exact h
    | 1, _ => exact k
    | j + 2, hj => exact absurd hj cq23⟩
theorem apart_two {u v : Value} (h : disj u v) (k : disj v u) : Apart [u, v] [u, v] := fun i j hij => by
  match i, j with
  | 0, 0 => exact absurd rfl hij
  | 0, 1 => exact h
  | 1, 0 => exact k
  | 1, 1 => exact absurd rfl hij
  | 0, j + 2 => exact disj_none_r rfl
  | 1, j + 2 => exact disj_none_r rfl
  | i + 2, j => exact .inl rfl
theorem callsKeeps_calls (A0 : Option Addr) (c0 : Nat) (l : List (List Int)) (B0 : Option Addr) (d0 : Nat) (p : List S50) (w : World)
    (hC : Kd.C (Kd.slice 3 (Kd.int .i64)) w A0 l.length l) (hc : l.length ≤ c0) (hl : szN l) (hP : Kd.C k50 w B0 p.length p) (hd : p.length ≤ d0) (hp : szP p) :
    Calls Tryz.prog 3 #[.slice A0 l.length c0, .slice B0 p.length d0] w fun e w' => e = .returned (.bool true) ∧ Below w.heap.size w w' := by
  have hnet : netOk l = true := by
    unfold netOk
    rw [Bool.and_eq_true, decide_eq_true_eq, List.all_eq_true]
    exact ⟨by have := hl.1; omega, fun x hx => by have := hl.2 x hx; rw [decide_eq_true_eq]; omega⟩
  have hpo : ProgOk p := ⟨by have := hp.1; omega, fun g hg => ⟨by have := (hp.2 g hg).2.2.2.1; omega, fun b hb => by have := ((hp.2 g hg).2.2.2.2 b hb).1; omega⟩⟩
  obtain ⟨b1, ⟨K1, h1⟩, g1⟩ := great_ev' (l0 := l) (by have := hl.1; omega)
  obtain ⟨b2, ⟨K2, h2⟩, g2⟩ := wide_ev' hpo
  obtain ⟨K3, h3⟩ := refParts_ev hnet
  have hle := resP_le (l0 := l)
  have F1 := qA (h1 K1 (Nat.le_refl _))
  have F2 := qA (h2 K2 (Nat.le_refl _))
  have F3 := qA (h3 K3 (Nat.le_refl _))
  have G1 := qA g1
  have G2 := qA g2
  have HLE := qA hle
  have HC := qA hC
  have HCC := qA hc
  have HL := qA hl
  have HP := qA hP
  have HD := qA hd
  have HPS := qA hp
  have HNET := qA hnet
  clear hnet hpo h1 g1 h2 g2 h3 hle hC hc hl hP hd hp
  go_enter Tryz.func3, Tryz.ntmps3
  go_wp2_with fail
  refine (smithylaw19_great.calls K1 A0 c0 l b1 w HC.out HCC.out F1.out).mono ?_
  rintro e w1 ⟨rfl, hb⟩
  have HB1 := qA hb.below
  clear hb
  cases b1 with
  | true =>
    go_wp2_with fail
    refine (awake_calls _).mono ?_
    rintro e w2 ⟨rfl, hb⟩
    have HB2 := qA (below_then HB1.out HB1.out.size hb)
    clear hb
    go_wp2
    go_ret
    exact ⟨rfl, HB2.out⟩
  | false =>
  have hl120 := G1.out rfl
  have L120 := qA hl120
  clear hl120 G1
  go_wp2_with fail
  refine (smithylaw19_wide.calls K2 B0 d0 p b2 _ (Kd.C_below HP.out HB1.out) HD.out F2.out).mono ?_
  rintro e w2 ⟨rfl, hb⟩
  have HB2 := qA (below_then HB1.out HB1.out.size hb.below)
  clear hb HB1
  cases b2 with
  | true =>
    go_wp2_with fail
    refine (awake_calls _).mono ?_
    rintro e w3 ⟨rfl, hb⟩
    have HB3 := qA (below_then HB2.out HB2.out.size hb)
    clear hb
    go_wp2
    go_ret
    exact ⟨rfl, HB3.out⟩
  | false =>
  obtain ⟨hcok, hp120⟩ := G2.out rfl
  have P120 := qA hp120
  have COK := qA hcok
  clear hp120 hcok G2
  go_wp2_with fail
  refine (lentRows_calls A0 c0 l w2 HCC.out (Kd.C_below HC.out HB2.out) HL.out.1 HL.out.2).mono ?_
  rintro e w3 ⟨v5, rfl, hM, hb⟩
  have M5 := qA hM
  have HS2 := qA HB2.out.size
  have B23 := qA hb
  have HB3 := qA (below_then HB2.out HB2.out.size hb)
  clear hM hb
  go_wp2_with fail
  refine (lentGraphs_calls B0 d0 p w3 HD.out (Kd.C_below HP.out HB3.out) HPS.out.1 HPS.out.2).mono ?_
  rintro e w4 ⟨v6, rfl, hM, hb⟩
  have M6 := qA hM
  have B34 := qA hb
  have HB4 := qA (below_then HB3.out HB3.out.size hb)
  have HK5 := qA (Kd.K_of_M _ (Kd.M_below M5.out hb))
  have HK6 := qA (Kd.K_of_M _ hM)
  clear hM hb
  obtain ⟨A5, c5, e5, hc5, hC5⟩ := lRows_weak HK5.out
  obtain ⟨A6, c6, e6, hc6, hC6⟩ := lGraphs_weak HK6.out
  have C5 := qA hC5
  have C6 := qA hC6
  have HC5 := qA hc5
  have HC6 := qA hc6
  clear hc5 hC5 hc6 hC6
  subst e5
  subst e6
  go_wp2_with fail
  refine (parts_calls w4 A5 c5 l C5.out HC5.out HNET.out).mono ?_
  rintro e w5 ⟨v7, rfl, hS, hb⟩
  have S7 := qA hS
  have B45 := qA hb
  have HB5 := qA (below_then HB4.out HB4.out.size hb)
  clear hS hb
  go_wp2_with fail
  refine (parts_calls w5 A5 c5 l (Kd.C_below C5.out B45.out) HC5.out HNET.out).mono ?_
  rintro e w6 ⟨v9, rfl, hS, hb⟩
  have S9 := qA hS
  have B56 := qA hb
  have HB6 := qA (below_then HB5.out HB5.out.size hb)
  have B46 := qA (below_then B45.out B45.out.size hb)
  clear hS hb
  go_wp2_with fail
  refine (called_calls w6 A6 c6 p (Kd.C_below C6.out B46.out) HC6.out COK.out).mono ?_
  rintro e w7 ⟨v11, rfl, hS, hb⟩
  have S11 := qA hS
  have B67 := qA hb
  have HB7 := qA (below_then HB6.out HB6.out.size hb)
  have B47 := qA (below_then B46.out B46.out.size hb)
  clear hS hb
  go_wp2_with fail
  refine (called_calls w7 A6 c6 p (Kd.C_below C6.out B47.out) HC6.out COK.out).mono ?_
  rintro e w8 ⟨v12, rfl, hS, hb⟩
  have S12 := qA hS
  have B78 := qA hb
  have HB8 := qA (below_then HB7.out HB7.out.size hb)
  have B48 := qA (below_then B47.out B47.out.size hb)
  clear hS hb
  go_wp2_with fail
  refine (round_calls w8 A6 c6 p (Kd.C_below C6.out B48.out) HC6.out COK.out).mono ?_
  rintro e w9 ⟨v13, rfl, hS, hb⟩
  have S13 := qA hS
  have B89 := qA hb
  have HB9 := qA (below_then HB8.out HB8.out.size hb)
  have B49 := qA (below_then B48.out B48.out.size hb)
  clear hS hb
  go_wp2_with fail
  refine (round_calls w9 A6 c6 p (Kd.C_below C6.out B49.out) HC6.out COK.out).mono ?_
  rintro e w10 ⟨v14, rfl, hS, hb⟩
  have S14 := qA hS
  have B910 := qA hb
  have HB10 := qA (below_then HB9.out HB9.out.size hb)
  have B410 := qA (below_then B49.out B49.out.size hb)
  clear hS hb
  go_wp2_with fail
  refine (keptRows_calls _ A0 c0 l w10 (Kd.K_below _ B410.out HK5.out) (Kd.C_below HC.out HB10.out) HCC.out HL.out.1 HL.out.2).mono ?_
  rintro e w11 ⟨rfl, hb⟩
  have HB11 := qA (below_then HB10.out HB10.out.size hb)
  have B411 := qA (below_then B410.out B410.out.size hb)
  have B1011 := qA hb
  clear hb
  go_wp2_with fail
  refine (keptGraphs_calls _ B0 d0 p w11 (Kd.K_below _ B411.out HK6.out) (Kd.C_below HP.out HB11.out) HD.out HPS.out.1 HPS.out.2).mono ?_
  rintro e w12 ⟨rfl, hb⟩
  have HB12 := qA (below_then HB11.out HB11.out.size hb)
  have B412 := qA (below_then B411.out B411.out.size hb)
  have B1012 := qA (below_then B1011.out B1011.out.size hb)
  clear hb
  go_wp2_with fail
  refine (overRows_calls l _ w2.heap.size (fun k => w2.heap.size ≤ k ∧ k < w3.heap.size) w12 (Kd.M_mono _ (fun k hk => ⟨hk.2.1, hk.2.2.1⟩) (Kd.M_below (Kd.M_below (Kd.M_bound _ M5.out) B34.out) B412.out)) HL.out.1 HL.out.2 ?_).mono ?_
  · have := HB12.out.size; have := B412.out.size; have := B34.out.size; have := B23.out.size; omega
  rintro e w13 ⟨rfl, ht⟩
  have HB13 := qA (HB12.out.trans (ht.1.mono HB2.out.size))
  have T13 := qA ht
  clear ht
  go_wp2_with fail
  refine (overGraphs_calls p _ w3.heap.size (fun k => w3.heap.size ≤ k ∧ k < w4.heap.size) w13 (M_touch (Kd.M_mono _ (fun k hk => ⟨hk.2.1, hk.2.2.1⟩) (Kd.M_below (Kd.M_bound _ M6.out) B412.out)) T13.out (fun k hk hk' => by have := hk.1; have := hk'.2; omega)) HPS.out.1 HPS.out.2 ?_).mono ?_
  · have := T13.out.1.size; have := B412.out.size; have := B34.out.size; omega
  rintro e w14 ⟨rfl, ht⟩
  have HB14 := qA (HB13.out.trans (ht.1.mono HB3.out.size))
  have KEEP : Aside0 (∀ k, w4.heap.size ≤ k → k < w12.heap.size → w14.heap[k]? = w12.heap[k]?) := ⟨fun k h1 h2 => by
    rw [ht.2 k (Nat.lt_of_lt_of_le h2 T13.out.1.size) (fun h => by have := h.2; omega), T13.out.2 k h2 (fun h => by have := h.2; have := B34.out.size; omega)]⟩
  have HS14 := qA (Nat.le_trans T13.out.1.size ht.1.size)
  clear ht T13
  go_wp2_with fail
  refine (smithyref19_Parts.calls K3 A0 c0 l (resP l).1 (resP l).2 w14 (Kd.C_below HC.out HB14.out) HCC.out F3.out).mono ?_
  rintro e w15 ⟨v15, rfl, hS, hb⟩
  have HB15 := qA (below_then HB14.out HB14.out.size hb)
  have B15 := qA hb
  obtain ⟨A15, c15, rfl, hc15, hC15⟩ := Kd.S_reads hS
  have C15 := qA hC15
  have HC15 := qA hc15
  clear hS hb hc15 hC15
  have P7 := qA (S_past (b' := w4.heap.size) (wb := w14) S7.out (Nat.le_refl _) (fun k h1 h2 => by
    have h5 := B1012.out.size; have h6 := B45.out.size
    have h7 : w5.heap.size ≤ w12.heap.size := Nat.le_trans (Nat.le_trans B56.out.size (Nat.le_trans B67.out.size (Nat.le_trans B78.out.size (Nat.le_trans B89.out.size B910.out.size)))) h5
    rw [KEEP.out k h1 cq2, (below_then B56.out B56.out.size (below_then B67.out B67.out.size (below_then B78.out B78.out.size (below_then B89.out B89.out.size (below_then B910.out B910.out.size B1012.out))))).block k h2]))
  have P9 := qA (S_past (b' := w4.heap.size) (wb := w14) S9.out B45.out.size (fun k h1 h2 => by
    have h5 := B1012.out.size; have h6 := B45.out.size
    have h7 : w6.heap.size ≤ w12.heap.size := Nat.le_trans (Nat.le_trans B67.out.size (Nat.le_trans B78.out.size (Nat.le_trans B89.out.size B910.out.size))) h5
    rw [KEEP.out k cq2 cq2, (below_then B67.out B67.out.size (below_then B78.out B78.out.size (below_then B89.out B89.out.size (below_then B910.out B910.out.size B1012.out)))).block k h2]))
  have P11 := qA (S_past (b' := w4.heap.size) (wb := w14) S11.out B46.out.size (fun k h1 h2 => by
    have h5 := B1012.out.size; have h6 := B46.out.size
    have h7 : w7.heap.size ≤ w12.heap.size := Nat.le_trans (Nat.le_trans B78.out.size (Nat.le_trans B89.out.size B910.out.size)) h5
    rw [KEEP.out k cq2 cq2, (below_then B78.out B78.out.size (below_then B89.out B89.out.size (below_then B910.out B910.out.size B1012.out))).block k h2]))
  have P12 := qA (S_past (b' := w4.heap.size) (wb := w14) S12.out B47.out.size (fun k h1 h2 => by
    have h5 := B1012.out.size; have h6 := B47.out.size
    have h7 : w8.heap.size ≤ w12.heap.size := Nat.le_trans (Nat.le_trans B89.out.size B910.out.size) h5
    rw [KEEP.out k cq2 cq2, (below_then B89.out B89.out.size (below_then B910.out B910.out.size B1012.out)).block k h2]))
  have P13 := qA (R_past (b' := w4.heap.size) (wb := w14) S13.out B48.out.size (fun k h1 h2 => by
    have h5 := B1012.out.size; have h6 := B48.out.size; have h7 := B910.out.size
    rw [KEEP.out k cq2 cq2, (below_then B910.out B910.out.size B1012.out).block k h2]))
  have P14 := qA (R_past (b' := w4.heap.size) (wb := w14) S14.out B49.out.size (fun k h1 h2 => by
    have h5 := B1012.out.size; have h6 := B49.out.size
    rw [KEEP.out k cq2 cq2, B1012.out.block k h2]))
  have Z1 : Aside0 (w4.heap.size ≤ w5.heap.size ∧ w5.heap.size ≤ w6.heap.size ∧ w6.heap.size ≤ w7.heap.size ∧ w7.heap.size ≤ w8.heap.size ∧ w8.heap.size ≤ w9.heap.size ∧ w9.heap.size ≤ w10.heap.size ∧ w10.heap.size ≤ w14.heap.size) :=
    ⟨B45.out.size, B56.out.size, B67.out.size, B78.out.size, B89.out.size, B910.out.size, Nat.le_trans B1012.out.size HS14.out⟩
  have HS4 := qA HB4.out.size
  clear S7 S9 S11 S12 S13 S14 KEEP M5 M6 HK5 HK6 C5 C6 B23 B34 B45 B46 B47 B48 B49 B410 B411 B412 B56 B67 B78 B89 B910 B1011 B1012 HB2 HB3 HB4 HB5 HB6 HB7 HB8 HB9 HB10 HB11 HB12 HB13 HC5 HC6 HS14 HS2
  obtain ⟨A7, c7, e7, hc7, hC7⟩ := Kd.S_reads P7.out
  have C7 := qA hC7
  have HC7 := qA hc7
  clear hc7 hC7
  subst e7
  obtain ⟨A9, c9, e9, -, -⟩ := Kd.S_reads P9.out
  subst e9
  obtain ⟨A12, c12, e12, -, -⟩ := Kd.S_reads P12.out
  subst e12
  obtain ⟨A13, c13, e13, -, -⟩ := Kd.R_reads P13.out
  subst e13
  obtain ⟨A14, c14, e14, -, -⟩ := Kd.R_reads P14.out
  subst e14
  obtain ⟨A11, c11, e11, hc11, hC11⟩ := Kd.S_reads P11.out
  have C11 := qA hC11
  have HC11 := qA hc11
  clear hc11 hC11
  subst e11
  go_wp2_with fail
  refine (sameRows_eq A7 A15 c7 c15 (resP l).1 w15 (Kd.C_below C7.out B15.out) HC7.out C15.out HC15.out (by have := HLE.out.1; have := L120.out; omega) (fun x hx => by have := HLE.out.2 x hx; have := L120.out; omega)).mono ?_
  rintro e w16 ⟨rfl, hb⟩
  have HB16 := qA (below_then HB15.out HB15.out.size hb)
  have B16 := qA (below_then B15.out B15.out.size hb)
  clear hb C15 B15 HB15
  go_wp2_with fail
  refine (refCalled_calls w16 B0 d0 p (Kd.C_below HP.out HB16.out) HD.out (by have := P120.out; omega)).mono ?_
  rintro e w17 ⟨v17, rfl, hS, hb⟩
  have HB17 := qA (below_then HB16.out HB16.out.size hb)
  have B17 := qA (below_then B16.out B16.out.size hb)
  obtain ⟨A17, c17, rfl, hc17, hC17⟩ := Kd.S_reads hS
  have C17 := qA hC17
  have HC17 := qA hc17
  clear hS hb hc17 hC17 HB16 B16
  go_wp2_with fail
  refine (sameRows_eq A11 A17 c11 c17 (calledL p) w17 (Kd.C_below C11.out B17.out) HC11.out C17.out HC17.out (by have := called_len p; have := P120.out; omega) (fun x hx => by have := called_le x hx; have := P120.out; omega)).mono ?_
  rintro e w18 ⟨rfl, hb⟩
  have HB18 := qA (below_then HB17.out HB17.out.size hb)
  have B18 := qA (below_then B17.out B17.out.size hb)
  clear hb C17 B17 HB17
  obtain ⟨X, hX⟩ : ∃ X, X = w18.alloc (.cells #[.slice A7 (resP l).1.length c7, .slice A9 (resP l).1.length c9, .slice A11 (calledL p).length c11, .slice A12 (calledL p).length c12] 22) := ⟨_, rfl⟩
  have BX : Below w14.heap.size w14 X := by rw [hX]; exact B18.out.alloc B18.out.size _
  have HBX := qA (show Below w.heap.size w X by rw [hX]; exact HB18.out.alloc HB18.out.size _)
  obtain ⟨vss, ns, f1, f2, f3, f4, f5, f6, f7, f8, f9, f10, f11, f12⟩ := rows_apart X w4.heap.size w18.heap.size 120 [.slice A7 (resP l).1.length c7, .slice A9 (resP l).1.length c9, .slice A11 (calledL p).length c11, .slice A12 (calledL p).length c12] [(resP l).1, (resP l).1, calledL p, calledL p]
    (fun k => [w4.heap.size, w5.heap.size, w6.heap.size, w7.heap.size].getD k 0) (fun k => [w5.heap.size, w6.heap.size, w7.heap.size, w8.heap.size].getD k 0)
    (fun k hk => by
      match k, hk with
      | 0, _ => exact Kd.S_step P7.out (fun k _ h => BX.block k h)
      | 1, _ => exact Kd.S_step P9.out (fun k _ h => BX.block k h)
      | 2, _ => exact Kd.S_step P11.out (fun k _ h => BX.block k h)
      | 3, _ => exact Kd.S_step P12.out (fun k _ h => BX.block k h)
      | k + 4, hk => exact absurd hk cq23)
    (fun i j hij hj => by
      obtain ⟨z1, z2, z3, z4, z5, z6, z7⟩ := Z1.out
      match i, j, hij, hj with
      | 0, 1, _, _ => exact Nat.le_refl _
      | 0, 2, _, _ => exact z2
      | 0, 3, _, _ => exact Nat.le_trans z2 z3
      | 1, 2, _, _ => exact Nat.le_refl _
      | 1, 3, _, _ => exact z3
      | 2, 3, _, _ => exact Nat.le_refl _
      | i + 3, 3, h, _ => exact absurd h cq2
      | i + 2, 2, h, _ => exact absurd h cq2
      | i + 1, 1, h, _ => exact absurd h cq2
      | i, 0, h, _ => exact absurd h cq2
      | i, j + 4, _, hj => exact absurd hj cq23)
    (fun k hk => by
      obtain ⟨z1, z2, z3, z4, z5, z6, z7⟩ := Z1.out
      have := B18.out.size
      match k, hk with
      | 0, _ => show w5.heap.size ≤ _; omega
      | 1, _ => show w6.heap.size ≤ _; omega
      | 2, _ => show w7.heap.size ≤ _; omega
      | 3, _ => show w8.heap.size ≤ _; omega
      | k + 4, hk => exact absurd hk cq23)
    (fun k i => by
      have h1 := HLE.out
      have h2 := L120.out
      have h3 := P120.out
      match k with
      | 0 => exact Nat.le_trans (getD_le h1.2 i) h2
      | 1 => exact Nat.le_trans (getD_le h1.2 i) h2
      | 2 => exact Nat.le_trans (getD_le called_le i) h3
      | 3 => exact Nat.le_trans (getD_le called_le i) h3
      | k + 4 => simp)
  have hm4 : (flatN vss 4).length ≤ 480 := by
    have a0 := f2 0 cq23
    have a1 := f2 1 cq23
    have a2 := f2 2 cq23
    have a3 := f2 3 cq23
    have h1 := HLE.out.1
    have h2 := L120.out
    have h3 := P120.out
    have h4 := called_len p
    have a0' : (vss 0).length = (resP l).1.length := a0
    have a1' : (vss 1).length = (resP l).1.length := a1
    have a2' : (vss 2).length = (calledL p).length := a2
    have a3' : (vss 3).length = (calledL p).length := a3
    simp only [flatN, List.length_append, List.length_nil]
    omega
  have HLit : Aside0 (X.ownsRow w4.heap.size 22 1 (.slice (some ⟨w18.heap.size, 0, none⟩) 4 4) 4 [.slice A7 (resP l).1.length c7, .slice A9 (resP l).1.length c9, .slice A11 (calledL p).length c11, .slice A12 (calledL p).length c12]) :=
    ⟨by rw [hX]; exact World.ownsRow_lit (e := 22) (base := w4.heap.size) (size := 1) w18 #[.slice A7 (resP l).1.length c7, .slice A9 (resP l).1.length c9, .slice A11 (calledL p).length c11, .slice A12 (calledL p).length c12] 4 (by have := Z1.out; have := B18.out.size; omega) (by simp [maxLen]) rfl⟩
  have HBASE : Aside0 (w4.heap.size ≤ X.heap.size) := ⟨by have := Z1.out; have := BX.size; omega⟩
  have AP := qA (ApartRows_calls w4.heap.size (some ⟨w18.heap.size, 0, none⟩) 4 [.slice A7 (resP l).1.length c7, .slice A9 (resP l).1.length c9, .slice A11 (calledL p).length c11, .slice A12 (calledL p).length c12] vss ns X hm4 cq23 (fun j => by have := f5 j; omega) HBASE.out HLit.out f1 f3 f4 f6 (f7 _ _) f8 f9 (f10 _ _))
  have FL := qA f11
  have FR := qA f12
  have BXA := qA BX
  clear f1 f2 f3 f4 f5 f6 f7 f8 f9 f10 f11 f12 hm4 BX HLit
  have HX := qA hX
  go_wp2_with fail
  rw [← HX.out]
  clear hX
  refine AP.out.mono ?_
  rintro e w19 ⟨rfl, hb, hk⟩
  have HB19 := qA (HBX.out.trans (hb.mono HS4.out))
  have KX : Aside0 (∀ k, w8.heap.size ≤ k → k < w10.heap.size → w19.heap[k]? = w14.heap[k]?) := ⟨fun k h1 h2 => by
    obtain ⟨z1, z2, z3, z4, z5, z6, z7⟩ := Z1.out
    have hlo : ∀ j, j < 4 → [w5.heap.size, w6.heap.size, w7.heap.size, w8.heap.size].getD j 0 ≤ w8.heap.size := fun j hj => by
      match j, hj with
      | 0, _ => show w5.heap.size ≤ _; omega
      | 1, _ => show w6.heap.size ≤ _; omega
      | 2, _ => show w7.heap.size ≤ _; omega
      | 3, _ => exact Nat.le_refl _
    have h3 := BXA.out.size
    rw [hk k cq2 (fun j hj e => by
      have h9 : k < [w5.heap.size, w6.heap.size, w7.heap.size, w8.heap.size].getD j 0 := (FR.out j k hj e).2
      have := hlo j hj
      omega) (fun j e => by
      obtain ⟨i, hi, hq⟩ := FL.out j k e
      have := hlo i hi
      have h9 : k < [w5.heap.size, w6.heap.size, w7.heap.size, w8.heap.size].getD i 0 := hq.2
      omega)]
    exact BXA.out.block k cq2⟩
  have SZ19 := qA (Nat.le_trans (Nat.le_trans (Nat.le_trans HBASE.out hb.size) (Nat.le_refl _)) (Nat.le_refl _))
  clear hb hk AP FL FR
  have Q13 := qA (Kd.R_step P13.out (w1 := w19) (fun k h _ => KX.out k h.1 (by have := Z1.out; have := h.2; omega)))
  have Q14 := qA (Kd.R_step P14.out (w1 := w19) (fun k h _ => KX.out k (by have := Z1.out; have := h.1; omega) h.2))
  clear KX
  obtain ⟨Y, hY⟩ : ∃ Y, Y = w19.alloc (.cells #[.slice A13 (roundL p).length c13, .slice A14 (roundL p).length c14] 33) := ⟨_, rfl⟩
  have HBY := qA (show Below w.heap.size w Y by rw [hY]; exact HB19.out.alloc HB19.out.size _)
  have HLit : Aside0 (Y.ownsRow w4.heap.size 33 1 (.slice (some ⟨w19.heap.size, 0, none⟩) 2 2) 2 [.slice A13 (roundL p).length c13, .slice A14 (roundL p).length c14]) :=
    ⟨by rw [hY]; exact World.ownsRow_lit (e := 33) (base := w4.heap.size) (size := 1) w19 #[.slice A13 (roundL p).length c13, .slice A14 (roundL p).length c14] 2 SZ19.out (by simp [maxLen]) rfl⟩
  have AT : Aside0 (Calls Tryz.prog 20 #[.slice (some ⟨w19.heap.size, 0, none⟩) 2 2] Y fun e w' => e = .returned (.bool true) ∧ Below w4.heap.size Y w' ∧ KQ Y w' [.slice A13 (roundL p).length c13, .slice A14 (roundL p).length c14]) := ⟨by
    obtain ⟨i1, o1⟩ := Kd.R_own Q13.out
    obtain ⟨i2, o2⟩ := Kd.R_own Q14.out
    have hrl := roundL_len p
    have h3 := P120.out
    refine ApartTruths_calls w4.heap.size (some ⟨w19.heap.size, 0, none⟩) 2 [.slice A13 (roundL p).length c13, .slice A14 (roundL p).length c14] [(roundL p).length, (roundL p).length] Y cq23 (fun j => ?_) (by rw [hY]; have := SZ19.out; simp; omega) HLit.out ?_ ?_
    · match j with
      | 0 => show (roundL p).length + 64 ≤ _; omega
      | 1 => show (roundL p).length + 64 ≤ _; omega
      | j + 2 => simp
    · rw [hY]; exact rows2 (o1.alloc _) (o2.alloc _)
    · refine apart_two (disj_some (fun q h1 h2 => ?_)) (disj_some (fun q h1 h2 => ?_))
      · have := (Q13.out.1 q h1).2; have := (Q14.out.1 q h2).1; omega
      · have := (Q13.out.1 q h2).2; have := (Q14.out.1 q h1).1; omega⟩
  clear Q13 Q14 HLit P7 P9 P11 P12 P13 P14
  have HYA := qA hY
  go_wp2_with fail
  rw [← HYA.out]
  clear hY
  refine AT.out.mono ?_
  rintro e w20 ⟨rfl, hb, -⟩
  have HB20 := qA (HBY.out.trans (hb.mono HS4.out))
  clear hb AT
  go_wp2_with fail
  refine (awake_calls _).mono ?_
  rintro e w21 ⟨rfl, hb⟩
  have HB21 := qA (below_then HB20.out HB20.out.size hb)
  clear hb
  go_wp2
  go_ret
  exact ⟨rfl, HB21.out⟩
theorem callsKeeps_walk (A0 : Option Addr) (len0 cap0 : Nat) (l0 : List (List Int)) (A1 : Option Addr) (len1 cap1 : Nat) (l1 : List S50) (W : World)
    (hl0 : l0.length = len0) (hlc0 : len0 ≤ cap0) (hC0 : Kd.C (Kd.slice 3 (Kd.int .i64)) W A0 len0 l0) (y0 : szN l0) (hl1 : l1.length = len1) (hlc1 : len1 ≤ cap1) (hC1 : Kd.C k50 W A1 len1 l1) (y1 : szP l1) :
    Calls Tryz.prog 3 #[.slice A0 len0 cap0, .slice A1 len1 cap1] W fun e W' => e = .returned (.bool true) ∧ Below W.heap.size W W' := by
  subst hl0
  subst hl1
  exact callsKeeps_calls A0 cap0 l0 A1 cap1 l1 W hC0 hlc0 y0 hC1 hlc1 y1
end Go.Proofs.YtligpleningglaaGreat.Ck
namespace Go.Proofs.YtligpleningglaaGreat.callsKeeps
open Go.ChangeShapes Go.WideShapes Go.ChangeAt Go.RowKit Go.Proofs.YtligpleningglaaGreatW
open Go.ChangeMaps (open_string shut_string)
theorem own : ownKnob Tryz.prog.godebug = none := by kernel_rfl
theorem laidOut : laidOutB Tryz.prog = true := by kernel_rfl
theorem lifted (os : Os) (started : os.Started) (H : Type) (enc : TypeId × Value → H) :
    ReturnsInHanded {} Tryz.checked os 3 .any (Rows.callsKeepsSpec.pre6 enc Tryz.prog Tryz.f3 Rows.callsKeepsRow.domain false) (Rows.callsKeepsSpec.post enc Tryz.prog Tryz.f3 false true false false) := by
  refine returnsInHanded_of_change_sized (C := Tryz.checked) own started cq3 Tryz.func3
    (ChangeSpec.witness6 (enc := enc) (C := Tryz.checked) false ⟨#[], #[.slice none 0 0, .slice none 0 0], []⟩ 8 cq3 cq3 cq3 cq3) ?_
  intro W base args ds gs before hval0 hW hcnd hsz0 _
  have hsz : (DataW.weightsEach Tryz.prog (Tryz.f3.params.toList ++ Rows.callsKeepsSpec.plain.varTypes Tryz.prog) (ds ++ gs)).all (· ≤ reachBytes) = true := hsz0
  have hval : ∀ (j : Nat) t v, Tryz.f3.params[j]? = some t → args[j]? = some v → Value.okWide Tryz.prog W .any base t v := hval0
  have hW' := hW
  obtain ⟨p, q, hA0, hV, rfl, hfz, hnd⟩ := hW
  have hA : DataW.TrodAll enc Tryz.prog W 0 (fun _ => true) true Tryz.f3.params.toList args.toList ds p := hA0
  rw [Tryz.params3] at hA hval hsz
  obtain ⟨v0, vs0, d0, ds0, p0, q0, hargs, rfl, rfl, h0, r0⟩ := trodAll_cons hA
  obtain ⟨v1, vs1, d1, ds1, p1, q1, rfl, rfl, rfl, h1, r1⟩ := trodAll_cons r0
  obtain ⟨rfl, rfl, rfl⟩ := trodAll_nil r1
  obtain rfl : args = #[v0, v1] := by cases args; simp_all
  obtain ⟨rfl, rfl⟩ := trodVars_none hV
  obtain ⟨a0, len0, cap0, rfl⟩ := okWide_slice Tryz.underlying22 (hval 0 22 v0 rfl rfl)
  have k0 := h0
  have lt0 : ∀ x ∈ p0, x.block < W.heap.size := by obtain ⟨m, hm⟩ := k0; exact DataW.trod_lt m _ _ _ hm
  obtain ⟨l0, hl0, hlc0, hC0, hsm0⟩ := Lk.open_net h0
  have y0 := hsm0 hsz (j := 0) rfl rfl
  obtain ⟨a1, len1, cap1, rfl⟩ := okWide_slice Tryz.underlying23 (hval 1 23 v1 rfl rfl)
  have k1 := h1
  have lt1 : ∀ x ∈ p1, x.block < W.heap.size := by obtain ⟨m, hm⟩ := k1; exact DataW.trod_lt m _ _ _ hm
  obtain ⟨l1, hl1, hlc1, hC1, hsm1⟩ := Lk.open_graphs h1
  have y1 := hsm1 hsz (j := 1) rfl rfl
  clear hA0 hval0 hsz0 hsz
  refine (Ck.callsKeeps_walk a0 len0 cap0 l0 a1 len1 cap1 l1 W hl0 hlc0 hC0 y0 hl1 hlc1 hC1 y1).mono fun e W' ⟨he, bel⟩ => ?_
  subst he
  exact ⟨_, rfl, _, _, _, [], _, [], hW', trodAll_mk1 (shut_bool Tryz.underlying4 _), (trodAll_cons_mk (Below.trod laidOut cq3 (qO cq3) k0 bel lt0) (trodAll_cons_mk (Below.trod laidOut cq3 (qO cq3) k1 bel lt1) trodAll_mk0)), rfl, bel.frame _, fun h => by cases h⟩
theorem over : Rows.callsKeepsRow.holds Tryz.pinned (OpenSpec.ofChange Rows.callsKeepsSpec) :=
  OpenClaim.holds_of_wide 3 Tryz.f3 rfl rfl rfl rfl rfl rfl rfl ⟨rfl, rfl, rfl, rfl, rfl⟩ rfl rfl rfl rfl rfl cq3 Tryz.func3 cq3
    (qO cq3) (by unfold Func.isWrapper; first | (rw [if_pos (by decide +kernel)]; kernel_rfl) | (rw [if_neg (by decide +kernel)]; exact ⟨rfl, rfl⟩))
    (fun os started H enc _ => lifted os started H enc)
theorem proved : Rows.CallsKeepsSaid := over
#print axioms proved
end Go.Proofs.YtligpleningglaaGreat.callsKeeps
namespace Go.Proofs.YtligpleningglaaGreat
theorem callsKeeps_holds : Rows.CallsKeepsSaid := callsKeeps.proved
end Go.Proofs.YtligpleningglaaGreat
