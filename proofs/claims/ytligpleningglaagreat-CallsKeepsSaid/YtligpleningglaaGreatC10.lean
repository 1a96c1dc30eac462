/- Texts of this proof, joined in build order: Fxf89, Lu, Rs, FlatJ. -/
import Derived.Test.YtligpleningglaaGreatCz
import Derived.Test.YtligpleningglaaGreatC02
import Derived.Test.YtligpleningglaaGreatC09
import Derived.Laws.MakeOwn
import Derived.Orders
import Derived.RegionTactic
import Derived.Tactics
import Derived.KernelRfl
import Derived.Deep.DeepCutAuto
import Derived.Maps.Range
set_option linter.unusedVariables false
set_option linter.unusedSimpArgs false
set_option linter.unusedSectionVars false
set_option maxHeartbeats 8000000
set_option maxRecDepth 100000
namespace Go.Proofs.YtligpleningglaaGreat.F
open Go.RowKit Go.Proofs.YtligpleningglaaGreatW.PrintWords Go.Proofs.YtligpleningglaaGreatW.PrintLast Go.Proofs.YtligpleningglaaGreatW.PrintMore
attribute [local go_sem] min2_int min_two
def smithykit_markArray.f (a0 : Int) (a1 : Int) : Option (Int × Int) := (smithykit_mark.f a0 a1).bind fun t297 => (some (0, t297))
theorem smithykit_markArray.calls (a0 : Int) (a1 : Int) (r1 : Int) (r2 : Int) (w : World) (h : smithykit_markArray.f a0 a1 = some (r1, r2)) :
    Calls Tryz.prog 89 #[.int .i64 a0, .int .i64 a1] w fun e w' => e = .returned (.agg #[.int .u8 r1, .int .i64 r2]) ∧ Below w.heap.size w w' := by
 have hu155 := Tryz.underlying155
 have HB := qA (Below.refl w.heap.size w)
 have H : ((smithykit_mark.f a0 a1).bind fun t297 => (some (0, t297))) = some (r1, r2) := h
 clear h
 replace H := Option.bind_eq_some_iff.mp H
 obtain ⟨t297, A30, H⟩ := H
 replace H : (some (0, t297)) = some (r1, r2) := H
 have A3 := qA A30
 clear A30
 simp only [Option.some.injEq, Prod.mk.injEq] at H
 obtain ⟨rfl, rfl⟩ := H
 go_enter Tryz.func89, Tryz.ntmps89
 go_wp2_with (first | ((with_reducible refine gate_dst (N := 4) rfl ?_); refine box_event ?hg (N := 4) ?hd (cs := #[.int .u8 0, .int .i64 0]) (t := 155) ?hr ?_; (case hd => rfl); (case hg => rfl); (case hr => first | (go_simp; done) | (go_simp; rfl)); intro gb296 hg w4 hbox hb; have n0_ := qA (below_step cq1 hb); have n1_ := qA (hbox); have n2_ := qA ((by rw [hg]; exact (below_size cq1) : w.heap.size ≤ gb296)); have n3_ := qA ((by rw [hg]; exact (below_size cq1) : w.heap.size ≤ gb296)); clear HB; have HB := n0_; have BK296 := n1_; have GW296 := n2_; have GE296 := n3_; clear n0_ n1_ n2_ n3_; clear hb hbox hg) | ((with_reducible refine gate_callee (f := 24) rfl ?_); refine goesL_ (some 7) rfl rfl Tryz.func24 cq3 rfl #[.int .i64 a0, .int .i64 a1] rfl cq11 ?_; (with_reducible refine (smithykit_mark.calls a0 a1 t297 _ A3.out).mono ?_); rintro e w' ⟨rfl, ⟨nd, rfl⟩⟩; refine ⟨_, rfl, ?_⟩; (try (rw [drewN_self w4]; generalize hq_ : World.drewN w4 _ = w4; have n0_ : Aside0 (w4.heap[gb296]? = some (.cells #[.int .u8 0, .int .i64 0] 155 (0, 0))) := ⟨by rw [← hq_]; exact (by (with_reducible repeat (first | refine blk_drewN ?_ _ | refine blk_drew ?_ | refine blk_alloc ?_ _)); exact BK296.out)⟩; have n1_ : Aside0 (Below w.heap.size w w4) := ⟨by rw [← hq_]; exact (by repeat (first | (with_reducible first | exact HB.out | apply below_alloc | apply pw_below_drewN | apply below_drew1 | refine below_set ?_ GE296.out) | exact HB.out))⟩; clear BK296 HB hq_; have BK296 := n0_; have HB := n1_; clear n0_ n1_)); have hcz5_0 : w4.cell? ⟨gb296, 0, none⟩ = some (.int .u8 0) := (blk_cell BK296.out 0).trans rfl; have hcz5_1 : w4.cell? ⟨gb296, 1, none⟩ = some (.int .i64 0) := (blk_cell BK296.out 1).trans rfl; have hfz5_0 := blk_frozen BK296.out 0; have hfz5_1 := blk_frozen BK296.out 1))
 refine bodyPost_ret (results_cell_row rfl _ _ gb296 155 #[.int .u8 0, .int .i64 t297] (0, 0) _ rfl (by (with_reducible repeat (first | refine blk_drewN ?_ _ | refine blk_drew ?_ | refine blk_alloc ?_ _)); refine blk_put (cs := #[.int .u8 0, .int .i64 0]) ?_ 1 _ rfl; (with_reducible repeat (first | refine blk_drewN ?_ _ | refine blk_drew ?_ | refine blk_alloc ?_ _)); refine blk_put (cs := #[.int .u8 0, .int .i64 0]) ?_ 0 _ rfl; (with_reducible repeat (first | refine blk_drewN ?_ _ | refine blk_drew ?_ | refine blk_alloc ?_ _)); exact BK296.out) Tryz.underlying155 rfl cq3) rfl ?_
 exact ⟨by first | rfl | (simp <;> rfl) | (simp [*] <;> rfl), by repeat (first | (with_reducible first | exact HB.out | apply below_alloc | apply pw_below_drewN | apply below_drew1 | refine below_set ?_ GE296.out) | exact HB.out)⟩
end Go.Proofs.YtligpleningglaaGreat.F
namespace Go.Proofs.YtligpleningglaaGreat.Lk
open Go Go.RowKit Go.Proofs.YtligpleningglaaGreatW.PrintWords Go.Proofs.YtligpleningglaaGreatW.PrintLast Go.Proofs.YtligpleningglaaGreatW.PrintMore Go.Proofs.YtligpleningglaaGreat.F
def mkI (k i : Int) : Int := 1000003 * (k + 7) + i
theorem w64_small {n : Int} (h0 : -9223372036854775808 ≤ n) (h1 : n ≤ 9223372036854775807) : wrap64 n = n := by unfold wrap64; omega
theorem mark_f (k i : Int) (h0 : 0 ≤ k) (h1 : k ≤ 1000) (h2 : 0 ≤ i) (h3 : i ≤ 281474976710656) : smithykit_mark.f k i = some (mkI k i) := by
  unfold smithykit_mark.f mkI
  rw [w64_small (n := k + 7) cq2 cq2, w64_small (n := 1000003 * (k + 7)) cq2 cq2, w64_small cq2 cq2]
theorem mark_calls (k i : Int) (w : World) (h0 : 0 ≤ k) (h1 : k ≤ 1000) (h2 : 0 ≤ i) (h3 : i ≤ 281474976710656) : Calls Tryz.prog 24 #[.int .i64 k, .int .i64 i] w fun e w' => e = .returned (.int .i64 (mkI k i)) ∧ Below w.heap.size w w' := by
  refine (smithykit_mark.calls k i (mkI k i) w (mark_f k i h0 h1 h2 h3)).mono ?_
  rintro e w' ⟨rfl, ⟨nd, rfl⟩⟩
  exact ⟨rfl, pw_below_drewN (Below.refl _ _) _⟩
theorem markArray_calls (k i : Int) (w : World) (h0 : 0 ≤ k) (h1 : k ≤ 1000) (h2 : 0 ≤ i) (h3 : i ≤ 281474976710656) : Calls Tryz.prog 89 #[.int .i64 k, .int .i64 i] w fun e w' => e = .returned (.agg #[.int .u8 0, .int .i64 (mkI k i)]) ∧ Below w.heap.size w w' := by
  refine smithykit_markArray.calls k i 0 (mkI k i) w ?_
  unfold smithykit_markArray.f
  rw [mark_f k i h0 h1 h2 h3]
  rfl
def mI (i : Int) : Int := mkI 1 i
def mT (i : Int) : Int := mkI 1 i % 256
def mA (i : Int) : S155 := ⟨0, mkI 1 i⟩
def lInts : Kd (List Int) := hid 3 (Kd.int .i64) List.length (fun l => l ++ mks mI 12)
theorem lentInts_calls (A : Option Addr) (c : Nat) (l : List Int) (w : World) (hr : Kd.C (Kd.int .i64) w A l.length l) (hc : l.length ≤ c) (hl : (l.length + 12) * 8 ≤ 140737488355328) :
    Calls Tryz.prog 23 #[.slice A l.length c] w fun e w' => ∃ v, e = .returned v ∧ lInts.M w' w.heap.size (fun _ => True) l [v] ∧ Below w.heap.size w w' := by
  have HR := qA hr
  obtain ⟨i0, hi, hz0, hz1, hz2⟩ := info_parts info3
  obtain ⟨w0, hrun, hown, hg⟩ := run_make_own (P := Tryz.prog) w w.heap.size 44 3 i0 (.int .i64 0) 1 Tryz.underlying44 hi hz0 hz1 .i64 .i64 (l.length + 12) cq49 cq35 (Nat.le_refl _)
  rw [show ((l.length + 12 : Nat) : Int) = (l.length : Int) + 12 by omega] at hrun
  have HB0 : Aside0 (Below w.heap.size w w0) := ⟨(Below.refl _ _).grown hg (Nat.le_refl _) (fun k hk => by cases hk)⟩
  have HO0 : Aside0 (Kd.R (Kd.int .i64) 3 w0 w.heap.size (fun _ => True) (.slice (some ⟨w.heap.size, 0, none⟩) 0 (l.length + 12)) []) := ⟨⟨fun _ _ => trivial, [], hown, Reps.none _ _⟩⟩
  have hlm : l.length + 12 ≤ 9223372036854775807 := by omega
  have HL := qA hl
  clear hi hz0 hz1 hz2 hown hg hr hl
  go_enter Tryz.func23, Tryz.ntmps23
  go_wp2_with (first | ((with_reducible refine gate_builtin (b := .append) (xs := #[.tmp 9, .tmp 10]) rfl ?_); at_builtin; go_loud (refine Kd.R_append_rows (Kd.int .i64) (Rr := fun x cs => Kd.K (Kd.int .i64) w0 x cs) (w0 := w) w.heap.size rfl (.tmp 9) (.tmp 10) 44 3 (.int .i64 0) 8 rfl Tryz.underlying44 info3 rfl cq6 cq2 _ [] l A l.length c (fun _ => True) (fun _ => False) rfl rfl HO0.out ?aR ?aK (fun _ hk => hk.elim) ?aF ?aB ?aS ?aL ?_; (case aR => exact Kd.C_below HR.out HB0.out); (case aK => exact fun x cs h => h); (case aF => exact fun _ _ => trivial); (case aB => exact HB0.out); (case aS => exact HB0.out.size); (case aL => have := HL.out; simp; omega); intro v1 w1 ho hb hg hat; have HO1 := qA ho; have HB1 := qA hb; clear ho hb hg hat)))
  go_loopw [3, 4] (fun v3 v4 wr => ∃ j : Nat, j ≤ 12 ∧ v4 = .int .i64 (j : Int) ∧ Aside0 (Kd.R (Kd.int .i64) 3 wr w.heap.size (fun _ => True) v3 (l ++ mks mI j)) ∧ Aside0 (Below w.heap.size w wr)) (fun _ i _ => 12 - (intOf i).toNat)
  case atStart => exact ⟨0, by omega, rfl, ⟨by have := HO1.out; simpa [mks] using this⟩, HB1⟩
  case round =>
    clear HO1 HB1
    obtain ⟨j, hj, rfl, HO, HB⟩ := hrel
    by_cases hlt : j < 12
    · have HJ := qA (show l ++ mks mI (j + 1) = (l ++ mks mI j) ++ [mI (j : Int)] by rw [mks_succ, List.append_assoc])
      have HLL := qA (show (l ++ mks mI j).length = l.length + j by rw [List.length_append, mks_len])
      have hlt' : (j : Int) < 12 := by omega
      go_wp2_with fail
      refine (mark_calls 1 (j : Int) _ cq2 cq2 cq2 cq2).mono ?_
      rintro e w2 ⟨rfl, hb⟩
      have HO2 := qA (Kd.R_below HO.out hb)
      have HB2 := qA (below_then HB.out HB.out.size hb)
      clear hb
      go_wp2_with (first | ((with_reducible refine gate_builtin (b := .append) (xs := #[.tmp 16, .tmp 19]) rfl ?_); at_builtin; go_loud (refine Kd.R_append (Kd.int .i64) (w0 := w) w.heap.size rfl (.tmp 16) (.tmp 19) 44 3 (.int .i64 0) 8 rfl Tryz.underlying44 info3 rfl cq6 cq2 u3 (l ++ mks mI j) (mI (j : Int)) [.int .i64 (mkI 1 (j : Int))] (fun _ => True) (fun _ => False) rfl rfl ?aM (fun _ hk => hk.elim) (fun _ _ => trivial) HO2.out HB2.out HB2.out.size ?aL ?_; (case aM => exact rfl); (case aL => have := HLL.out; have := HL.out; omega); intro v1 w1 ho hb hg hat; have HO4 := qA ho; have HB4 := qA hb; clear ho hb hg hat)))
      go_roundw
      case rel => exact ⟨j + 1, by omega, by go_num, ⟨by rw [HJ.out]; exact HO4.out⟩, HB4⟩
      case measure => simp [intOf]; omega
    · obtain rfl : j = 12 := by omega
      have hge : ¬ (12 : Int) < 12 := by omega
      have HLL := qA (show (l ++ mks mI 12).length = l.length + 12 by rw [List.length_append, mks_len])
      obtain ⟨g, cap, rfl, hgb, hgl, _⟩ := Kd.R_form HO.out cq55
      have hrd := Kd.R_reads' HO.out
      have hcap : l.length + 12 ≤ cap := by have := hrd.2.1; have := HLL.out; omega
      have hcap2 : l.length ≤ cap := by omega
      clear hrd hgb hgl
      go_wp2
      go_ret
      exact ⟨_, rfl, ⟨_, cap, rfl, by have := HLL.out; show l.length ≤ (l ++ mks mI 12).length; omega, S_of_R rfl HO.out⟩, HB.out⟩
def lTypes : Kd (List Int) := hid 45 (Kd.int .u8) List.length (fun l => l ++ mks mT 12)
theorem lentTypes_calls (A : Option Addr) (c : Nat) (l : List Int) (w : World) (hr : Kd.C (Kd.int .u8) w A l.length l) (hc : l.length ≤ c) (hl : (l.length + 12) * 1 ≤ 140737488355328) :
    Calls Tryz.prog 42 #[.slice A l.length c] w fun e w' => ∃ v, e = .returned v ∧ lTypes.M w' w.heap.size (fun _ => True) l [v] ∧ Below w.heap.size w w' := by
  have HR := qA hr
  obtain ⟨i0, hi, hz0, hz1, hz2⟩ := info_parts info45
  obtain ⟨w0, hrun, hown, hg⟩ := run_make_own (P := Tryz.prog) w w.heap.size 46 45 i0 (.int .u8 0) 1 Tryz.underlying46 hi hz0 hz1 .i64 .i64 (l.length + 12) cq49 cq35 (Nat.le_refl _)
  rw [show ((l.length + 12 : Nat) : Int) = (l.length : Int) + 12 by omega] at hrun
  have HB0 : Aside0 (Below w.heap.size w w0) := ⟨(Below.refl _ _).grown hg (Nat.le_refl _) (fun k hk => by cases hk)⟩
  have HO0 : Aside0 (Kd.R (Kd.int .u8) 45 w0 w.heap.size (fun _ => True) (.slice (some ⟨w.heap.size, 0, none⟩) 0 (l.length + 12)) []) := ⟨⟨fun _ _ => trivial, [], hown, Reps.none _ _⟩⟩
  have hlm : l.length + 12 ≤ 9223372036854775807 := by omega
  have HL := qA hl
  clear hi hz0 hz1 hz2 hown hg hr hl
  go_enter Tryz.func42, Tryz.ntmps42
  go_wp2_with (first | ((with_reducible refine gate_builtin (b := .append) (xs := #[.tmp 9, .tmp 10]) rfl ?_); at_builtin; go_loud (refine Kd.R_append_rows (Kd.int .u8) (Rr := fun x cs => Kd.K (Kd.int .u8) w0 x cs) (w0 := w) w.heap.size rfl (.tmp 9) (.tmp 10) 46 45 (.int .u8 0) 1 rfl Tryz.underlying46 info45 rfl cq6 cq2 _ [] l A l.length c (fun _ => True) (fun _ => False) rfl rfl HO0.out ?aR ?aK (fun _ hk => hk.elim) ?aF ?aB ?aS ?aL ?_; (case aR => exact Kd.C_below HR.out HB0.out); (case aK => exact fun x cs h => h); (case aF => exact fun _ _ => trivial); (case aB => exact HB0.out); (case aS => exact HB0.out.size); (case aL => have := HL.out; simp; omega); intro v1 w1 ho hb hg hat; have HO1 := qA ho; have HB1 := qA hb; clear ho hb hg hat)))
  go_loopw [3, 4] (fun v3 v4 wr => ∃ j : Nat, j ≤ 12 ∧ v4 = .int .i64 (j : Int) ∧ Aside0 (Kd.R (Kd.int .u8) 45 wr w.heap.size (fun _ => True) v3 (l ++ mks mT j)) ∧ Aside0 (Below w.heap.size w wr)) (fun _ i _ => 12 - (intOf i).toNat)
  case atStart => exact ⟨0, by omega, rfl, ⟨by have := HO1.out; simpa [mks] using this⟩, HB1⟩
  case round =>
    clear HO1 HB1
    obtain ⟨j, hj, rfl, HO, HB⟩ := hrel
    by_cases hlt : j < 12
    · have HJ := qA (show l ++ mks mT (j + 1) = (l ++ mks mT j) ++ [mT (j : Int)] by rw [mks_succ, List.append_assoc])
      have HLL := qA (show (l ++ mks mT j).length = l.length + j by rw [List.length_append, mks_len])
      have hlt' : (j : Int) < 12 := by omega
      go_wp2_with fail
      refine (mark_calls 1 (j : Int) _ cq2 cq2 cq2 cq2).mono ?_
      rintro e w2 ⟨rfl, hb⟩
      have HO2 := qA (Kd.R_below HO.out hb)
      have HB2 := qA (below_then HB.out HB.out.size hb)
      clear hb
      go_wp2_with (first | ((with_reducible refine gate_builtin (b := .append) (xs := #[.tmp 16, .tmp 20]) rfl ?_); at_builtin; go_loud (refine Kd.R_append (Kd.int .u8) (w0 := w) w.heap.size rfl (.tmp 16) (.tmp 20) 46 45 (.int .u8 0) 1 rfl Tryz.underlying46 info45 rfl cq6 cq2 u3 (l ++ mks mT j) (mT (j : Int)) [.int .u8 (mkI 1 (j : Int) % 256)] (fun _ => True) (fun _ => False) rfl rfl ?aM (fun _ hk => hk.elim) (fun _ _ => trivial) HO2.out HB2.out HB2.out.size ?aL ?_; (case aM => exact rfl); (case aL => have := HLL.out; have := HL.out; omega); intro v1 w1 ho hb hg hat; have HO4 := qA ho; have HB4 := qA hb; clear ho hb hg hat)))
      go_roundw
      case rel => exact ⟨j + 1, by omega, by go_num, ⟨by rw [HJ.out]; exact HO4.out⟩, HB4⟩
      case measure => simp [intOf]; omega
    · obtain rfl : j = 12 := by omega
      have hge : ¬ (12 : Int) < 12 := by omega
      have HLL := qA (show (l ++ mks mT 12).length = l.length + 12 by rw [List.length_append, mks_len])
      obtain ⟨g, cap, rfl, hgb, hgl, _⟩ := Kd.R_form HO.out cq55
      have hrd := Kd.R_reads' HO.out
      have hcap : l.length + 12 ≤ cap := by have := hrd.2.1; have := HLL.out; omega
      have hcap2 : l.length ≤ cap := by omega
      clear hrd hgb hgl
      go_wp2
      go_ret
      exact ⟨_, rfl, ⟨_, cap, rfl, by have := HLL.out; show l.length ≤ (l ++ mks mT 12).length; omega, S_of_R rfl HO.out⟩, HB.out⟩
def lArrays : Kd (List S155) := hid 155 k155 List.length (fun l => l ++ mks mA 12)
theorem lentArrays_calls (A : Option Addr) (c : Nat) (l : List S155) (w : World) (hr : Kd.C k155 w A l.length l) (hc : l.length ≤ c) (hl : (l.length + 12) * 16 ≤ 140737488355328) :
    Calls Tryz.prog 43 #[.slice A l.length c] w fun e w' => ∃ v, e = .returned v ∧ lArrays.M w' w.heap.size (fun _ => True) l [v] ∧ Below w.heap.size w w' := by
  have HR := qA hr
  obtain ⟨i0, hi, hz0, hz1, hz2⟩ := info_parts info155
  obtain ⟨w0, hrun, hown, hg⟩ := run_make_own (P := Tryz.prog) w w.heap.size 47 155 i0 (.agg #[.int .u8 0, .int .i64 0]) 2 Tryz.underlying47 hi hz0 hz1 .i64 .i64 (l.length + 12) cq49 cq35 (Nat.le_refl _)
  rw [show ((l.length + 12 : Nat) : Int) = (l.length : Int) + 12 by omega] at hrun
  have HB0 : Aside0 (Below w.heap.size w w0) := ⟨(Below.refl _ _).grown hg (Nat.le_refl _) (fun k hk => by cases hk)⟩
  have HO0 : Aside0 (Kd.R k155 155 w0 w.heap.size (fun _ => True) (.slice (some ⟨w.heap.size, 0, none⟩) 0 (l.length + 12)) []) := ⟨⟨fun _ _ => trivial, [], hown, Reps.none _ _⟩⟩
  have hlm : l.length + 12 ≤ 9223372036854775807 := by omega
  have HL := qA hl
  clear hi hz0 hz1 hz2 hown hg hr hl
  go_enter Tryz.func43, Tryz.ntmps43
  go_wp2_with (first | ((with_reducible refine gate_builtin (b := .append) (xs := #[.tmp 9, .tmp 10]) rfl ?_); at_builtin; go_loud (refine Kd.R_append_rows k155 (Rr := fun x cs => Kd.K k155 w0 x cs) (w0 := w) w.heap.size rfl (.tmp 9) (.tmp 10) 47 155 (.agg #[.int .u8 0, .int .i64 0]) 16 rfl Tryz.underlying47 info155 rfl cq6 cq2 _ [] l A l.length c (fun _ => True) (fun _ => False) rfl rfl HO0.out ?aR ?aK (fun _ hk => hk.elim) ?aF ?aB ?aS ?aL ?_; (case aR => exact Kd.C_below HR.out HB0.out); (case aK => exact fun x cs h => h); (case aF => exact fun _ _ => trivial); (case aB => exact HB0.out); (case aS => exact HB0.out.size); (case aL => have := HL.out; simp; omega); intro v1 w1 ho hb hg hat; have HO1 := qA ho; have HB1 := qA hb; clear ho hb hg hat)))
  go_loopw [3, 4] (fun v3 v4 wr => ∃ j : Nat, j ≤ 12 ∧ v4 = .int .i64 (j : Int) ∧ Aside0 (Kd.R k155 155 wr w.heap.size (fun _ => True) v3 (l ++ mks mA j)) ∧ Aside0 (Below w.heap.size w wr)) (fun _ i _ => 12 - (intOf i).toNat)
  case atStart => exact ⟨0, by omega, rfl, ⟨by have := HO1.out; simpa [mks] using this⟩, HB1⟩
  case round =>
    clear HO1 HB1
    obtain ⟨j, hj, rfl, HO, HB⟩ := hrel
    by_cases hlt : j < 12
    · have HJ := qA (show l ++ mks mA (j + 1) = (l ++ mks mA j) ++ [mA (j : Int)] by rw [mks_succ, List.append_assoc])
      have HLL := qA (show (l ++ mks mA j).length = l.length + j by rw [List.length_append, mks_len])
      have hlt' : (j : Int) < 12 := by omega
      go_wp2_with fail
      refine (markArray_calls 1 (j : Int) _ cq2 cq2 cq2 cq2).mono ?_
      rintro e w2 ⟨rfl, hb⟩
      have HO2 := qA (Kd.R_below HO.out hb)
      have HB2 := qA (below_then HB.out HB.out.size hb)
      clear hb
      go_wp2_with (first | ((with_reducible refine gate_builtin (b := .append) (xs := #[.tmp 16, .tmp 19]) rfl ?_); at_builtin; go_loud (refine Kd.R_append k155 (w0 := w) w.heap.size rfl (.tmp 16) (.tmp 19) 47 155 (.agg #[.int .u8 0, .int .i64 0]) 16 rfl Tryz.underlying47 info155 rfl cq6 cq2 u3 (l ++ mks mA j) (mA (j : Int)) [.int .u8 0, .int .i64 (mkI 1 (j : Int))] (fun _ => True) (fun _ => False) rfl rfl ?aM (fun _ hk => hk.elim) (fun _ _ => trivial) HO2.out HB2.out HB2.out.size ?aL ?_; (case aM => exact (k155_mkM _ _ _ _)); (case aL => have := HLL.out; have := HL.out; omega); intro v1 w1 ho hb hg hat; have HO4 := qA ho; have HB4 := qA hb; clear ho hb hg hat)))
      go_roundw
      case rel => exact ⟨j + 1, by omega, by go_num, ⟨by rw [HJ.out]; exact HO4.out⟩, HB4⟩
      case measure => simp [intOf]; omega
    · obtain rfl : j = 12 := by omega
      have hge : ¬ (12 : Int) < 12 := by omega
      have HLL := qA (show (l ++ mks mA 12).length = l.length + 12 by rw [List.length_append, mks_len])
      obtain ⟨g, cap, rfl, hgb, hgl, _⟩ := Kd.R_form HO.out cq55
      have hrd := Kd.R_reads' HO.out
      have hcap : l.length + 12 ≤ cap := by have := hrd.2.1; have := HLL.out; omega
      have hcap2 : l.length ≤ cap := by omega
      clear hrd hgb hgl
      go_wp2
      go_ret
      exact ⟨_, rfl, ⟨_, cap, rfl, by have := HLL.out; show l.length ≤ (l ++ mks mA 12).length; omega, S_of_R rfl HO.out⟩, HB.out⟩
end Go.Proofs.YtligpleningglaaGreat.Lk
namespace Go.Proofs.YtligpleningglaaGreat.Rs
open Go
section
variable {P : Program} {md : Region.Mode} {ops : Array Oper} {ds : List Tmp} {vs : List Value} {Q : Exit → Act → World → Prop} {G : World → Prop}
def mixL (ds : List Tmp) (vs : List Value) (l : Array Bool) : List Nat → Act → Act
  | [], a => a
  | i :: rs, a => mixL ds vs l rs (if l.getD i false = true then a.put ds[i]? (vs.getD i undef) else a)
theorem nodup_idx {ds : List Tmp} (h : ds.Nodup) {i j : Nat} {d : Tmp} (hi : ds[i]? = some d) (hj : ds[j]? = some d) : i = j :=
  (List.getElem?_inj (List.getElem?_eq_some_iff.1 hi).1 h).1 (hi.trans hj.symm)
theorem mix_out (hnd : ds.Nodup) {l : Array Bool} {i : Nat} {v : Value} : ∀ (rs : List Nat) (a : Act), i ∉ rs → mixL ds vs l rs (a.put ds[i]? v) = (mixL ds vs l rs a).put ds[i]? v
  | [], a, _ => rfl
  | r :: rs, a, h => by
    have hne : r ≠ i := fun e => h (e ▸ List.mem_cons_self)
    have hd : ∀ d, ds[i]? = some d → ds[r]? ≠ some d := fun d h1 h2 => hne (nodup_idx hnd h2 h1)
    have hm : i ∉ rs := fun hm => h (List.mem_cons_of_mem _ hm)
    simp only [mixL]
    by_cases hl : l.getD r false = true
    · rw [if_pos hl, if_pos hl, Act.put_comm a v _ hd]
      exact mix_out hnd rs _ hm
    · rw [if_neg hl, if_neg hl]
      exact mix_out hnd rs _ hm
theorem getD_set_self {l : Array Bool} {i : Nat} (hi : i < l.size) (d : Bool) : (l.setIfInBounds i true).getD i d = true := by
  simp [Array.getD, hi]
theorem getD_set_ne {l : Array Bool} {i r : Nat} (h : r ≠ i) (d : Bool) : (l.setIfInBounds i true).getD r d = l.getD r d := by
  rw [Array.getD_eq_getD_getElem?, Array.getD_eq_getD_getElem?, Array.getElem?_setIfInBounds_ne (Ne.symm h)]
theorem getD_false {l : Array Bool} {i : Nat} (h : l.getD i true = false) : l.getD i false = false := by
  rw [Array.getD_eq_getD_getElem?] at h ⊢
  cases e : l[i]? with
  | none => rfl
  | some b => rw [e] at h; exact h
theorem getD_lt {l : Array Bool} {i : Nat} (h : l.getD i true = false) : i < l.size := by
  by_cases hi : i < l.size
  · exact hi
  · rw [Array.getD_eq_getD_getElem?, Array.getElem?_eq_none cq2] at h; cases h
theorem getD_true {l : Array Bool} {i : Nat} (hi : i < l.size) (h : l.getD i false ≠ true) : l.getD i true = false := by
  rw [Array.getD_eq_getD_getElem?, Array.getElem?_eq_getElem hi] at h ⊢
  simpa using h
theorem mix_set (hnd : ds.Nodup) {l : Array Bool} {i : Nat} (hf : l.getD i true = false) : ∀ (rs : List Nat) (a : Act), rs.Nodup →
    mixL ds vs (l.setIfInBounds i true) rs a = if i ∈ rs then (mixL ds vs l rs a).put ds[i]? (vs.getD i undef) else mixL ds vs l rs a
  | [], a, _ => by simp [mixL]
  | r :: rs, a, hn => by
    have hn' := List.nodup_cons.1 hn
    simp only [mixL]
    by_cases hr : r = i
    · subst hr
      have hnt : ¬ l.getD r false = true := by rw [getD_false hf]; simp
      rw [if_pos (getD_set_self (getD_lt hf) false), if_neg hnt, if_pos List.mem_cons_self, mix_set hnd hf rs _ hn'.2, if_neg hn'.1, mix_out hnd rs a hn'.1]
    · rw [getD_set_ne hr, mix_set hnd hf rs _ hn'.2]
      by_cases hm : i ∈ rs
      · rw [if_pos hm, if_pos (List.mem_cons_of_mem _ hm)]
      · rw [if_neg hm, if_neg (fun h => (List.mem_cons.1 h).elim (fun e => hr e.symm) hm)]
theorem put_size (a : Act) (d : Option Tmp) (v : Value) : (a.put d v).tmps.size = a.tmps.size := by
  cases d <;> simp [Act.put]
theorem put_other (a : Act) {d : Option Tmp} {t : Tmp} (h : d ≠ some t) (v : Value) : (a.put d v).tmps[t]? = a.tmps[t]? := by
  cases d with
  | none => rfl
  | some d => exact Array.getElem?_setIfInBounds_ne (fun e => h (by rw [e]))
theorem mix_keep {l : Array Bool} {t : Tmp} : ∀ (rs : List Nat) (a : Act), (∀ r ∈ rs, ds[r]? ≠ some t) → (mixL ds vs l rs a).tmps[t]? = a.tmps[t]?
  | [], a, _ => rfl
  | r :: rs, a, h => by
    simp only [mixL]
    rw [mix_keep rs _ (fun q hq => h q (List.mem_cons_of_mem _ hq))]
    split
    · exact put_other a (h r List.mem_cons_self) _
    · rfl
theorem mix_dep (hnd : ds.Nodup) {l : Array Bool} {j : Nat} {t : Tmp} (hl : l.getD j false = true) (hd : ds[j]? = some t) : ∀ (rs : List Nat) (a : Act), rs.Nodup → j ∈ rs → t < a.tmps.size → (mixL ds vs l rs a).tmps[t]? = some (vs.getD j undef)
  | [], a, _, h, _ => by cases h
  | r :: rs, a, hn, hj, ht => by
    have hn' := List.nodup_cons.1 hn
    simp only [mixL]
    by_cases hr : r = j
    · subst hr
      rw [if_pos hl, mix_keep rs _ (fun q hq h2 => hn'.1 (nodup_idx hnd h2 hd ▸ hq)), hd]
      simp [Act.put, ht]
    · refine mix_dep hnd hl hd rs _ hn'.2 ((List.mem_cons.1 hj).resolve_left (fun e => hr e.symm)) ?_
      split
      · rw [put_size]; exact ht
      · exact ht
theorem mix_congr {l l' : Array Bool} : ∀ (rs : List Nat) (a : Act), (∀ r ∈ rs, l.getD r false = l'.getD r false) → mixL ds vs l rs a = mixL ds vs l' rs a
  | [], a, _ => rfl
  | r :: rs, a, h => by
    simp only [mixL]
    rw [h r List.mem_cons_self]
    exact mix_congr rs _ (fun q hq => h q (List.mem_cons_of_mem _ hq))
theorem mix_none {l : Array Bool} : ∀ (rs : List Nat) (a : Act), (∀ r ∈ rs, l.getD r false = false) → mixL ds vs l rs a = a
  | [], a, _ => rfl
  | r :: rs, a, h => by
    simp only [mixL]
    rw [if_neg (by rw [h r List.mem_cons_self]; simp)]
    exact mix_none rs _ (fun q hq => h q (List.mem_cons_of_mem _ hq))
theorem cnt_set : ∀ (xs : List Bool) (i : Nat), xs[i]? = some false → (xs.set i true).count false + 1 = xs.count false
  | [], i, h => by simp at h
  | x :: xs, 0, h => by
    simp at h
    subst h
    simp [List.count_cons]
  | x :: xs, i + 1, h => by
    have := cnt_set xs i (by simpa using h)
    simp only [qN, List.count_cons]
    omega
def putL : List Tmp → List Value → Act → Act
  | d :: ds, v :: vs, a => putL ds vs (a.put (some d) v)
  | _, _, a => a
theorem mix_all {l : Array Bool} : ∀ (m k : Nat) (a : Act), (∀ r, k ≤ r → r < k + m → l.getD r false = true) → k + m = ds.length → vs.length = ds.length → mixL ds vs l (List.range' k m) a = putL (ds.drop k) (vs.drop k) a
  | 0, k, a, _, hd, hv => by
    rw [List.drop_eq_nil_of_le cq2]
    rfl
  | m + 1, k, a, hl, hd, hv => by
    have h1 : k < ds.length := by omega
    have h2 : k < vs.length := by omega
    rw [List.range'_succ]
    simp only [mixL]
    rw [if_pos (hl k (Nat.le_refl _) cq2), mix_all m (k + 1) _ (fun r h3 h4 => hl r cq2 cq2) cq2 hv, List.drop_eq_getElem_cons h1, List.drop_eq_getElem_cons h2]
    simp only [putL]
    rw [qE h1, qD, qE h2]
    rfl
def StepOK (P : Program) (md : Region.Mode) (ops : Array Oper) (ds : List Tmp) (vs : List Value) (a0 : Act) (G : World → Prop) (Q : Exit → Act → World → Prop) (i : Nat) (o : Oper) : Prop :=
  ∀ (a : Act) (w : World), G w → (∀ (k : Nat) (e : Edge), o.after[k]? = some e → Region.binds md e = true → ∀ t, ds[e.on]? = some t → a.tmps[t]? = some (vs.getD e.on undef)) → (∀ t, t ∉ ds → a.tmps[t]? = a0.tmps[t]?) →
    ∀ K : Act → World → Prop, (∀ w', G w' → K (a.put o.dst (vs.getD i undef)) w') → if Region.wanted o (yielded ops a.tmps) = true then o.wp P a w K Q else K (a.put o.dst undef) w
theorem wpAny_stable (a0 : Act) (hds : ∀ (i : Nat) (o : Oper), ops[i]? = some o → o.dst = ds[i]?) (hnd : ds.Nodup) (hlin : ∀ (i : Nat) (o : Oper), ops[i]? = some o → ∀ e ∈ o.after, Region.binds md e = true → e.on < i) (hsz : ∀ t ∈ ds, t < a0.tmps.size)
    (steps : ∀ (i : Nat) (o : Oper), ops[i]? = some o → StepOK P md ops ds vs a0 G Q i o)
    (hend : ∀ w, G w → Q .normal (mixL ds vs (Array.replicate ops.size true) (List.range ops.size) a0) w) :
    ∀ (fuel : Nat) (l : Array Bool) (w : World), l.size = ops.size → l.toList.count false = fuel → G w → wpAny P md ops Q fuel l (mixL ds vs l (List.range ops.size) a0) w := by
  have fin : ∀ (l : Array Bool) (w : World), (∀ i, i < ops.size → l.getD i false = true) → G w → Q .normal (mixL ds vs l (List.range ops.size) a0) w := by
    intro l w h hG
    rw [mix_congr (l' := Array.replicate ops.size true) _ _ (fun r hr => by
      rw [h r (List.mem_range.1 hr), Array.getD_eq_getD_getElem?, Array.getElem?_replicate, if_pos (List.mem_range.1 hr)]; rfl)]
    exact hend w hG
  have rlt : ∀ {i : Nat} {o : Oper}, ops[i]? = some o → i < ops.size := fun h => (Array.getElem?_eq_some_iff.1 h).1
  intro fuel
  induction fuel with
  | zero =>
    intro l w hl hc hG
    have hall : ∀ i, i < ops.size → l.getD i false = true := by
      intro i hi
      have h0 := List.count_eq_zero.1 hc
      rw [Array.getD_eq_getD_getElem?, Array.getElem?_eq_getElem cq2]
      cases e : l[i]'cq2 with
      | true => rfl
      | false => exact absurd (by rw [← e]; exact Array.getElem_mem_toList cq2) h0
    refine ⟨List.eq_nil_iff_forall_not_mem.2 fun i hi => ?_, fin l w hall hG⟩
    obtain ⟨h1, o, ho, _⟩ := mem_ready.1 hi
    have := hall i (rlt ho)
    rw [getD_false h1] at this
    cases this
  | succ fuel ih =>
    intro l w hl hc hG
    refine ⟨fun h0 => fin l w (fun i => ?_) hG, fun i hi => ?_⟩
    · induction i using Nat.strongRecOn with
      | _ i ihi =>
        intro hi
        by_cases hb : l.getD i false = true
        · exact hb
        · have hm : i ∈ Region.ready md ops l := mem_ready.2 ⟨getD_true cq2 hb, ops[i], Array.getElem?_eq_getElem hi, fun e he hbi => ihi e.on (hlin i _ (Array.getElem?_eq_getElem hi) e he hbi) (by have := hlin i _ (Array.getElem?_eq_getElem hi) e he hbi; omega)⟩
          rw [h0] at hm
          cases hm
    · obtain ⟨h1, o, ho, hdep⟩ := mem_ready.1 hi
      have hi' := rlt ho
      refine wpOp_step ho (fun K' hK' => ?_)
      refine steps i o ho _ w hG (fun k e he hb t ht => ?_) (fun t ht => mix_keep _ _ (fun r _ h2 => ht (List.mem_of_getElem? h2))) K' (fun w' hG' => hK' _ _ ?_)
      · have hon := hdep e (Array.mem_of_getElem? he) hb
        have hlt := hlin i o ho e (Array.mem_of_getElem? he) hb
        exact mix_dep hnd hon ht _ _ List.nodup_range (List.mem_range.2 cq2) (hsz t (List.mem_of_getElem? ht))
      · have h2 := ih (l.setIfInBounds i true) w' (by simpa using hl) (by
          have := cnt_set l.toList i (by
            have h3 := getD_lt h1
            rw [Array.getD_eq_getD_getElem?, Array.getElem?_eq_getElem h3] at h1
            rw [Array.getElem?_toList, Array.getElem?_eq_getElem h3]
            exact congrArg some h1)
          rw [Array.toList_setIfInBounds]
          omega) hG'
        rw [mix_set hnd h1 _ _ List.nodup_range, if_pos (List.mem_range.2 hi')] at h2
        rw [hds i o ho]
        exact h2
def Steps (P : Program) (md : Region.Mode) (ops : Array Oper) (ds : List Tmp) (vs : List Value) (a0 : Act) (G : World → Prop) (Q : Exit → Act → World → Prop) : Nat → List Oper → Prop
  | _, [] => True
  | i, o :: os => StepOK P md ops ds vs a0 G Q i o ∧ Steps P md ops ds vs a0 G Q (i + 1) os
theorem steps_at {a0 : Act} : ∀ (os : List Oper) (b : Nat), Steps P md ops ds vs a0 G Q b os → ∀ (i : Nat) (o : Oper), os[i]? = some o → StepOK P md ops ds vs a0 G Q (b + i) o
  | [], b, _, i, o, h => by simp at h
  | x :: os, b, h, 0, o, ho => by simp at ho; subst ho; exact h.1
  | x :: os, b, h, i + 1, o, ho => by
    have := steps_at os (b + 1) h.2 i o (by simpa using ho)
    rwa [show b + 1 + i = b + (i + 1) by omega] at this
def okB (md : Region.Mode) (ops : Array Oper) (ds : List Tmp) (m : Nat) : Bool :=
  (ops.toList.map (·.dst) == ds.map some) && ((List.range ops.size).all fun i => match ops[i]? with
    | some o => o.after.toList.all fun e => !Region.binds md e || Nat.blt e.on i
    | none => true) && ds.all (fun t => Nat.blt t m) && decide ds.Nodup
theorem wp_region_stable {id : Nat} {a0 : Act} {w : World} (ds : List Tmp) (vs : List Value) (G : World → Prop) (hm : P.follows .mixedOrders = true) (hok : okB .any ops ds a0.tmps.size = true) (hvs : vs.length = ds.length) (hG : G { w with drawn := w.drawn + 1 })
    (hs : Steps P .any ops ds vs a0 G Q 0 ops.toList) (hend : ∀ w, G w → Q .normal (putL ds vs a0) w) :
    (Code.region id ops true).wp P Q a0 w := by
  simp only [okB, Bool.and_eq_true, beq_iff_eq, decide_eq_true_eq, List.all_eq_true] at hok
  obtain ⟨⟨⟨h1, h2⟩, h3⟩, h4⟩ := hok
  refine wp_region_any hm ?_
  have h := wpAny_stable (P := P) (md := .any) (ops := ops) (ds := ds) (vs := vs) (Q := Q) (G := G) a0 (fun i o ho => ?_) h4 (fun i o ho e he hb => ?_) (fun t ht => by have := h3 t ht; rwa [Nat.blt_eq] at this) (fun i o ho => by have := steps_at ops.toList 0 hs i o (by rw [Array.getElem?_toList]; exact ho); rwa [Nat.zero_add] at this) (fun w' hG' => ?_)
    ops.size (Array.replicate ops.size false) { w with drawn := w.drawn + 1 } cq23 cq23 hG
  · rw [mix_none _ _ (fun r hr => by rw [Array.getD_eq_getD_getElem?, Array.getElem?_replicate]; split <;> rfl)] at h
    exact h
  · have h5 : (ops.toList.map (·.dst))[i]? = (ds.map some)[i]? := by rw [h1]
    rw [List.getElem?_map, List.getElem?_map, Array.getElem?_toList, ho] at h5
    cases e : ds[i]? with
    | none => rw [e] at h5; cases h5
    | some t => rw [e] at h5; exact Option.some.inj h5
  · have h5 := h2 i (List.mem_range.2 (Array.getElem?_eq_some_iff.1 ho).1)
    rw [ho] at h5
    have h6 := (List.all_eq_true.1 h5) e (Array.mem_def.1 he)
    rw [hb] at h6
    have h7 : Nat.blt e.on i = true := by simpa using h6
    rwa [Nat.blt_eq] at h7
  · have hn : ops.size = ds.length := by
      have := congrArg List.length h1
      simpa using this
    rw [List.range_eq_range', mix_all ops.size 0 a0 (fun r _ h9 => by rw [Array.getD_eq_getD_getElem?, Array.getElem?_replicate, if_pos cq2]; rfl) cq2 hvs]
    exact hend w' hG'
theorem wpAny_tail (a0 : Act) (m : Nat) (hm : ops.size = m + 1) (hdl : ds.length = m) (hds : ∀ (i : Nat) (o : Oper), i < m → ops[i]? = some o → o.dst = ds[i]?) (hnd : ds.Nodup) (hlin : ∀ (i : Nat) (o : Oper), ops[i]? = some o → ∀ e ∈ o.after, Region.binds md e = true → e.on < i) (hsz : ∀ t ∈ ds, t < a0.tmps.size)
    (hwait : ∀ j : Nat, j < m → ∃ (j' : Nat) (o : Oper), j < j' ∧ ops[j']? = some o ∧ ∃ e ∈ o.after, Region.binds md e = true ∧ e.on = j)
    (steps : ∀ (i : Nat) (o : Oper), i < m → ops[i]? = some o → StepOK P md ops ds vs a0 G Q i o)
    (hlast : ∀ o : Oper, ops[m]? = some o → ∀ w, G w → ∀ K : Act → World → Prop, (∀ a w, Q .normal a w → K a w) → if Region.wanted o (yielded ops (mixL ds vs (Array.replicate m true) (List.range m) a0).tmps) = true then o.wp P (mixL ds vs (Array.replicate m true) (List.range m) a0) w K Q else K ((mixL ds vs (Array.replicate m true) (List.range m) a0).put o.dst undef) w) :
    ∀ (fuel : Nat) (l : Array Bool) (w : World), l.size = ops.size → l.toList.count false = fuel → l.getD m true = false → (∀ (j : Nat) (o : Oper), ops[j]? = some o → l.getD j false = true → ∀ e ∈ o.after, Region.binds md e = true → l.getD e.on false = true) → G w → wpAny P md ops Q fuel l (mixL ds vs l (List.range m) a0) w := by
  have rlt : ∀ {i : Nat} {o : Oper}, ops[i]? = some o → i < ops.size := fun h => (Array.getElem?_eq_some_iff.1 h).1
  intro fuel
  induction fuel with
  | zero =>
    intro l w hl hc hlm hcl hG
    have h0 := List.count_eq_zero.1 hc
    refine absurd ?_ h0
    rw [Array.getD_eq_getD_getElem?, Array.getElem?_eq_getElem cq2] at hlm
    rw [← show l[m]'cq2 = false from hlm]
    exact Array.getElem_mem_toList cq2
  | succ fuel ih =>
    intro l w hl hc hlm hcl hG
    refine ⟨fun h0 => ?_, fun i hi => ?_⟩
    · have hall : ∀ i, i < ops.size → l.getD i false = true := by
        intro i
        induction i using Nat.strongRecOn with
        | _ i ihi =>
          intro hi
          by_cases hb : l.getD i false = true
          · exact hb
          · have hmm : i ∈ Region.ready md ops l := mem_ready.2 ⟨getD_true cq2 hb, ops[i], Array.getElem?_eq_getElem hi, fun e he hbi => ihi e.on (hlin i _ (Array.getElem?_eq_getElem hi) e he hbi) (by have := hlin i _ (Array.getElem?_eq_getElem hi) e he hbi; omega)⟩
            rw [h0] at hmm
            cases hmm
      have := hall m cq2
      rw [getD_false hlm] at this
      cases this
    · obtain ⟨h1, o, ho, hdep⟩ := mem_ready.1 hi
      have hi' := rlt ho
      by_cases him : i < m
      · refine wpOp_step ho (fun K' hK' => ?_)
        refine steps i o him ho _ w hG (fun k e he hb t ht => ?_) (fun t ht => mix_keep _ _ (fun r _ h2 => ht (List.mem_of_getElem? h2))) K' (fun w' hG' => hK' _ _ ?_)
        · have hon := hdep e (Array.mem_of_getElem? he) hb
          have hlt := hlin i o ho e (Array.mem_of_getElem? he) hb
          exact mix_dep hnd hon ht _ _ List.nodup_range (List.mem_range.2 cq2) (hsz t (List.mem_of_getElem? ht))
        · have h2 := ih (l.setIfInBounds i true) w' (by simpa using hl) (by
            have := cnt_set l.toList i (by
              have h3 := getD_lt h1
              rw [Array.getD_eq_getD_getElem?, Array.getElem?_eq_getElem h3] at h1
              rw [Array.getElem?_toList, Array.getElem?_eq_getElem h3]
              exact congrArg some h1)
            rw [Array.toList_setIfInBounds]
            omega) (by rw [getD_set_ne cq2]; exact hlm) (fun j oj hoj hlj e he hb => by
              by_cases hei : e.on = i
              · rw [hei]; exact getD_set_self (getD_lt h1) false
              · rw [getD_set_ne hei]
                by_cases hji : j = i
                · subst hji
                  rw [ho] at hoj
                  injection hoj with hoj
                  subst hoj
                  exact hdep e he hb
                · rw [getD_set_ne hji] at hlj
                  exact hcl j oj hoj hlj e he hb) hG'
          rw [mix_set hnd h1 _ _ List.nodup_range, if_pos (List.mem_range.2 him)] at h2
          rw [hds i o him ho]
          exact h2
      · obtain rfl : i = m := by omega
        have hbelow : ∀ d j, j + d = i → d ≠ 0 → l.getD j false = true := by
          intro d
          induction d using Nat.strongRecOn with
          | _ d ihd =>
            intro j hj hd0
            obtain ⟨j', o', hjj, ho', e, he, hb, heq⟩ := hwait j cq2
            have hj' := rlt ho'
            by_cases hjm : j' = i
            · subst hjm
              rw [ho] at ho'
              injection ho' with ho'
              subst ho'
              rw [← heq]; exact hdep e he hb
            · rw [← heq]
              exact hcl j' o' ho' (ihd (i - j') cq2 j' cq2 cq2) e he hb
        refine wpOp_step ho (fun K' hK' => ?_)
        rw [mix_congr (l' := Array.replicate i true) _ _ (fun r hr => by
          have hr' := List.mem_range.1 hr
          rw [hbelow (i - r) r cq2 cq2, Array.getD_eq_getD_getElem?, Array.getElem?_replicate, if_pos hr']; rfl)]
        refine hlast o ho w hG K' (fun a' w' hq => hK' a' w' (wpAny_done (List.eq_nil_iff_forall_not_mem.2 fun q hq' => ?_) hq fuel))
        obtain ⟨hq1, oq, hoq, _⟩ := mem_ready.1 hq'
        have hql := rlt hoq
        by_cases hqi : q = i
        · subst hqi
          rw [getD_set_self (getD_lt h1)] at hq1
          cases hq1
        · rw [getD_set_ne hqi] at hq1
          have := hbelow (i - q) q cq2 cq2
          rw [getD_false hq1] at this
          cases this
def okTB (md : Region.Mode) (ops : Array Oper) (ds : List Tmp) (m : Nat) : Bool :=
  (ops.toList.dropLast.map (·.dst) == ds.map some) && ((List.range ops.size).all fun i => match ops[i]? with
    | some o => o.after.toList.all fun e => !Region.binds md e || Nat.blt e.on i
    | none => true) && ds.all (fun t => Nat.blt t m) && decide ds.Nodup &&
  ((List.range ds.length).all fun j => (List.range ops.size).any fun j' => Nat.blt j j' && match ops[j']? with
    | some o => o.after.toList.any fun e => Region.binds md e && e.on == j
    | none => false)
theorem wp_region_tail {id : Nat} {a0 : Act} {w : World} (ds : List Tmp) (vs : List Value) (G : World → Prop) (hm : P.follows .mixedOrders = true) (hok : okTB .any ops ds a0.tmps.size = true) (hvs : vs.length = ds.length) (hn : ops.size = ds.length + 1) (hG : G { w with drawn := w.drawn + 1 })
    (hs : Steps P .any ops ds vs a0 G Q 0 ops.toList.dropLast)
    {ol : Oper} (hol : ops[ds.length]? = some ol) (hlast : ∀ w, G w → ∀ K : Act → World → Prop, (∀ a w, Q .normal a w → K a w) → if Region.wanted ol (yielded ops (putL ds vs a0).tmps) = true then ol.wp P (putL ds vs a0) w K Q else K ((putL ds vs a0).put ol.dst undef) w) :
    (Code.region id ops true).wp P Q a0 w := by
  simp only [okTB, Bool.and_eq_true, beq_iff_eq, decide_eq_true_eq, List.all_eq_true] at hok
  obtain ⟨⟨⟨⟨h1, h2⟩, h3⟩, h4⟩, h5⟩ := hok
  have hpre : ∀ (i : Nat) (o : Oper), i < ds.length → ops[i]? = some o → ops.toList.dropLast[i]? = some o := by
    intro i o hi ho
    rw [List.getElem?_dropLast, if_pos cq52, Array.getElem?_toList]
    exact ho
  have hmx : mixL ds vs (Array.replicate ds.length true) (List.range ds.length) a0 = putL ds vs a0 := by
    rw [List.range_eq_range', mix_all ds.length 0 a0 (fun r _ h9 => by rw [Array.getD_eq_getD_getElem?, Array.getElem?_replicate, if_pos cq2]; rfl) cq2 hvs]
    rfl
  refine wp_region_any hm ?_
  have h := wpAny_tail (P := P) (md := .any) (ops := ops) (ds := ds) (vs := vs) (Q := Q) (G := G) a0 ds.length hn rfl (fun i o hi ho => ?_) h4 (fun i o ho e he hb => ?_) (fun t ht => by have := h3 t ht; rwa [Nat.blt_eq] at this) (fun j hj => ?_) (fun i o hi ho => by have := steps_at ops.toList.dropLast 0 hs i o (hpre i o hi ho); rwa [Nat.zero_add] at this) (fun o ho w' hw' K hK => by rw [hol] at ho; injection ho with ho; subst ho; rw [hmx]; exact hlast w' hw' K hK)
    ops.size (Array.replicate ops.size false) { w with drawn := w.drawn + 1 } cq23 cq23 (by rw [Array.getD_eq_getD_getElem?, Array.getElem?_replicate, if_pos cq2]; rfl) (fun j oj _ hlj => by rw [Array.getD_eq_getD_getElem?, Array.getElem?_replicate] at hlj; split at hlj <;> cases hlj) hG
  · rw [mix_none _ _ (fun r hr => by rw [Array.getD_eq_getD_getElem?, Array.getElem?_replicate]; split <;> rfl)] at h
    exact h
  · have h6 : (ops.toList.dropLast.map (·.dst))[i]? = (ds.map some)[i]? := by rw [h1]
    rw [List.getElem?_map, List.getElem?_map, hpre i o hi ho] at h6
    cases e : ds[i]? with
    | none => rw [e] at h6; cases h6
    | some t => rw [e] at h6; exact Option.some.inj h6
  · have h6 := h2 i (List.mem_range.2 (Array.getElem?_eq_some_iff.1 ho).1)
    rw [ho] at h6
    have h7 := (List.all_eq_true.1 h6) e (Array.mem_def.1 he)
    rw [hb] at h7
    have h8 : Nat.blt e.on i = true := by simpa using h7
    rwa [Nat.blt_eq] at h8
  · have h6 := h5 j (List.mem_range.2 hj)
    obtain ⟨j', hj', h7⟩ := List.any_eq_true.1 h6
    rw [Bool.and_eq_true, Nat.blt_eq] at h7
    have hlt := List.mem_range.1 hj'
    have ho := Array.getElem?_eq_getElem hlt
    rw [ho] at h7
    obtain ⟨e, he, h8⟩ := List.any_eq_true.1 h7.2
    rw [Bool.and_eq_true, beq_iff_eq] at h8
    exact ⟨j', _, h7.1, ho, e, Array.mem_def.2 he, h8.1, h8.2⟩
variable {o : Oper} {v : Value} {a : Act} {w : World} {K : Act → World → Prop}
theorem ok_val (hw : Region.wanted o (yielded ops a.tmps) = true) (hr : (execOp a.eval o).run P w = .ok (.value v) w) (hk : K (a.put o.dst v) w) : if Region.wanted o (yielded ops a.tmps) = true then o.wp P a w K Q else K (a.put o.dst undef) w := by
  rw [if_pos hw]
  unfold Oper.wp
  rw [hr]
  exact hk
theorem ok_off (hw : Region.wanted o (yielded ops a.tmps) = false) (hk : K (a.put o.dst undef) w) : if Region.wanted o (yielded ops a.tmps) = true then o.wp P a w K Q else K (a.put o.dst undef) w := by
  rw [hw, if_neg cq23]
  exact hk
theorem ok_skip {w1 : World} (hw : Region.wanted o (yielded ops a.tmps) = true) (hN : o.dst = none) (hr : (execOp a.eval o).run P w = .ok .skip w1) (hk : K a w1) : if Region.wanted o (yielded ops a.tmps) = true then o.wp P a w K Q else K (a.put o.dst undef) w := by
  rw [if_pos hw]
  unfold Oper.wp
  rw [hr]
  show K (a.put o.dst undef) w1
  rw [hN]
  exact hk
theorem want_none (h : o.guard = none) {y : Nat → Option Bool} : Region.wanted o y = true := by unfold Region.wanted; rw [h]
theorem want_on {g : Nat} {b b' : Bool} {t : Tmp} {tm : Array Value} (h : o.guard = some (g, b)) (hd : (ops[g]?).bind (·.dst) = some t) (ht : tm[t]? = some (.bool b')) : Region.wanted o (yielded ops tm) = (b' == b) := by
  unfold Region.wanted
  rw [h]
  show (yielded ops tm g == some b) = _
  have hy : yielded ops tm g = some b' := by
    unfold yielded
    rw [hd, Option.bind_some, ht]
  rw [hy]
  cases b <;> cases b' <;> rfl
theorem want_undef {g : Nat} {b : Bool} {t : Tmp} {tm : Array Value} (h : o.guard = some (g, b)) (hd : (ops[g]?).bind (·.dst) = some t) (ht : tm[t]? = some undef) : Region.wanted o (yielded ops tm) = false := by
  unfold Region.wanted
  rw [h]
  show (yielded ops tm g == some b) = _
  have hy : yielded ops tm g = none := by
    unfold yielded
    rw [hd, Option.bind_some, ht]
    rfl
  rw [hy]
  cases b <;> rfl
end
theorem ld {a : Act} {vs : List Value} {n : Nat} {t : Tmp} {v : Value} (h : a.tmps[t]? = some (vs.getD n undef)) (hv : vs[n]? = some v) : a.tmps[t]? = some v := by
  rw [h, qD, hv]; rfl
theorem lf {a a0 : Act} {t : Tmp} {v : Value} (h : a.tmps[t]? = a0.tmps[t]?) (hv : a0.tmps[t]? = some v) : a.tmps[t]? = some v := h.trans hv
theorem gs {p : Prop} (h : p := by go_simp <;> first | rfl | (simp only [i64_w]; done) | omega | (simp; omega)) : p := h
end Go.Proofs.YtligpleningglaaGreat.Rs
namespace Go.Proofs.YtligpleningglaaGreat.Mw
open Go Go.RowKit Go.Proofs.YtligpleningglaaGreatW.PrintWords Go.Proofs.YtligpleningglaaGreatW.PrintLast Go.Proofs.YtligpleningglaaGreatW.PrintMore Go.Proofs.YtligpleningglaaGreat.F Go.Proofs.YtligpleningglaaGreat.Lk Go.Proofs.YtligpleningglaaGreat.Keep
theorem fj0 {p : Prop} (h : p := by exact fun a w' hG hd hf K hK => by have f0 := Rs.ld (hd 0 _ rfl rfl _ rfl) rfl; have f1 := Rs.ld (hd 1 _ rfl rfl _ rfl) rfl; exact Rs.ok_val (Rs.want_none rfl) Rs.gs (hK w' hG)) : p := h
theorem fj1 {p : Prop} (h : p := by exact fun a w' hG hd hf K hK => by have f0 := Rs.ld (hd 0 _ rfl rfl _ rfl) rfl; have f1 := Rs.ld (hd 1 _ rfl rfl _ rfl) rfl; exact Rs.ok_val ((Rs.want_on rfl rfl (hd 2 _ rfl rfl _ rfl)).trans rfl) Rs.gs (hK w' hG)) : p := h
theorem fj2 {p : Prop} (h : p := by exact fun a w' hG hd hf K hK => by have f0 := Rs.ld (hd 0 _ rfl rfl _ rfl) rfl; exact Rs.ok_val (Rs.want_none rfl) Rs.gs (hK w' hG)) : p := h
theorem fj3 {p : Prop} (h : p := by exact fun a w' hG hd hf K hK => by have f0 := Rs.ld (hd 0 _ rfl rfl _ rfl) rfl; exact Rs.ok_val ((Rs.want_on rfl rfl (hd 1 _ rfl rfl _ rfl)).trans rfl) Rs.gs (hK w' hG)) : p := h
theorem fj4 {p : Prop} (h : p := by exact fun a w' hG hd hf K hK => Rs.ok_off ((Rs.want_on rfl rfl (hd 0 _ rfl rfl _ rfl)).trans rfl) (hK w' hG)) : p := h
theorem fj5 {p : Prop} (h : p := by exact fun a w' hG hd hf K hK => by have f0 := Rs.lf (hf 9 cq6) rfl; exact Rs.ok_val (Rs.want_none rfl) Rs.gs (hK w' hG)) : p := h
theorem fj6 {p : Prop} (h : p := by exact fun a w' hG hd hf K hK => by have f0 := Rs.lf (hf 10 cq6) rfl; exact Rs.ok_val (Rs.want_none rfl) Rs.gs (hK w' hG)) : p := h
theorem fj7 {p : Prop} (h : p := by exact fun a w' hG hd hf K hK => by have f0 := Rs.lf (hf 10 cq6) rfl; exact Rs.ok_val ((Rs.want_on rfl rfl (hd 0 _ rfl rfl _ rfl)).trans rfl) Rs.gs (hK w' hG)) : p := h
theorem fj8 {p : Prop} (h : p := by exact fun a w' hG hd hf K hK => by have f0 := Rs.lf (hf 9 cq6) rfl; exact Rs.ok_val ((Rs.want_on rfl rfl (hd 0 _ rfl rfl _ rfl)).trans rfl) Rs.gs (hK w' hG)) : p := h
theorem fj9 {p : Prop} (h : p := by exact fun a w' hG hd hf K hK => Rs.ok_off ((Rs.want_on rfl rfl (hd 2 _ rfl rfl _ rfl)).trans rfl) (hK w' hG)) : p := h
theorem fj10 {p : Prop} (h : p := by exact fun a w' hG hd hf K hK => by have f0 := Rs.lf (hf 0 cq6) rfl; exact Rs.ok_val ((Rs.want_on rfl rfl (hd 0 _ rfl rfl _ rfl)).trans rfl) Rs.gs (hK w' hG)) : p := h
theorem fj11 {p : Prop} (h : p := by exact fun a w' hG hd hf K hK => by have f0 := Rs.ld (hd 0 _ rfl rfl _ rfl) rfl; have z0 := pw_cell_below hG hx0; exact Rs.ok_val ((Rs.want_on rfl rfl (hd 1 _ rfl rfl _ rfl)).trans rfl) Rs.gs (hK w' hG)) : p := h
theorem fj12 {p : Prop} (h : p := by exact fun a w' hG hd hf K hK => Rs.ok_off ((Rs.want_on rfl rfl (hd 1 _ rfl rfl _ rfl)).trans rfl) (hK w' hG)) : p := h
def CI (k : Int) (n : Nat) : List Value := (List.range n).map fun (i : Nat) => .int .i64 (mkI k (i : Int))
theorem CI_len (k : Int) (n : Nat) : (CI k n).length = n := by simp [CI]
theorem CI_succ (k : Int) (n : Nat) : CI k (n + 1) = CI k n ++ [.int .i64 (mkI k (n : Int))] := by unfold CI; rw [List.range_succ, List.map_append]; rfl
theorem CI_get (k : Int) {n i : Nat} (h : i < n) : (CI k n)[i]? = some (.int .i64 (mkI k (i : Int))) := by
 unfold CI; rw [List.getElem?_map, List.getElem?_range h]; rfl
theorem CI_take (k : Int) (n q : Nat) : (CI k (n + q)).take n = CI k n := by
 unfold CI; rw [← List.map_take, List.take_range, Nat.min_eq_left cq2]
theorem info35o : (Tryz.prog.info? 44).map (fun i => (i.zero, i.size, i.bytes)) = some (some (.slice none 0 0), 1, 24) := by kernel_rfl
theorem flatInts_calls (base : Nat) (vls : Value) (vs : List Value) (ns : List Nat) (w : World) (hm : vs.length ≤ 480) (hn : ∀ j, ns.getD j 0 + 64 ≤ 17592186044416) (hbase : base ≤ w.heap.size)
 (ho : w.ownsRow base 44 1 vls vs.length vs) (hr : ∃ cs, RowsO w base 3 1 vs ns cs) (ha : Apart vs vs) (hs : ∀ j, disj vls (at_ vs j)) :
 Calls Tryz.prog 62 #[vls] w fun e w' => e = .returned (.bool true) ∧ Below base w w' ∧ KQ w w' vs := by
 obtain ⟨A, c, rfl⟩ := own_slice ho
 obtain ⟨cs0, hr0⟩ := hr
 have HO := qA ho
 have HR := qA hr0
 have HA := qA ha
 have HN := qA hn
 have HS := qA hs
 clear ho hr0 ha hn hs
 go_enter Tryz.func62, Tryz.ntmps62
 go_wp2
 go_loopw [3] (fun v3 wr => ∃ (k : Nat) (cs : Nat → List Value), k ≤ vs.length ∧ v3 = .int .i64 (k : Int) ∧ Aside0 (∀ j, j < k → cs j = CI j (ns.getD j 0)) ∧ Aside0 (wr.ownsRow base 44 1 (.slice A vs.length c) vs.length vs) ∧ Aside0 (RowsO wr base 3 1 vs ns cs) ∧ Aside0 (Below base w wr) ∧ Aside0 (KQ w wr vs)) (fun v3 _ => vs.length - (intOf v3).toNat)
 case atStart => exact ⟨0, cs0, Nat.zero_le _, rfl, ⟨fun j hj => absurd hj cq2⟩, HO, HR, ⟨Below.refl _ _⟩, ⟨KQ.refl _ _⟩⟩
 case round =>
  clear HO HR
  obtain ⟨k, cs, hk, rfl, HC, HO, HR, HB, HKQ⟩ := hrel
  by_cases hlt : k < vs.length
  ·obtain ⟨L, c', hLv, hLb, hLl⟩ := HO.out.form cq2
   injection hLv with e1 _ e2
   subst e1 e2
   have hx0 : wr.cell? ⟨L, k, none⟩ = some (at_ vs k) := by
    have := HO.out.cells (g := L) rfl k (at_ vs k) cq22
    rwa [add_plain] at this
   have hk0 := HR.out k hlt
   obtain ⟨Ak, ck, hvk⟩ := own_slice hk0
   rw [hvk] at hx0 hk0
   have HVK := qA hvk
   have HK0 := qA hk0
   clear hvk hk0
   obtain ⟨n, hnk⟩ : ∃ n, ns.getD k 0 = n := ⟨_, rfl⟩
   have hn64 := HN.out k
   rw [hnk] at hx0 HVK HK0 hn64
   have HNK := qA hnk
   clear hnk
   have HX : Aside0 (some L ≠ (Value.slice Ak n ck).ownBlock) := ⟨by
    have := HS.out k
    rw [HVK.out] at this
    rcases this with h | h
    ·cases h
    ·exact h⟩
   go_wp2
   obtain ⟨W1, hW1⟩ : ∃ x, x = wr := ⟨_, rfl⟩
   subst hW1
   go_loopw [4] (fun v4 wi => ∃ (i : Nat), i ≤ n ∧ v4 = .int .i64 (i : Int) ∧ Aside0 (wi.ownsRow base 3 1 (.slice Ak n ck) n (CI k i ++ (cs k).drop i)) ∧ Aside0 (Below base w wi) ∧ Aside0 (W1.grownBy wi (Value.slice Ak n ck).ownBlock)) (fun v4 _ => n - (intOf v4).toNat)
   case atStart => exact ⟨0, Nat.zero_le _, rfl, ⟨by simpa [CI] using HK0.out⟩, HB, ⟨World.grownBy.refl _ _⟩⟩
   case round =>
    obtain ⟨i, hi, rfl, HK, HBi, HG⟩ := hrel
    have hx0i : wr.cell? ⟨L, k, none⟩ = some (.slice Ak n ck) := by
     rw [HG.out.cell_far _ (World.block_lt_of_cell? _ _ hx0) (HX.out)]; exact hx0
    by_cases hli : i < n
    ·have hk1000 : (k : Int) ≤ 1000 := by omega
     obtain ⟨b, c2, hbv, hbb, hbl⟩ := HK.out.form cq2
     injection hbv with e1 _ e2
     subst e1 e2
     obtain ⟨r0, rest, hrest⟩ : ∃ r rs, (cs k).drop i = r :: rs := by
      have hl1 : ((cs k).drop i).length = n - i := by rw [List.length_drop, (by simpa using HK0.out.1 : (cs k).length = n)]
      cases hd1 : (cs k).drop i with
      | nil => rw [hd1] at hl1; simp at hl1; omega
      | cons r rs => exact ⟨r, rs, rfl⟩
     have hget : (CI k i ++ r0 :: rest)[i]? = some r0 := by rw [List.getElem?_append_right cq40, CI_len, Nat.sub_self]; rfl
     have hset : (CI k i ++ r0 :: rest).set i (.int .i64 (mkI k (i : Int))) = CI k (i + 1) ++ rest := by rw [List.set_append_right _ _ cq40, CI_len, Nat.sub_self, CI_succ]; simp
     have HGET := qA hget
     have HSET := qA hset
     clear hget hset
     have HRE := qA hrest
     rw [hrest] at HK
     clear hrest
     go_wp2
     go_upto_region 7 with (fail)
     refine Rs.wp_region_tail [31, 32, 33, 34, 35, 36, 37, 38, 39] [.slice (some ⟨L, 0, none⟩) vs.length c, .int .i64 ((k : Int)), .pointer (some (⟨L, k, none⟩)), .slice (some ⟨b, 0, none⟩) n ck, .int .i64 ((i : Int)), .int .i64 ((k : Int)), .int .i64 ((i : Int)), .int .i64 (mkI (k : Int) (i : Int)), .pointer (some (⟨b, i, none⟩))] (fun w' => Below wr.heap.size wr w') cq3 cq3 rfl rfl (below_drew (Below.refl _ _)) ⟨?s0, ?s1, fj0, ?s3, ?s4, ?s5, ?s6, ?s7, fj0, trivial⟩ rfl ?_
     case s0 => exact fun a w' hG hd hf K hK => by have f0 := Rs.lf (hf 0 cq6) rfl; exact Rs.ok_val (Rs.want_none rfl) Rs.gs (hK w' hG)
     case s1 | s5 => exact fun a w' hG hd hf K hK => by have f0 := Rs.lf (hf 3 cq6) rfl; exact Rs.ok_val (Rs.want_none rfl) Rs.gs (hK w' hG)
     case s3 => exact fun a w' hG hd hf K hK => by have f0 := Rs.ld (hd 0 _ rfl rfl _ rfl) rfl; have z0 := pw_cell_below hG hx0i; exact Rs.ok_val (Rs.want_none rfl) Rs.gs (hK w' hG)
     case s4 | s6 => exact fun a w' hG hd hf K hK => by have f0 := Rs.lf (hf 4 cq6) rfl; exact Rs.ok_val (Rs.want_none rfl) Rs.gs (hK w' hG)
     case s7 =>
      exact fun a w' hG hd hf K hK => by
       have e36 : a.tmps[36]? = some (.int .i64 ((k : Int))) := hd 0 _ rfl rfl _ rfl; have e37 : a.tmps[37]? = some (.int .i64 ((i : Int))) := hd 1 _ rfl rfl _ rfl
       exact goes_ Tryz.func24 cq3 rfl #[.int .i64 (k : Int), .int .i64 (i : Int)] (Rs.want_none rfl) rfl rfl (by simp [Act.eval, Array.getD_eq_getD_getElem?, e36, e37]) (((mark_calls (k : Int) (i : Int) w' cq2 cq2 cq2 cq2).mono cq7))
     intro w3 hG K hK
     have hHeld : Below base w w3 ∧ True ∧ w3.ownsRow base 3 1 (.slice (some ⟨b, 0, none⟩) n ck) n (CI k i ++ r0 :: rest) ∧ wr.heap.size ≤ w3.heap.size ∧ Below wr.heap.size wr w3 := ⟨below_then HBi.out (Nat.le_trans hbase HBi.out.size) hG, trivial, pw_own_below HK.out hG, hG.size, hG⟩
     generalize hput : Rs.putL _ _ _ = ap
     simp only [Rs.putL, Act.put, qS, qZ, qN] at hput
     subst hput
     have hcl : w3.cell? ⟨b, i, none⟩ = some r0 := by have := hHeld.2.2.1.cells (g := b) rfl i r0 HGET.out; rwa [add_plain] at this
     have hfr : w3.frozen? ⟨b, i, none⟩ = false := hHeld.2.2.1.frozenAt i
     refine Rs.ok_skip (w1 := w3.setCell ⟨b, i, none⟩ (.int .i64 (mkI (k : Int) (i : Int)))) (Rs.want_none rfl) rfl ?_ ?_
     ·clear hK hHeld hG
      go_simp
      try rfl
     refine hK _ _ ?_
     clear hK K hG
     obtain ⟨hst, hgr⟩ := hHeld.2.2.1.stored i (.int .i64 (mkI (k : Int) (i : Int)))
     rw [HSET.out, ← (show (cs k).drop (i + 1) = rest by have := congrArg List.tail HRE.out; simpa [List.tail_drop] using this)] at hst
     have HKn := qA hst
     have HBn := qA (hHeld.1.setCell hbb (.int .i64 (mkI (k : Int) (i : Int))) : Below base w (w3.setCell ⟨b, i, none⟩ (.int .i64 (mkI (k : Int) (i : Int)))))
     have HGn := qA (HG.out.trans ((grown_of_below hHeld.2.2.2.2 _).trans hgr))
     clear hst hgr hHeld hcl hfr
     go_wp2
     go_roundw
     case rel => exact ⟨i + 1, by omega, by go_num, HKn, HBn, HGn⟩
     case measure => simp [intOf]; omega
    ·obtain rfl : i = n := by omega
     have hKd : (CI k i ++ (cs k).drop i) = CI k i := by rw [List.drop_eq_nil_of_le (by rw [(by simpa using HK0.out.1 : (cs k).length = i)]; exact Nat.le_refl _), List.append_nil]
     have hKo := HK.out
     rw [hKd, ← HVK.out] at hKo
     have hGv := HG.out
     rw [← HVK.out] at hGv
     have HO' := qA (own_grown HO.out hGv (HS.out k))
     have HKQ' : Aside0 (KQ w wr vs) := ⟨HKQ.out.step HB.out.size hGv (fun q e => .inr ⟨k, e⟩)⟩
     have HR' := qA (HR.out.set HA.out hGv (by rw [HNK.out]; exact hKo))
     have HC' : Aside0 (∀ j, j < k + 1 → upd1 cs k (CI k i) j = CI j (ns.getD j 0)) := ⟨fun j hj => by
      by_cases e : j = k
      ·subst e; rw [upd1_same, HNK.out]
      ·rw [upd1_other e]; exact HC.out j cq2⟩
     clear hKd hKo hGv
     go_wp2
     go_roundw
     case rel => exact ⟨k + 1, _, by omega, by go_num, HC', HO', HR', HBi, HKQ'⟩
     case measure => simp [intOf]; omega
  ·obtain rfl : k = vs.length := by omega
   obtain ⟨i0, hi, hz0, hz1, hz2⟩ := info_parts info35o
   obtain ⟨W0, hrun, hown, hg⟩ := run_make_full (P := Tryz.prog) wr base 22 44 i0 nilV 1 Tryz.underlying22 hi hz0 hz1 .i64 .i64 vs.length cq49 cq35 (Nat.le_trans hbase HB.out.size)
   obtain ⟨G, hG⟩ : ∃ x, wr.heap.size = x := ⟨_, rfl⟩
   have HB0 := qA (HB.out.grown hg (Nat.le_trans hbase HB.out.size) (fun k hk => by cases hk))
   have HKQ0 : Aside0 (KQ w W0 vs) := ⟨HKQ.out.step HB.out.size hg (fun q e => by cases e)⟩
   have HGW : Aside0 (w.heap.size ≤ G) := ⟨by rw [← hG]; exact HB.out.size⟩
   have HO0 := qA (own_grown HO.out (u := nilV) hg (disj_nil _).symm)
   have HR0 : Aside0 (RowsO W0 base 3 1 vs ns (fun j => CI j (ns.getD j 0))) := ⟨fun j hj => by
    have := own_grown (HR.out j hj) (u := nilV) hg (disj_nil _).symm
    rw [HC.out j hj] at this
    exact this⟩
   have HVG : Aside0 (∀ j, disj (.slice (some ⟨G, 0, none⟩) vs.length vs.length) (at_ vs j)) := ⟨fun j => by
    by_cases hj : j < vs.length
    ·refine disj.symm (disj_fresh (HR.out j hj) (b := G) rfl cq2)
    ·refine disj.symm (.inl ?_)
     unfold at_
     rw [qD, List.getElem?_eq_none cq2]
     rfl⟩
   have HLG : Aside0 (disj (.slice A vs.length c) (.slice (some ⟨G, 0, none⟩) vs.length vs.length)) := ⟨disj_fresh HO.out (b := G) rfl cq2⟩
   have HGS0 : Aside0 (W0.ownsRow base 44 1 (.slice (some ⟨G, 0, none⟩) vs.length vs.length) vs.length (List.replicate vs.length nilV)) := ⟨by
    rw [← hG]
    rw [show (madeCells nilV.cells (vs.length * 1)).toList = List.replicate vs.length nilV by rw [Nat.mul_one]; exact toList_madeCells_one _ _] at hown
    exact hown⟩
   have HRUN := qA hrun
   rw [hG] at hrun
   clear hi hz0 hz1 hz2 hown hg HB HO HR HC HRUN HKQ
   go_wp2
   clear hrun
   go_loopw [6] (fun v6 wr => ∃ (k : Nat) (gs : List Value), k ≤ vs.length ∧ v6 = .int .i64 (k : Int) ∧ Aside0 (gs.length = vs.length)
    ∧ Aside0 (∀ j, j < k → wr.ownsRow base 3 1 (at_ gs j) (ns.getD j 0 + 64) (CI j (ns.getD j 0 + 64)))
    ∧ Aside0 (∀ i j, j < k → i ≠ j → disj (at_ vs i) (at_ gs j)) ∧ Aside0 (∀ i j, i < k → j < k → i ≠ j → disj (at_ gs i) (at_ gs j))
    ∧ Aside0 (∀ j, j < k → disj (.slice (some ⟨G, 0, none⟩) vs.length vs.length) (at_ gs j)) ∧ Aside0 (∀ j, j < k → disj (.slice A vs.length c) (at_ gs j))
    ∧ Aside0 (wr.ownsRow base 44 1 (.slice A vs.length c) vs.length vs) ∧ Aside0 (wr.ownsRow base 44 1 (.slice (some ⟨G, 0, none⟩) vs.length vs.length) vs.length gs)
    ∧ Aside0 (RowsO wr base 3 1 vs ns (fun j => CI j (ns.getD j 0))) ∧ Aside0 (Below base w wr) ∧ Aside0 (KQ w wr vs)) (fun v6 _ => vs.length - (intOf v6).toNat)
   case atStart => exact ⟨0, _, Nat.zero_le _, rfl, ⟨List.length_replicate⟩, ⟨fun j hj => absurd hj cq2⟩, ⟨fun i j hj => absurd hj cq2⟩, ⟨fun i j hj => absurd hj cq2⟩, ⟨fun j hj => absurd hj cq2⟩, ⟨fun j hj => absurd hj cq2⟩, HO0, HGS0, HR0, HB0, HKQ0⟩
   case round =>
    clear HO0 HGS0 HR0 HB0 HKQ0
    obtain ⟨k, gs, hk, rfl, HGL, HGR, HD1, HD2, HD3, HD4, HO, HGS, HR, HB, HKQ⟩ := hrel
    by_cases hlt : k < vs.length
    ·obtain ⟨L, c', hLv, hLb, hLl⟩ := HO.out.form cq2
     injection hLv with e1 _ e2
     subst e1 e2
     have hx0 : wr.cell? ⟨L, k, none⟩ = some (at_ vs k) := by
      have := HO.out.cells (g := L) rfl k (at_ vs k) cq22
      rwa [add_plain] at this
     have hk0 := HR.out k hlt
     obtain ⟨Ak, ck, hvk⟩ := own_slice hk0
     rw [hvk] at hx0 hk0
     have HVK := qA hvk
     have HK0 := qA hk0
     clear hvk hk0
     obtain ⟨n, hnk⟩ : ∃ n, ns.getD k 0 = n := ⟨_, rfl⟩
     have hn64 := HN.out k
     rw [hnk] at hx0 HVK HK0 hn64
     have HNK := qA hnk
     have HK0' : Aside0 (wr.ownsRow base 3 1 (.slice Ak n ck) n (CI k n)) := ⟨by have := HK0.out; simp only [hnk] at this; exact this⟩
     clear hnk
     have HX : Aside0 (some L ≠ (Value.slice Ak n ck).ownBlock) := ⟨by
      have := HS.out k
      rw [HVK.out] at this
      rcases this with h | h
      ·cases h
      ·exact h⟩
     go_wp2
     obtain ⟨W1, hW1⟩ : ∃ x, x = wr := ⟨_, rfl⟩
     subst hW1
     go_loopw [7, 8] (fun v7 v8 wi => ∃ (q : Nat), q ≤ 64 ∧ v8 = .int .i64 (q : Int) ∧ Aside0 (wi.ownsRow base 3 1 v7 (n + q) (CI k (n + q))) ∧ Aside0 (wi.ownsRow base 3 1 (.slice Ak n ck) n (CI k n)) ∧ Aside0 (Below base w wi) ∧ Aside0 (W1.grownBy wi (Value.slice Ak n ck).ownBlock)
      ∧ Aside0 (v7.ownBlock = (Value.slice Ak n ck).ownBlock ∨ ∃ b, v7.ownBlock = some b ∧ W1.heap.size ≤ b)) (fun _ v8 _ => 64 - (intOf v8).toNat)
     case atStart => exact ⟨0, Nat.zero_le _, rfl, HK0', HK0', HB, ⟨World.grownBy.refl _ _⟩, ⟨.inl rfl⟩⟩
     case round =>
      obtain ⟨q, hq, rfl, HQ, HV, HBi, HG, HA7⟩ := hrel
      have hx0i : wr.cell? ⟨L, k, none⟩ = some (.slice Ak n ck) := by
       rw [HG.out.cell_far _ (World.block_lt_of_cell? _ _ hx0) (HX.out)]; exact hx0
      by_cases hlq : q < 64
      ·have hlq' : (q : Int) < 64 := by omega
       go_wp2_with fail
       refine (mark_calls (k : Int) ((n : Int) + (q : Int)) _ cq2 cq2 cq2 cq2).mono ?_
       rintro e w2 ⟨rfl, hb⟩
       have HQ2 := qA (pw_own_below HQ.out hb)
       have HV2 := qA (pw_own_below HV.out hb)
       have HB2 := qA (below_then HBi.out (Nat.le_trans hbase HBi.out.size) hb)
       have HG2 := qA (HG.out.trans (grown_of_below hb _))
       have hx2 := pw_cell_below hb hx0i
       clear hb
       have HCS : Aside0 (CI (k : Int) (n + q) ++ [.int .i64 (mkI (k : Int) ((n : Int) + (q : Int)))] = CI k (n + (q + 1))) := ⟨by
        rw [← Nat.add_assoc, CI_succ, Int.natCast_add]⟩
       go_wp2_with (first | ((with_reducible refine gate_builtin (b := .append) (xs := #[.tmp 57, .tmp 67]) rfl ?_); at_builtin; go_loud (refine O_append_keep (w0 := w) base rfl (.tmp 57) (.tmp 67) 44 3 (.int .i64 0) 1 8 rfl Tryz.underlying44 info3 rfl cq6 cq2 u7 (n + q) (CI k (n + q)) 1 1 [.int .i64 (mkI (k : Int) ((n : Int) + (q : Int)))] ⟨w2.heap.size, 0, none⟩ ?aS ?aX rfl ?aC ?aN ?aO ?aB ?aZ ?aL ?_; (case aS => first | rfl | (simp [Act.eval]; done)); (case aX => first | rfl | (simp [Act.eval]; done)); (case aC => exact cells_lit1 _ _ _); (case aN => intro u hu; simp at hu; subst hu; rfl); (case aO => exact HQ2.out.alloc _); (case aB => exact HB2.out.alloc (Nat.le_trans hbase HB2.out.size) _); (case aZ => simp; have := HB2.out.size; omega); (case aL => omega); intro v68 w4 ho1 ho2 hb hg hat; have HN4 := qA ho1; have HQ4 := qA ho2; have HB4 := qA hb; have HG4 := qA hg; have HAT := qA hat; clear ho1 ho2 hb hg hat)))
       have HGA := HG2.out.trans (World.grownBy_alloc w2 (Obj.cells #[Value.int IntKind.i64 (mkI (k : Int) ((n : Int) + (q : Int)))] 3) _)
       have HVn : Aside0 (w4.ownsRow base 3 1 (.slice Ak n ck) n (CI k n)) := ⟨by
        rcases HA7.out with h | ⟨b, h, hge⟩
        ·exact own_under cq6 HV2.out HQ2.out h HQ4.out cq2 (by rw [Nat.mul_one]; exact CI_take _ _ _)
        ·exact own_grown (HV2.out.alloc _) HG4.out (disj_fresh HK0'.out h hge)⟩
       have HGn : Aside0 (W1.grownBy w4 (Value.slice Ak n ck).ownBlock) := ⟨HGA.andThen HG4.out (fun j hj => by
        rcases HA7.out with h | ⟨b, h, hge⟩
        ·exact .inr (by rw [← h]; exact hj)
        ·rw [hj] at h; injection h with h; subst h; exact .inl hge)⟩
       have HAn : Aside0 (v68.ownBlock = (Value.slice Ak n ck).ownBlock ∨ ∃ b, v68.ownBlock = some b ∧ W1.heap.size ≤ b) := ⟨by
        rcases HAT.out with h | h
        ·rw [h]; exact HA7.out
        ·exact .inr ⟨_, h, HGA.size⟩⟩
       have HNn : Aside0 (w4.ownsRow base 3 1 v68 (n + (q + 1)) (CI k (n + (q + 1)))) := ⟨by have := HN4.out; rw [HCS.out] at this; exact this⟩
       clear HGA HCS
       go_roundw
       case rel => exact ⟨q + 1, by omega, by go_num, HNn, HVn, HB4, HGn, HAn⟩
       case measure => simp [intOf]; omega
      ·obtain rfl : q = 64 := by omega
       obtain ⟨A7, c7, rfl⟩ := own_slice HQ.out
       have hGv := HG.out
       rw [← HVK.out] at hGv
       have h7 := HA7.out
       rw [← HVK.out] at h7
       have HGSi := own_grown HGS.out hGv (HVG.out k)
       have HC0 : ∃ z, wr.cell? ⟨G, k, none⟩ = some z := by
        have hl : k < gs.length := by rw [HGL.out]; exact hlt
        exact ⟨gs[k], by have := HGSi.cells (g := G) rfl k gs[k] (qE hl); rwa [add_plain] at this⟩
       obtain ⟨z0, hz0⟩ := HC0
       have hzf := HGSi.frozenAt k
       obtain ⟨hst, hgr⟩ := HGSi.stored k (.slice A7 (n + 64) c7)
       have HST := qA hst
       have HGR' := qA hgr
       have HGV := qA hGv
       have H7 := qA h7
       have HGSI := qA HGSi
       have HGB : Aside0 (base ≤ G) := ⟨(HGS.out.lt G rfl).1⟩
       clear hst hgr hGv h7 HGSi
       go_wp2
       have hkg : k < gs.length := by rw [HGL.out]; exact hlt
       have hset : ∀ j, at_ (gs.set k (.slice A7 (n + 64) c7)) j = if j = k then .slice A7 (n + 64) c7 else at_ gs j := fun j => by
        unfold at_
        rw [qD, qD, List.getElem?_set]
        by_cases e : j = k
        ·subst e; simp [hkg]
        ·rw [if_neg (fun h => e h.symm), if_neg e]
       have dV : ∀ i, i ≠ k → disj (at_ vs i) (.slice A7 (n + 64) c7) := fun i hi => by
        by_cases hl : i < vs.length
        ·exact disj_step H7.out (HR.out i hl) (HA.out i k hi)
        ·refine .inl ?_
         unfold at_
         rw [qD, List.getElem?_eq_none cq2]
         rfl
       have dG : ∀ j, j < k → disj (at_ gs j) (.slice A7 (n + 64) c7) := fun j hj => disj_step H7.out (HGR.out j hj) (HD1.out k j hj cq2).symm
       have dH : disj (.slice (some ⟨G, 0, none⟩) vs.length vs.length) (.slice A7 (n + 64) c7) := disj_step H7.out HGS.out (HVG.out k)
       have dL : disj (.slice (some ⟨L, 0, none⟩) vs.length c) (.slice A7 (n + 64) c7) := disj_step H7.out HO.out (HS.out k)
       have R1 : Aside0 (∀ j, j < k + 1 → (wr.setCell ⟨G, k, none⟩ (.slice A7 (n + 64) c7)).ownsRow base 3 1 (at_ (gs.set k (.slice A7 (n + 64) c7)) j) (ns.getD j 0 + 64) (CI j (ns.getD j 0 + 64))) := ⟨fun j hj => by
        rw [hset]
        by_cases e : j = k
        ·subst e
         rw [if_pos rfl, HNK.out]
         exact own_grown HQ.out (u := .slice (some ⟨G, 0, none⟩) vs.length vs.length) HGR'.out dH.symm
        ·rw [if_neg e]
         exact own_grown (own_grown (HGR.out j cq2) HGV.out (HD1.out k j cq2 cq2).symm) (u := .slice (some ⟨G, 0, none⟩) vs.length vs.length) HGR'.out (HD3.out j cq2).symm⟩
       have R2 : Aside0 (∀ i j, j < k + 1 → i ≠ j → disj (at_ vs i) (at_ (gs.set k (.slice A7 (n + 64) c7)) j)) := ⟨fun i j hj hij => by
        rw [hset]
        by_cases e : j = k
        ·subst e; rw [if_pos rfl]; exact dV i hij
        ·rw [if_neg e]; exact HD1.out i j cq2 hij⟩
       have R3 : Aside0 (∀ i j, i < k + 1 → j < k + 1 → i ≠ j → disj (at_ (gs.set k (.slice A7 (n + 64) c7)) i) (at_ (gs.set k (.slice A7 (n + 64) c7)) j)) := ⟨fun i j hi hj hij => by
        rw [hset, hset]
        by_cases e : j = k
        ·subst e; rw [if_pos rfl, if_neg hij]; exact dG i cq2
        ·by_cases e2 : i = k
         ·subst e2; rw [if_pos rfl, if_neg e]; exact (dG j cq2).symm
         ·rw [if_neg e, if_neg e2]; exact HD2.out i j cq2 cq2 hij⟩
       have R4 : Aside0 (∀ j, j < k + 1 → disj (.slice (some ⟨G, 0, none⟩) vs.length vs.length) (at_ (gs.set k (.slice A7 (n + 64) c7)) j)) := ⟨fun j hj => by
        rw [hset]
        by_cases e : j = k
        ·subst e; rw [if_pos rfl]; exact dH
        ·rw [if_neg e]; exact HD3.out j cq2⟩
       have R5 : Aside0 (∀ j, j < k + 1 → disj (.slice (some ⟨L, 0, none⟩) vs.length c) (at_ (gs.set k (.slice A7 (n + 64) c7)) j)) := ⟨fun j hj => by
        rw [hset]
        by_cases e : j = k
        ·subst e; rw [if_pos rfl]; exact dL
        ·rw [if_neg e]; exact HD4.out j cq2⟩
       have R6 := qA (own_grown (own_grown HO.out HGV.out (HS.out k)) (u := .slice (some ⟨G, 0, none⟩) vs.length vs.length) HGR'.out HLG.out)
       have R7 : Aside0 (RowsO (wr.setCell ⟨G, k, none⟩ (.slice A7 (n + 64) c7)) base 3 1 vs ns (fun j => CI j (ns.getD j 0))) := ⟨fun j hj => by
        by_cases e : j = k
        ·subst e
         have := HV.out
         rw [← HVK.out, ← HNK.out] at this
         exact own_grown this (u := .slice (some ⟨G, 0, none⟩) vs.length vs.length) HGR'.out (HVG.out j).symm
        ·exact own_grown (own_grown (HR.out j hj) HGV.out (HA.out j k e)) (u := .slice (some ⟨G, 0, none⟩) vs.length vs.length) HGR'.out (HVG.out j).symm⟩
       have R8 : Aside0 (Below base w (wr.setCell ⟨G, k, none⟩ (.slice A7 (n + 64) c7))) := ⟨HBi.out.setCell HGB.out _⟩
       have R9 : Aside0 (KQ w (wr.setCell ⟨G, k, none⟩ (.slice A7 (n + 64) c7)) vs) := ⟨(HKQ.out.step HB.out.size HGV.out (fun q e => .inr ⟨k, e⟩)).step HBi.out.size HGR'.out (fun q e => .inl cq50)⟩
       have R0 : Aside0 ((gs.set k (.slice A7 (n + 64) c7)).length = vs.length) := ⟨by rw [List.length_set]; exact HGL.out⟩
       clear hset dV dG dH dL
       go_roundw
       case rel => exact ⟨k + 1, _, by omega, by go_num, R0, R1, R2, R3, R4, R5, R6, HST, R7, R8, R9⟩
       case measure => simp [intOf]; omega
    ·obtain rfl : k = vs.length := by omega
     go_wp2
     obtain ⟨W2, hW2⟩ : ∃ x, x = wr := ⟨_, rfl⟩
     subst hW2
     go_loopw [2, 9] (fun v2 v9 wr => ∃ (k : Nat), k ≤ vs.length ∧ v2 = .bool false ∧ v9 = .int .i64 (k : Int) ∧ Aside0 (Below W2.heap.size W2 wr)) (fun _ v9 _ => vs.length - (intOf v9).toNat)
     case atStart => exact ⟨0, Nat.zero_le _, rfl, rfl, ⟨Below.refl _ _⟩⟩
     case round =>
      obtain ⟨k, hk, rfl, rfl, HB3⟩ := hrel
      by_cases hlt : k < vs.length
      ·obtain ⟨L, c', hLv, hLb, hLl⟩ := HO.out.form cq2
       injection hLv with e1 _ e2
       subst e1 e2
       have hx00 : W2.cell? ⟨L, k, none⟩ = some (at_ vs k) := by
        have := HO.out.cells (g := L) rfl k (at_ vs k) cq22
        rwa [add_plain] at this
       have hg00 : W2.cell? ⟨G, k, none⟩ = some (at_ gs k) := by
        have := HGS.out.cells (g := G) rfl k (at_ gs k) cq42
        rwa [add_plain] at this
       have hk0 := HR.out k hlt
       have hj0 := HGR.out k hlt
       obtain ⟨n, hnk⟩ : ∃ n, ns.getD k 0 = n := ⟨_, rfl⟩
       have hn64 := HN.out k
       simp only [hnk] at hk0 hj0 hn64
       clear hnk
       obtain ⟨Ak, ck, hvk⟩ := own_slice hk0
       obtain ⟨bg, cg, hvg, hgb, hgl⟩ := hj0.form cq2
       rw [hvk] at hx00 hk0
       rw [hvg] at hg00 hj0
       have HK0 := qA hk0
       have HJ0 := qA hj0
       clear hvk hvg hk0 hj0
       have hx01 := pw_cell_below HB3.out hx00
       have hg01 := pw_cell_below HB3.out hg00
       go_wp2
       go_loopw [2, 10] (fun v2 v10 wr => ∃ (j : Nat), j ≤ n + 64 ∧ v2 = .bool false ∧ v10 = .int .i64 (j : Int) ∧ Aside0 (Below W2.heap.size W2 wr)) (fun _ v10 _ => n + 64 - (intOf v10).toNat)
       case atStart => exact ⟨0, Nat.zero_le _, rfl, rfl, HB3⟩
       case round =>
        clear HB3 hx01 hg01
        obtain ⟨j, hj, rfl, rfl, HB⟩ := hrel
        have hx0 := pw_cell_below HB.out hx00
        have hg0 := pw_cell_below HB.out hg00
        by_cases hlj : j < n + 64
        ·have hlj' : (j : Int) < (n : Int) + 64 := by omega
         have hg1 : wr.cell? ⟨bg, j, none⟩ = some (.int .i64 (mkI (k : Int) (j : Int))) := pw_cell_below HB.out (by
          have := HJ0.out.cells (g := bg) rfl j _ (CI_get _ hlj); rwa [add_plain] at this)
         go_wp2
         by_cases hjn : j < n
         ·obtain ⟨bv, ck', hbv, hbb, hbl⟩ := HK0.out.form cq2
          injection hbv with e1 _ e2
          subst e1 e2
          have hx1 : wr.cell? ⟨bv, j, none⟩ = some (.int .i64 (mkI (k : Int) (j : Int))) := pw_cell_below HB.out (by
           have := HK0.out.cells (g := bv) rfl j _ (CI_get _ hjn); rwa [add_plain] at this)
          refine Rs.wp_region_stable [88, 89, 90, 91, 92, 93, 94, 95, 96, 97, 98, 99, 100, 101, 102, 103, 104, 105, 106, 107, 108, 109, 110, 111, 112, 113, 114, 115, 116, 117, 118, 119, 120, 121, 122] [.slice (some ⟨G, 0, none⟩) vs.length vs.length, .int .i64 ((k : Int)), .pointer (some (⟨G, k, none⟩)), .slice (some ⟨bg, 0, none⟩) (n + 64) cg, .int .i64 ((j : Int)), .pointer (some (⟨bg, j, none⟩)), .int .i64 (mkI (k : Int) (j : Int)), .int .i64 ((k : Int)), .int .i64 ((j : Int)), .int .i64 (mkI (k : Int) (j : Int)), .bool true, .bool false, .bool false, .int .i64 ((j : Int)), .slice (some ⟨L, 0, none⟩) vs.length c, .int .i64 ((k : Int)), .pointer (some (⟨L, k, none⟩)), .slice (some ⟨bv, 0, none⟩) n ck, .int .i64 ((n : Int)), .bool true, .bool true, .slice (some ⟨L, 0, none⟩) vs.length c, .int .i64 ((k : Int)), .pointer (some (⟨L, k, none⟩)), .slice (some ⟨bv, 0, none⟩) n ck, .int .i64 ((j : Int)), .pointer (some (⟨bv, j, none⟩)), .int .i64 (mkI (k : Int) (j : Int)), .int .i64 ((k : Int)), .int .i64 ((j : Int)), .int .i64 (mkI (k : Int) (j : Int)), .bool true, .bool false, .bool false, .bool false] (fun w' => Below wr.heap.size wr w') cq3 cq3 rfl (below_drew (Below.refl _ _)) ⟨?s0, fj5, fj0, ?s3, fj6, fj0, ?s6, fj5, fj6, ?s9, fj0, fj2, fj2, fj7, fj10, fj8, fj1, fj11, fj3, fj1, fj3, fj10, fj8, fj1, fj11, fj7, fj1, ?s27, fj8, fj7, ?s30, fj1, fj3, fj1, fj0, trivial⟩ ?_
          case s0 => exact fun a w' hG hd hf K hK => by have f0 := Rs.lf (hf 5 cq6) rfl; exact Rs.ok_val (Rs.want_none rfl) Rs.gs (hK w' hG)
          case s3 => exact fun a w' hG hd hf K hK => by have f0 := Rs.ld (hd 0 _ rfl rfl _ rfl) rfl; have z0 := pw_cell_below hG hg0; exact Rs.ok_val (Rs.want_none rfl) Rs.gs (hK w' hG)
          case s6 => exact fun a w' hG hd hf K hK => by have f0 := Rs.ld (hd 0 _ rfl rfl _ rfl) rfl; have z0 := pw_cell_below hG hg1; exact Rs.ok_val (Rs.want_none rfl) Rs.gs (hK w' hG)
          case s9 =>
           exact fun a w' hG hd hf K hK => by
            have e95 : a.tmps[95]? = some (.int .i64 ((k : Int))) := hd 0 _ rfl rfl _ rfl; have e96 : a.tmps[96]? = some (.int .i64 ((j : Int))) := hd 1 _ rfl rfl _ rfl
            exact goes_ Tryz.func24 cq3 rfl #[.int .i64 (k : Int), .int .i64 (j : Int)] (Rs.want_none rfl) rfl rfl (by simp [Act.eval, Array.getD_eq_getD_getElem?, e95, e96]) (((mark_calls (k : Int) (j : Int) w' cq2 cq2 cq2 cq2).mono cq7))
          case s27 => exact fun a w' hG hd hf K hK => by have f0 := Rs.ld (hd 0 _ rfl rfl _ rfl) rfl; have z0 := pw_cell_below hG hx1; exact Rs.ok_val ((Rs.want_on rfl rfl (hd 1 _ rfl rfl _ rfl)).trans rfl) Rs.gs (hK w' hG)
          case s30 =>
           exact fun a w' hG hd hf K hK => by
            have e116 : a.tmps[116]? = some (.int .i64 ((k : Int))) := hd 0 _ rfl rfl _ rfl; have e117 : a.tmps[117]? = some (.int .i64 ((j : Int))) := hd 1 _ rfl rfl _ rfl
            exact goes_ Tryz.func24 cq3 rfl #[.int .i64 (k : Int), .int .i64 (j : Int)] ((Rs.want_on (t := 108) (b' := true) rfl rfl (hd 2 _ rfl rfl _ rfl)).trans rfl) rfl rfl (by simp [Act.eval, Array.getD_eq_getD_getElem?, e116, e117]) (((mark_calls (k : Int) (j : Int) w' cq2 cq2 cq2 cq2).mono cq7))
          intro wz hz
          have hHeld := And.intro (below_then HB.out HB.out.size hz) trivial
          simp only [Rs.putL, Act.put, qS, qZ, qN]
          go_wp2
          go_roundw
          case rel => exact ⟨j + 1, by omega, rfl, by go_num, ⟨hHeld.1⟩⟩
          case measure => simp [intOf]; omega
         ·have hjn' : ¬ (j : Int) < (n : Int) := by omega
          refine Rs.wp_region_stable [88, 89, 90, 91, 92, 93, 94, 95, 96, 97, 98, 99, 100, 101, 102, 103, 104, 105, 106, 107, 108, 109, 110, 111, 112, 113, 114, 115, 116, 117, 118, 119, 120, 121, 122] [.slice (some ⟨G, 0, none⟩) vs.length vs.length, .int .i64 ((k : Int)), .pointer (some (⟨G, k, none⟩)), .slice (some ⟨bg, 0, none⟩) (n + 64) cg, .int .i64 ((j : Int)), .pointer (some (⟨bg, j, none⟩)), .int .i64 (mkI (k : Int) (j : Int)), .int .i64 ((k : Int)), .int .i64 ((j : Int)), .int .i64 (mkI (k : Int) (j : Int)), .bool true, .bool false, .bool false, .int .i64 ((j : Int)), .slice (some ⟨L, 0, none⟩) vs.length c, .int .i64 ((k : Int)), .pointer (some (⟨L, k, none⟩)), .slice Ak n ck, .int .i64 ((n : Int)), .bool false, .bool false, undef, undef, undef, undef, undef, undef, undef, undef, undef, undef, undef, undef, .bool false, .bool false] (fun w' => Below wr.heap.size wr w') cq3 cq3 rfl (below_drew (Below.refl _ _)) ⟨?s0, fj5, fj0, ?s3, fj6, fj0, ?s6, fj5, fj6, ?s9, fj0, fj2, fj2, fj7, fj10, fj8, fj1, fj11, fj3, fj1, fj3, fj4, fj4, fj9, fj12, fj4, fj9, fj12, fj4, fj4, fj9, fj9, fj12, fj1, fj0, trivial⟩ ?_
          case s0 => exact fun a w' hG hd hf K hK => by have f0 := Rs.lf (hf 5 cq6) rfl; exact Rs.ok_val (Rs.want_none rfl) Rs.gs (hK w' hG)
          case s3 => exact fun a w' hG hd hf K hK => by have f0 := Rs.ld (hd 0 _ rfl rfl _ rfl) rfl; have z0 := pw_cell_below hG hg0; exact Rs.ok_val (Rs.want_none rfl) Rs.gs (hK w' hG)
          case s6 => exact fun a w' hG hd hf K hK => by have f0 := Rs.ld (hd 0 _ rfl rfl _ rfl) rfl; have z0 := pw_cell_below hG hg1; exact Rs.ok_val (Rs.want_none rfl) Rs.gs (hK w' hG)
          case s9 =>
           exact fun a w' hG hd hf K hK => by
            have e95 : a.tmps[95]? = some (.int .i64 ((k : Int))) := hd 0 _ rfl rfl _ rfl; have e96 : a.tmps[96]? = some (.int .i64 ((j : Int))) := hd 1 _ rfl rfl _ rfl
            exact goes_ Tryz.func24 cq3 rfl #[.int .i64 (k : Int), .int .i64 (j : Int)] (Rs.want_none rfl) rfl rfl (by simp [Act.eval, Array.getD_eq_getD_getElem?, e95, e96]) (((mark_calls (k : Int) (j : Int) w' cq2 cq2 cq2 cq2).mono cq7))
          intro wz hz
          have hHeld := And.intro (below_then HB.out HB.out.size hz) trivial
          simp only [Rs.putL, Act.put, qS, qZ, qN]
          go_wp2
          go_roundw
          case rel => exact ⟨j + 1, by omega, rfl, by go_num, ⟨hHeld.1⟩⟩
          case measure => simp [intOf]; omega
        ·obtain rfl : j = n + 64 := by omega
         go_wp2
         go_roundw
         case rel => exact ⟨k + 1, by omega, rfl, by go_num, HB⟩
         case measure => simp [intOf]; omega
      ·obtain rfl : k = vs.length := by omega
       have HO4 := qA (pw_own_below HO.out HB3.out)
       have HGS4 := qA (pw_own_below HGS.out HB3.out)
       have HR4 := qA (HR.out.below HB3.out)
       have HB4 := qA (below_then HB.out (Nat.le_trans hbase HB.out.size) HB3.out)
       have HKQ4 := qA (HKQ.out.below HB.out.size HB3.out)
       clear HO HGS HR HB HGR HD1 HD2 HD3 HD4 HB3 HKQ
       go_wp2
       go_loopw [11] (fun v11 wr => ∃ (k : Nat) (gs : List Value), k ≤ vs.length ∧ v11 = .int .i64 (k : Int) ∧ Aside0 (gs.length = vs.length)
        ∧ Aside0 (∀ j, j < k → wr.ownsRow base 3 1 (at_ gs j) (ns.getD j 0 + 64) (CI j (ns.getD j 0) ++ CI (j + vs.length : Nat) 64))
        ∧ Aside0 (∀ i j, j < k → i ≠ j → disj (at_ vs i) (at_ gs j))
        ∧ Aside0 (∀ j, j < k → disj (.slice (some ⟨G, 0, none⟩) vs.length vs.length) (at_ gs j)) ∧ Aside0 (∀ j, j < k → disj (.slice A vs.length c) (at_ gs j))
        ∧ Aside0 (wr.ownsRow base 44 1 (.slice A vs.length c) vs.length vs) ∧ Aside0 (wr.ownsRow base 44 1 (.slice (some ⟨G, 0, none⟩) vs.length vs.length) vs.length gs)
        ∧ Aside0 (RowsO wr base 3 1 vs ns (fun j => CI j (ns.getD j 0))) ∧ Aside0 (Below base w wr) ∧ Aside0 (KQ w wr vs)) (fun v11 _ => vs.length - (intOf v11).toNat)
       case atStart => exact ⟨0, gs, Nat.zero_le _, rfl, HGL, ⟨fun j hj => absurd hj cq2⟩, ⟨fun i j hj => absurd hj cq2⟩, ⟨fun j hj => absurd hj cq2⟩, ⟨fun j hj => absurd hj cq2⟩, HO4, HGS4, HR4, HB4, HKQ4⟩
       case round =>
        clear HO4 HGS4 HR4 HB4 HGL HKQ4
        obtain ⟨k, gs, hk, rfl, HGL, HGR, HD1, HD3, HD4, HO, HGS, HR, HB, HKQ⟩ := hrel
        by_cases hlt : k < vs.length
        ·obtain ⟨L, c', hLv, hLb, hLl⟩ := HO.out.form cq2
         injection hLv with e1 _ e2
         subst e1 e2
         have hx00 : wr.cell? ⟨L, k, none⟩ = some (at_ vs k) := by
          have := HO.out.cells (g := L) rfl k (at_ vs k) cq22
          rwa [add_plain] at this
         have hk0 := HR.out k hlt
         obtain ⟨n, hnk⟩ : ∃ n, ns.getD k 0 = n := ⟨_, rfl⟩
         have hn64 := HN.out k
         simp only [hnk] at hk0 hn64
         obtain ⟨Ak, ck, hvk⟩ := own_slice hk0
         rw [hvk] at hx00 hk0
         have HVK := qA hvk
         have HK0 := qA hk0
         have HNK := qA hnk
         clear hvk hk0 hnk
         have HVGk : Aside0 (disj (.slice (some ⟨G, 0, none⟩) vs.length vs.length) (.slice Ak n ck)) := ⟨by have := HVG.out k; rwa [HVK.out] at this⟩
         obtain ⟨i0, hi, hz0, hz1, hz2⟩ := info_parts info3
         obtain ⟨W0, hrun, hown, hg⟩ := run_make_full (P := Tryz.prog) wr base 44 3 i0 (.int .i64 0) 1 Tryz.underlying44 hi hz0 hz1 .i64 .i64 64 cq49 cq35 (Nat.le_trans hbase HB.out.size)
         obtain ⟨M, hM⟩ : ∃ x, wr.heap.size = x := ⟨_, rfl⟩
         obtain ⟨W1, hW1⟩ : ∃ x, x = wr := ⟨_, rfl⟩
         have HBM : Aside0 (Below W1.heap.size W1 W0) := ⟨by rw [hW1]; exact (Below.refl wr.heap.size wr).grown hg (Nat.le_refl _) (fun k hk => by cases hk)⟩
         have HMW : Aside0 (M = W1.heap.size) := ⟨by rw [hW1, hM]⟩
         have HMN : Aside0 (W0.ownsRow base 3 1 (.slice (some ⟨M, 0, none⟩) 64 64) 64 (CI ((k : Int) + (vs.length : Int)) 0 ++ List.replicate 64 (Value.int .i64 0))) := ⟨by
          rw [hM] at hown
          rw [show (madeCells (Value.int .i64 0).cells (64 * 1)).toList = List.replicate 64 (Value.int .i64 0) by rw [Nat.mul_one]; exact toList_madeCells_one _ _] at hown
          exact hown⟩
         rw [hM] at hrun
         have hrun' : (Instr.makeSlice 44 (.int .i64 64) (.int .i64 64)).run Tryz.prog wr = .ok (.slice (some ⟨M, 0, none⟩) 64 64) W0 := hrun
         rw [← hW1] at HO HGS HR HB HGR hx00 HK0 HKQ
         have HHM := qA hM
         clear hi hz0 hz1 hz2 hown hg hrun hM
         go_wp2
         clear hrun' hW1
         go_loopw [13] (fun v13 wi => ∃ i : Nat, i ≤ 64 ∧ v13 = .int .i64 (i : Int) ∧ Aside0 (wi.ownsRow base 3 1 (.slice (some ⟨M, 0, none⟩) 64 64) 64 (CI ((k : Int) + (vs.length : Int)) i ++ List.replicate (64 - i) (Value.int .i64 0))) ∧ Aside0 (Below W1.heap.size W1 wi)) (fun v13 _ => 64 - (intOf v13).toNat)
         case atStart => exact ⟨0, Nat.zero_le _, rfl, HMN, HBM⟩
         case round =>
          clear HMN HBM
          obtain ⟨i, hi, rfl, HMN, HBM⟩ := hrel
          by_cases hli : i < 64
          ·have hli' : (i : Int) < 64 := by omega
           go_wp2_with fail
           refine (mark_calls ((k : Int) + (vs.length : Int)) (i : Int) _ cq2 cq2 cq2 cq2).mono ?_
           rintro e w2 ⟨rfl, hb⟩
           have HMN2 := qA (pw_own_below HMN.out hb)
           have HBM2 := qA (below_then HBM.out HBM.out.size hb)
           clear hb
           have hset : (CI ((k : Int) + (vs.length : Int)) i ++ List.replicate (64 - i) (Value.int .i64 0)).set i (.int .i64 (mkI ((k : Int) + (vs.length : Int)) (i : Int))) = CI ((k : Int) + (vs.length : Int)) (i + 1) ++ List.replicate (64 - (i + 1)) (Value.int .i64 0) := by
            rw [List.set_append_right _ _ cq40, CI_len, Nat.sub_self, CI_succ, show 64 - i = 64 - (i + 1) + 1 by omega, List.replicate_succ]
            simp
           have hcl : w2.cell? ⟨M, i, none⟩ = some (.int .i64 0) := by
            have := HMN2.out.cells (g := M) rfl i (.int .i64 0) cq39
            rwa [add_plain] at this
           have hfr : w2.frozen? ⟨M, i, none⟩ = false := HMN2.out.frozenAt i
           obtain ⟨hst, hgr⟩ := HMN2.out.stored i (.int .i64 (mkI ((k : Int) + (vs.length : Int)) (i : Int)))
           rw [hset] at hst
           have HST := qA hst
           have HBN : Aside0 (Below W1.heap.size W1 (w2.setCell ⟨M, i, none⟩ (.int .i64 (mkI ((k : Int) + (vs.length : Int)) (i : Int))))) := ⟨HBM2.out.setCell (by rw [HMW.out]; exact Nat.le_refl _) _⟩
           clear hst hgr hset
           go_wp2
           go_roundw
           case rel => exact ⟨i + 1, by omega, by go_num, HST, HBN⟩
           case measure => simp [intOf]; omega
          ·obtain rfl : i = 64 := by omega
           have HMN6 : Aside0 (wr.ownsRow base 3 1 (.slice (some ⟨M, 0, none⟩) 64 64) 64 (CI ((k : Int) + (vs.length : Int)) 64)) := ⟨by simpa using HMN.out⟩
           have hx0i := pw_cell_below HBM.out hx00
           have HBW := qA (below_then HB.out (Nat.le_trans hbase HB.out.size) HBM.out)
           have HOi := qA (pw_own_below HO.out HBM.out)
           have HGSi := qA (pw_own_below HGS.out HBM.out)
           have HKi := qA (pw_own_below HK0.out HBM.out)
           have hcells : ∀ (j : Nat) (u : Value), (CI ((k : Int) + (vs.length : Int)) 64)[j]? = some u → wr.cell? ((⟨M, 0, none⟩ : Addr).add j) = some u := fun j u h => HMN6.out.cells (g := M) rfl j u h
           have hone : ∀ u ∈ CI ((k : Int) + (vs.length : Int)) 64, u.oneCell' = true := by
            intro u hu
            unfold CI at hu
            obtain ⟨a, _, rfl⟩ := List.mem_map.1 hu
            rfl
           have HCE := qA hcells
           have HON := qA hone
           clear hcells hone
           go_wp2_with (first | ((with_reducible refine gate_builtin (b := .append) (xs := #[.tmp 148, .tmp 149]) rfl ?_); at_builtin; go_loud (refine O_append_keep (w0 := w) base rfl (.tmp 148) (.tmp 149) 44 3 (.int .i64 0) 1 8 rfl Tryz.underlying44 info3 rfl cq6 cq2 (.slice Ak n ck) n (CI k n) 64 64 (CI ((k : Int) + (vs.length : Int)) 64) ⟨M, 0, none⟩ ?aS ?aX ?aLe ?aC ?aN ?aO ?aB ?aZ ?aL ?_; (case aS => first | rfl | (simp [Act.eval]; done)); (case aX => first | rfl | (simp [Act.eval]; done)); (case aLe => rw [CI_len]); (case aC => exact HCE.out); (case aN => exact HON.out); (case aO => exact HKi.out); (case aB => exact HBW.out); (case aZ => have := HBW.out.size; omega); (case aL => omega); intro v150 w4 ho1 ho2 hb hg hat; have HN4 := qA ho1; have HQ4 := qA ho2; have HB4 := qA hb; have HG4 := qA hg; have HAT := qA hat; clear ho1 ho2 hb hg hat; obtain ⟨A7, c7, rfl⟩ := own_slice HN4.out; have HGS4 := qA (own_grown HGSi.out HG4.out HVGk.out); obtain ⟨z0, hz0⟩ := row_cell HGS4.out k cq59; have hzf := HGS4.out.frozenAt k)))
           obtain ⟨hst, hgr⟩ := HGS4.out.stored k (.slice A7 (n + 64) c7)
           have HST := qA hst
           have HGR' := qA hgr
           have HGB : Aside0 (base ≤ G) := ⟨(HGS.out.lt G rfl).1⟩
           clear hst hgr
           have hkg : k < gs.length := by rw [HGL.out]; exact hlt
           have hset : ∀ j, at_ (gs.set k (.slice A7 (n + 64) c7)) j = if j = k then .slice A7 (n + 64) c7 else at_ gs j := fun j => by
            unfold at_
            rw [qD, qD, List.getElem?_set]
            by_cases e : j = k
            ·subst e; simp [hkg]
            ·rw [if_neg (fun h => e h.symm), if_neg e]
           have H7 : Aside0 ((Value.slice A7 (n + 64) c7).ownBlock = (Value.slice Ak n ck).ownBlock ∨ ∃ b, (Value.slice A7 (n + 64) c7).ownBlock = some b ∧ wr.heap.size ≤ b) := ⟨HAT.out.imp id (fun h => ⟨_, h, Nat.le_refl _⟩)⟩
           have hRi : ∀ i, i < vs.length → wr.ownsRow base 3 1 (at_ vs i) (ns.getD i 0) (CI i (ns.getD i 0)) := fun i hi => pw_own_below (HR.out i hi) HBM.out
           have dV : ∀ i, i ≠ k → disj (at_ vs i) (.slice A7 (n + 64) c7) := fun i hi => by
            by_cases hl : i < vs.length
            ·exact disj_step H7.out (hRi i hl) (by have := HA.out i k hi; rwa [HVK.out] at this)
            ·refine .inl ?_
             unfold at_
             rw [qD, List.getElem?_eq_none cq2]
             rfl
           have dH : disj (.slice (some ⟨G, 0, none⟩) vs.length vs.length) (.slice A7 (n + 64) c7) := disj_step H7.out HGSi.out HVGk.out
           have dL : disj (.slice (some ⟨L, 0, none⟩) vs.length c) (.slice A7 (n + 64) c7) := disj_step H7.out HOi.out cq56
           have R1 : Aside0 (∀ j, j < k + 1 → (w4.setCell ⟨G, k, none⟩ (.slice A7 (n + 64) c7)).ownsRow base 3 1 (at_ (gs.set k (.slice A7 (n + 64) c7)) j) (ns.getD j 0 + 64) (CI j (ns.getD j 0) ++ CI (j + vs.length : Nat) 64)) := ⟨fun j hj => by
            rw [hset]
            by_cases e : j = k
            ·subst e
             rw [if_pos rfl, HNK.out, Int.natCast_add]
             exact own_grown HN4.out (u := .slice (some ⟨G, 0, none⟩) vs.length vs.length) HGR'.out dH.symm
            ·rw [if_neg e]
             exact own_grown (own_grown (pw_own_below (HGR.out j cq2) HBM.out) HG4.out (by have := (HD1.out k j cq2 (fun e' => e e'.symm)).symm; rwa [HVK.out] at this)) (u := .slice (some ⟨G, 0, none⟩) vs.length vs.length) HGR'.out (HD3.out j cq2).symm⟩
           have R2 : Aside0 (∀ i j, j < k + 1 → i ≠ j → disj (at_ vs i) (at_ (gs.set k (.slice A7 (n + 64) c7)) j)) := ⟨fun i j hj hij => by
            rw [hset]
            by_cases e : j = k
            ·subst e; rw [if_pos rfl]; exact dV i hij
            ·rw [if_neg e]; exact HD1.out i j cq2 hij⟩
           have R4 : Aside0 (∀ j, j < k + 1 → disj (.slice (some ⟨G, 0, none⟩) vs.length vs.length) (at_ (gs.set k (.slice A7 (n + 64) c7)) j)) := ⟨fun j hj => by
            rw [hset]
            by_cases e : j = k
            ·subst e; rw [if_pos rfl]; exact dH
            ·rw [if_neg e]; exact HD3.out j cq2⟩
           have R5 : Aside0 (∀ j, j < k + 1 → disj (.slice (some ⟨L, 0, none⟩) vs.length c) (at_ (gs.set k (.slice A7 (n + 64) c7)) j)) := ⟨fun j hj => by
            rw [hset]
            by_cases e : j = k
            ·subst e; rw [if_pos rfl]; exact dL
            ·rw [if_neg e]; exact HD4.out j cq2⟩
           have R6 := qA (own_grown (own_grown HOi.out HG4.out cq56) (u := .slice (some ⟨G, 0, none⟩) vs.length vs.length) HGR'.out HLG.out)
           have R7 : Aside0 (RowsO (w4.setCell ⟨G, k, none⟩ (.slice A7 (n + 64) c7)) base 3 1 vs ns (fun j => CI j (ns.getD j 0))) := ⟨fun j hj => by
            by_cases e : j = k
            ·subst e
             have := HQ4.out
             rw [← HVK.out] at this
             show World.ownsRow _ base 3 1 _ _ (CI j (ns.getD j 0))
             rw [HNK.out]
             exact own_grown this (u := .slice (some ⟨G, 0, none⟩) vs.length vs.length) HGR'.out (HVG.out j).symm
            ·exact own_grown (own_grown (hRi j hj) HG4.out (by have := HA.out j k e; rwa [HVK.out] at this)) (u := .slice (some ⟨G, 0, none⟩) vs.length vs.length) HGR'.out (HVG.out j).symm⟩
           have R8 : Aside0 (Below base w (w4.setCell ⟨G, k, none⟩ (.slice A7 (n + 64) c7))) := ⟨HB4.out.setCell HGB.out _⟩
           have R9 : Aside0 (KQ w (w4.setCell ⟨G, k, none⟩ (.slice A7 (n + 64) c7)) vs) := ⟨((HKQ.out.below HB.out.size HBM.out).step HBW.out.size HG4.out (fun q e => .inr ⟨k, by rw [HVK.out]; exact e⟩)).step HB4.out.size HGR'.out (fun q e => .inl cq50)⟩
           have R0 : Aside0 ((gs.set k (.slice A7 (n + 64) c7)).length = vs.length) := ⟨by rw [List.length_set]; exact HGL.out⟩
           clear hset dV dH dL hRi
           go_roundw
           case rel => exact ⟨k + 1, _, by omega, by go_num, R0, R1, R2, R4, R5, R6, HST, R7, R8, R9⟩
           case measure => simp [intOf]; omega
        ·obtain rfl : k = vs.length := by omega
         go_wp2
         obtain ⟨W2, hW2⟩ : ∃ x, x = wr := ⟨_, rfl⟩
         subst hW2
         go_loopw [2, 14] (fun v2 v14 wr => ∃ (k : Nat), k ≤ vs.length ∧ v2 = .bool false ∧ v14 = .int .i64 (k : Int) ∧ Aside0 (Below W2.heap.size W2 wr)) (fun _ v14 _ => vs.length - (intOf v14).toNat)
         case atStart => exact ⟨0, Nat.zero_le _, rfl, rfl, ⟨Below.refl _ _⟩⟩
         case round =>
          obtain ⟨k, hk, rfl, rfl, HB3⟩ := hrel
          by_cases hlt : k < vs.length
          ·obtain ⟨L, c', hLv, hLb, hLl⟩ := HO.out.form cq2
           injection hLv with e1 _ e2
           subst e1 e2
           have hx00 : W2.cell? ⟨L, k, none⟩ = some (at_ vs k) := by
            have := HO.out.cells (g := L) rfl k (at_ vs k) cq22
            rwa [add_plain] at this
           have hg00 : W2.cell? ⟨G, k, none⟩ = some (at_ gs k) := by
            have := HGS.out.cells (g := G) rfl k (at_ gs k) cq42
            rwa [add_plain] at this
           have hk0 := HR.out k hlt
           have hj0 := HGR.out k hlt
           obtain ⟨n, hnk⟩ : ∃ n, ns.getD k 0 = n := ⟨_, rfl⟩
           have hn64 := HN.out k
           simp only [hnk] at hk0 hj0 hn64
           clear hnk
           obtain ⟨Ak, ck, hvk⟩ := own_slice hk0
           obtain ⟨bg, cg, hvg, hgb, hgl⟩ := hj0.form cq2
           rw [hvk] at hx00 hk0
           rw [hvg] at hg00 hj0
           have HK0 := qA hk0
           have HJ0 := qA hj0
           clear hvk hvg hk0 hj0
           have hx01 := pw_cell_below HB3.out hx00
           have hg01 := pw_cell_below HB3.out hg00
           go_wp2
           go_loopw [2, 15] (fun v2 v15 wr => ∃ (j : Nat), j ≤ n ∧ v2 = .bool false ∧ v15 = .int .i64 (j : Int) ∧ Aside0 (Below W2.heap.size W2 wr)) (fun _ v15 _ => n - (intOf v15).toNat)
           case atStart => exact ⟨0, Nat.zero_le _, rfl, rfl, HB3⟩
           case round =>
            clear HB3 hx01 hg01
            obtain ⟨j, hj, rfl, rfl, HB⟩ := hrel
            have hx0 := pw_cell_below HB.out hx00
            have hg0 := pw_cell_below HB.out hg00
            by_cases hlj : j < n
            ·have hlj' : (j : Int) < (n : Int) := by omega
             have hlj6 : (j : Int) < (n : Int) + 64 := by omega
             have hg1 : wr.cell? ⟨bg, j, none⟩ = some (.int .i64 (mkI (k : Int) (j : Int))) := pw_cell_below HB.out (by
              have := HJ0.out.cells (g := bg) rfl j (.int .i64 (mkI (k : Int) (j : Int))) (by rw [List.getElem?_append_left (by rw [CI_len]; exact hlj)]; exact CI_get _ hlj); rwa [add_plain] at this)
             obtain ⟨bv, ck', hbv, hbb, hbl⟩ := HK0.out.form cq2
             injection hbv with e1 _ e2
             subst e1 e2
             have hx1 : wr.cell? ⟨bv, j, none⟩ = some (.int .i64 (mkI (k : Int) (j : Int))) := pw_cell_below HB.out (by
              have := HK0.out.cells (g := bv) rfl j _ (CI_get _ hlj); rwa [add_plain] at this)
             go_wp2
             refine Rs.wp_region_stable [167, 168, 169, 170, 171, 172, 173, 174, 175, 176, 177, 178, 179, 180, 181, 182, 183, 184, 185, 186, 187, 188, 189, 190, 191, 192] [.slice (some ⟨L, 0, none⟩) vs.length c, .int .i64 ((k : Int)), .pointer (some (⟨L, k, none⟩)), .slice (some ⟨bv, 0, none⟩) n ck, .int .i64 ((j : Int)), .pointer (some (⟨bv, j, none⟩)), .int .i64 (mkI (k : Int) (j : Int)), .int .i64 ((k : Int)), .int .i64 ((j : Int)), .int .i64 (mkI (k : Int) (j : Int)), .bool true, .bool false, .bool false, .slice (some ⟨G, 0, none⟩) vs.length vs.length, .int .i64 ((k : Int)), .pointer (some (⟨G, k, none⟩)), .slice (some ⟨bg, 0, none⟩) (n + 64) cg, .int .i64 ((j : Int)), .pointer (some (⟨bg, j, none⟩)), .int .i64 (mkI (k : Int) (j : Int)), .int .i64 ((k : Int)), .int .i64 ((j : Int)), .int .i64 (mkI (k : Int) (j : Int)), .bool true, .bool false, .bool false] (fun w' => Below wr.heap.size wr w') cq3 cq3 rfl (below_drew (Below.refl _ _)) ⟨?s0, ?s1, fj0, ?s3, ?s4, fj0, ?s6, ?s7, ?s8, ?s9, fj0, fj2, fj2, ?s13, ?s14, fj1, ?s16, ?s17, fj1, ?s19, ?s20, ?s21, ?s22, fj1, fj3, fj0, trivial⟩ ?_
             case s0 => exact fun a w' hG hd hf K hK => by have f0 := Rs.lf (hf 0 cq6) rfl; exact Rs.ok_val (Rs.want_none rfl) Rs.gs (hK w' hG)
             case s1 | s7 => exact fun a w' hG hd hf K hK => by have f0 := Rs.lf (hf 14 cq6) rfl; exact Rs.ok_val (Rs.want_none rfl) Rs.gs (hK w' hG)
             case s3 => exact fun a w' hG hd hf K hK => by have f0 := Rs.ld (hd 0 _ rfl rfl _ rfl) rfl; have z0 := pw_cell_below hG hx0; exact Rs.ok_val (Rs.want_none rfl) Rs.gs (hK w' hG)
             case s4 | s8 => exact fun a w' hG hd hf K hK => by have f0 := Rs.lf (hf 15 cq6) rfl; exact Rs.ok_val (Rs.want_none rfl) Rs.gs (hK w' hG)
             case s6 => exact fun a w' hG hd hf K hK => by have f0 := Rs.ld (hd 0 _ rfl rfl _ rfl) rfl; have z0 := pw_cell_below hG hx1; exact Rs.ok_val (Rs.want_none rfl) Rs.gs (hK w' hG)
             case s9 =>
              exact fun a w' hG hd hf K hK => by
               have e174 : a.tmps[174]? = some (.int .i64 ((k : Int))) := hd 0 _ rfl rfl _ rfl; have e175 : a.tmps[175]? = some (.int .i64 ((j : Int))) := hd 1 _ rfl rfl _ rfl
               exact goes_ Tryz.func24 cq3 rfl #[.int .i64 (k : Int), .int .i64 (j : Int)] (Rs.want_none rfl) rfl rfl (by simp [Act.eval, Array.getD_eq_getD_getElem?, e174, e175]) (((mark_calls (k : Int) (j : Int) w' cq2 cq2 cq2 cq2).mono cq7))
             case s13 => exact fun a w' hG hd hf K hK => by have f0 := Rs.lf (hf 5 cq6) rfl; exact Rs.ok_val ((Rs.want_on rfl rfl (hd 0 _ rfl rfl _ rfl)).trans rfl) Rs.gs (hK w' hG)
             case s14 | s20 => exact fun a w' hG hd hf K hK => by have f0 := Rs.lf (hf 14 cq6) rfl; exact Rs.ok_val ((Rs.want_on rfl rfl (hd 0 _ rfl rfl _ rfl)).trans rfl) Rs.gs (hK w' hG)
             case s16 => exact fun a w' hG hd hf K hK => by have f0 := Rs.ld (hd 0 _ rfl rfl _ rfl) rfl; have z0 := pw_cell_below hG hg0; exact Rs.ok_val ((Rs.want_on rfl rfl (hd 1 _ rfl rfl _ rfl)).trans rfl) Rs.gs (hK w' hG)
             case s17 | s21 => exact fun a w' hG hd hf K hK => by have f0 := Rs.lf (hf 15 cq6) rfl; exact Rs.ok_val ((Rs.want_on rfl rfl (hd 0 _ rfl rfl _ rfl)).trans rfl) Rs.gs (hK w' hG)
             case s19 => exact fun a w' hG hd hf K hK => by have f0 := Rs.ld (hd 0 _ rfl rfl _ rfl) rfl; have z0 := pw_cell_below hG hg1; exact Rs.ok_val ((Rs.want_on rfl rfl (hd 1 _ rfl rfl _ rfl)).trans rfl) Rs.gs (hK w' hG)
             case s22 =>
              exact fun a w' hG hd hf K hK => by
               have e187 : a.tmps[187]? = some (.int .i64 ((k : Int))) := hd 0 _ rfl rfl _ rfl; have e188 : a.tmps[188]? = some (.int .i64 ((j : Int))) := hd 1 _ rfl rfl _ rfl
               exact goes_ Tryz.func24 cq3 rfl #[.int .i64 (k : Int), .int .i64 (j : Int)] ((Rs.want_on (t := 179) (b' := false) rfl rfl (hd 2 _ rfl rfl _ rfl)).trans rfl) rfl rfl (by simp [Act.eval, Array.getD_eq_getD_getElem?, e187, e188]) (((mark_calls (k : Int) (j : Int) w' cq2 cq2 cq2 cq2).mono cq7))
             intro wz hz
             have hHeld := And.intro (below_then HB.out HB.out.size hz) trivial
             simp only [Rs.putL, Act.put, qS, qZ, qN]
             go_wp2
             go_roundw
             case rel => exact ⟨j + 1, by omega, rfl, by go_num, ⟨hHeld.1⟩⟩
             case measure => simp [intOf]; omega
            ·obtain rfl : j = n := by omega
             go_wp2
             go_roundw
             case rel => exact ⟨k + 1, by omega, rfl, by go_num, HB⟩
             case measure => simp [intOf]; omega
          ·obtain rfl : k = vs.length := by omega
           go_wp2
           go_ret
           exact ⟨rfl, below_then HB.out (Nat.le_trans hbase HB.out.size) HB3.out, HKQ.out.below HB.out.size HB3.out⟩
end Go.Proofs.YtligpleningglaaGreat.Mw
