/- What the kit's Lent functions hand out: the list as it is, in memory of its own, with twelve marks behind it. (Printed by lent.py, a program of this session.) -/
import Derived.Test.YtcmbpboeilojmaaOe
import Derived.Test.YtcmbpboeilojmaaFxf22
import Derived.Test.YtcmbpboeilojmaaFxf31
import Derived.Laws.MakeOwn
namespace Go.Proofs.Ytcmbpboeilojmaa.Sw
open Go Go.RowKit Go.Proofs.YtcmbpboeilojmaaW.PrintWords Go.Proofs.YtcmbpboeilojmaaW.PrintLast Go.Proofs.YtcmbpboeilojmaaW.PrintMore Go.Proofs.Ytcmbpboeilojmaa.Mi Go.Proofs.Ytcmbpboeilojmaa.F
set_option linter.unusedVariables false
set_option linter.unusedSimpArgs false

/-- the mark of place i of list k. -/
def mkI (k i : Int) : Int := 1000003 * (k + 7) + i
def mkS (k i : Int) : S40 := ⟨mkI k i, 0, 0⟩
def mkH (k i : Int) : S43 := ⟨0, 0, mkI k i⟩
theorem mark_f (k i : Int) (h0 : 0 ≤ k) (h1 : k ≤ 1000) (h2 : 0 ≤ i) (h3 : i ≤ 281474976710656) : smithykit_mark.f k i = some (mkI k i) := by
  unfold smithykit_mark.f mkI
  rw [wrap64_small (n := k + 7) (by omega) (by omega), wrap64_small (n := 1000003 * (k + 7)) (by omega) (by omega), wrap64_small (by omega) (by omega)]
theorem mark_span (k i : Int) (w : World) (h0 : 0 ≤ k) (h1 : k ≤ 1000) (h2 : 0 ≤ i) (h3 : i ≤ 281474976710656) : Calls Try.prog 22 #[.int .i64 k, .int .i64 i] w fun e w' => e = .returned (.agg #[.int .i64 (mkI k i), .int .i64 0, .int .i64 0]) ∧ Below w.heap.size w w' := by
  refine smithykit_markSpan.calls k i (mkI k i) 0 0 w ?_
  unfold smithykit_markSpan.f
  rw [mark_f k i h0 h1 h2 h3]
  rfl
theorem mark_home (k i : Int) (w : World) (h0 : 0 ≤ k) (h1 : k ≤ 1000) (h2 : 0 ≤ i) (h3 : i ≤ 281474976710656) : Calls Try.prog 31 #[.int .i64 k, .int .i64 i] w fun e w' => e = .returned (.agg #[.int .i64 0, .int .i64 0, .int .i64 (mkI k i)]) ∧ Below w.heap.size w w' := by
  refine smithykit_markHome.calls k i 0 0 (mkI k i) w ?_
  unfold smithykit_markHome.f
  rw [mark_f k i h0 h1 h2 h3]
  rfl


/-! ### LentSpans -/
def marksSpans (k : Int) (b m : Nat) : List S40 := (List.range m).map fun (i : Nat) => mkS k ((b : Int) + (i : Int))
theorem marksSpans_len (k : Int) (b m : Nat) : (marksSpans k b m).length = m := by simp [marksSpans]
theorem marksSpans_succ (k : Int) (b m : Nat) : marksSpans k b (m + 1) = marksSpans k b m ++ [mkS k ((b : Int) + (m : Int))] := by unfold marksSpans; rw [List.range_succ, List.map_append]; rfl
set_option maxHeartbeats 4000000 in
set_option maxRecDepth 100000 in
theorem lentSpans_calls (A : Option Addr) (c : Nat) (l : List S40) (w : World) (hr : Kd.C k40 w A l.length l) (hc : l.length ≤ c) (hl : (l.length + 12) * 24 ≤ 140737488355328) :
    Calls Try.prog 8 #[.slice A l.length c] w fun e w' => ∃ g cap : Nat, e = .returned (.slice (some ⟨g, 0, none⟩) l.length cap) ∧ Kd.R k40 40 w' w.heap.size (fun _ => True) (.slice (some ⟨g, 0, none⟩) (l.length + 12) cap) (l ++ marksSpans 1 0 12) ∧ Below w.heap.size w w' := by
  have HR := Aside0.mk hr
  obtain ⟨i0, hi, hz0, hz1, hz2⟩ := info_parts info40
  obtain ⟨w0, hrun, hown, hg⟩ := run_make_own (P := Try.prog) w w.heap.size 22 40 i0 (.agg #[.int .i64 0, .int .i64 0, .int .i64 0]) 3 Try.underlying22 hi hz0 hz1 .i64 .i64 (l.length + 12) (by rw [hz2]; omega) (by simp only [maxLen]; omega) (Nat.le_refl _)
  rw [show ((l.length + 12 : Nat) : Int) = (l.length : Int) + 12 by omega] at hrun
  have HB0 : Aside0 (Below w.heap.size w w0) := ⟨(Below.refl _ _).grown hg (Nat.le_refl _) (fun k hk => by cases hk)⟩
  have HO0 : Aside0 (Kd.R k40 40 w0 w.heap.size (fun _ => True) (.slice (some ⟨w.heap.size, 0, none⟩) 0 (l.length + 12)) []) := ⟨⟨fun _ _ => trivial, [], hown, Reps.none _ _⟩⟩
  have hlm : l.length + 12 ≤ 9223372036854775807 := by omega
  have HL := Aside0.mk hl
  clear hi hz0 hz1 hz2 hown hg hr hl
  go_enter Try.func8, Try.ntmps8
  go_wp2_with (first | ((with_reducible refine gate_builtin (b := .append) (xs := #[.tmp 9, .tmp 10]) rfl ?_); at_builtin; go_loud (refine Kd.R_append_rows k40 (Rr := fun x cs => Kd.K k40 w0 x cs) (w0 := w) w.heap.size rfl (.tmp 9) (.tmp 10) 22 40 (.agg #[.int .i64 0, .int .i64 0, .int .i64 0]) 24 rfl Try.underlying22 info40 rfl (by decide) (by omega) _ [] l A l.length c (fun _ => True) (fun _ => False) rfl rfl HO0.out ?aR ?aK (fun _ hk => hk.elim) ?aF ?aB ?aS ?aL ?_; (case aR => exact Kd.C_below HR.out HB0.out); (case aK => exact fun x cs h => h); (case aF => exact fun _ _ => trivial); (case aB => exact HB0.out); (case aS => exact HB0.out.size); (case aL => have := HL.out; simp; omega); intro v1 w1 ho hb hg hat; have HO1 := Aside0.mk ho; have HB1 := Aside0.mk hb; clear ho hb hg hat)))
  go_loopw [3, 4] (fun v3 v4 wr => ∃ j : Nat, j ≤ 12 ∧ v4 = .int .i64 (j : Int) ∧ Aside0 (Kd.R k40 40 wr w.heap.size (fun _ => True) v3 (l ++ marksSpans 1 0 j)) ∧ Aside0 (Below w.heap.size w wr)) (fun _ i _ => 12 - (intOf i).toNat)
  case atStart => exact ⟨0, by omega, rfl, ⟨by have := HO1.out; simpa [marksSpans] using this⟩, HB1⟩
  case round =>
    clear HO1 HB1
    obtain ⟨j, hj, rfl, HO, HB⟩ := hrel
    by_cases hlt : j < 12
    · have HJ := Aside0.mk (show l ++ marksSpans 1 0 (j + 1) = (l ++ marksSpans 1 0 j) ++ [mkS 1 (j : Int)] by rw [marksSpans_succ, List.append_assoc]; simp)
      have HLL := Aside0.mk (show (l ++ marksSpans 1 0 j).length = l.length + j by rw [List.length_append, marksSpans_len])
      have hlt' : (j : Int) < 12 := by omega
      go_wp2_with fail
      refine (mark_span 1 (j : Int) _ (by omega) (by omega) (by omega) (by omega)).mono ?_
      rintro e w2 ⟨rfl, hb⟩
      have HO2 := Aside0.mk (Kd.R_below HO.out hb)
      have HB2 := Aside0.mk (below_then HB.out HB.out.size hb)
      clear hb
      go_wp2_with (first | ((with_reducible refine gate_builtin (b := .append) (xs := #[.tmp 16, .tmp 19]) rfl ?_); at_builtin; go_loud (refine Kd.R_append k40 (w0 := w) w.heap.size rfl (.tmp 16) (.tmp 19) 22 40 (.agg #[.int .i64 0, .int .i64 0, .int .i64 0]) 24 rfl Try.underlying22 info40 rfl (by decide) (by omega) u3 (l ++ marksSpans 1 0 j) (mkS 1 (j : Int)) [.int .i64 (mkI 1 (j : Int)), .int .i64 0, .int .i64 0] (fun _ => True) (fun _ => False) rfl ?bX ?bP (fun _ hk => hk.elim) ?bF ?bO ?bB ?bS ?bL ?_; (case bX => first | rfl | (simp [Act.eval]; done)); (case bP => exact k40_mkM _ _ _ (mkS 1 (j : Int))); (case bB => exact HB2.out); (case bF => exact (fun _ _ => trivial)); (case bO => exact HO2.out); (case bS => exact HB2.out.size); (case bL => have := HLL.out; have := HL.out; omega); intro v169 w4 ho hb hg hat; have HO4 := Aside0.mk ho; have HB4 := Aside0.mk hb; clear ho hb hg hat)))
      go_roundw
      case rel => exact ⟨j + 1, by omega, by go_num, ⟨by rw [HJ.out]; exact HO4.out⟩, HB4⟩
      case measure => simp [intOf]; omega
    · obtain rfl : j = 12 := by omega
      have hge : ¬ (12 : Int) < 12 := by omega
      have HLL := Aside0.mk (show (l ++ marksSpans 1 0 12).length = l.length + 12 by rw [List.length_append, marksSpans_len])
      obtain ⟨g, cap, rfl, hgb, hgl, _⟩ := Kd.R_form HO.out (by have := HLL.out; omega)
      have hrd := Kd.R_reads' HO.out
      have hcap : l.length + 12 ≤ cap := by have := hrd.2.1; have := HLL.out; omega
      have hcap2 : l.length ≤ cap := by omega
      clear hrd hgb hgl
      go_wp2
      go_ret
      exact ⟨g, cap, rfl, by have h := HO.out; rw [HLL.out] at h; exact h, HB.out⟩


/-! ### LentHomes -/
def marksHomes (k : Int) (b m : Nat) : List S43 := (List.range m).map fun (i : Nat) => mkH k ((b : Int) + (i : Int))
theorem marksHomes_len (k : Int) (b m : Nat) : (marksHomes k b m).length = m := by simp [marksHomes]
theorem marksHomes_succ (k : Int) (b m : Nat) : marksHomes k b (m + 1) = marksHomes k b m ++ [mkH k ((b : Int) + (m : Int))] := by unfold marksHomes; rw [List.range_succ, List.map_append]; rfl
set_option maxHeartbeats 4000000 in
set_option maxRecDepth 100000 in
theorem lentHomes_calls (A : Option Addr) (c : Nat) (l : List S43) (w : World) (hr : Kd.C k43 w A l.length l) (hc : l.length ≤ c) (hl : (l.length + 12) * 24 ≤ 140737488355328) :
    Calls Try.prog 15 #[.slice A l.length c] w fun e w' => ∃ g cap : Nat, e = .returned (.slice (some ⟨g, 0, none⟩) l.length cap) ∧ Kd.R k43 43 w' w.heap.size (fun _ => True) (.slice (some ⟨g, 0, none⟩) (l.length + 12) cap) (l ++ marksHomes 1 0 12) ∧ Below w.heap.size w w' := by
  have HR := Aside0.mk hr
  obtain ⟨i0, hi, hz0, hz1, hz2⟩ := info_parts info43
  obtain ⟨w0, hrun, hown, hg⟩ := run_make_own (P := Try.prog) w w.heap.size 25 43 i0 (.agg #[.int .i64 0, .int .i64 0, .int .i64 0]) 3 Try.underlying25 hi hz0 hz1 .i64 .i64 (l.length + 12) (by rw [hz2]; omega) (by simp only [maxLen]; omega) (Nat.le_refl _)
  rw [show ((l.length + 12 : Nat) : Int) = (l.length : Int) + 12 by omega] at hrun
  have HB0 : Aside0 (Below w.heap.size w w0) := ⟨(Below.refl _ _).grown hg (Nat.le_refl _) (fun k hk => by cases hk)⟩
  have HO0 : Aside0 (Kd.R k43 43 w0 w.heap.size (fun _ => True) (.slice (some ⟨w.heap.size, 0, none⟩) 0 (l.length + 12)) []) := ⟨⟨fun _ _ => trivial, [], hown, Reps.none _ _⟩⟩
  have hlm : l.length + 12 ≤ 9223372036854775807 := by omega
  have HL := Aside0.mk hl
  clear hi hz0 hz1 hz2 hown hg hr hl
  go_enter Try.func15, Try.ntmps15
  go_wp2_with (first | ((with_reducible refine gate_builtin (b := .append) (xs := #[.tmp 9, .tmp 10]) rfl ?_); at_builtin; go_loud (refine Kd.R_append_rows k43 (Rr := fun x cs => Kd.K k43 w0 x cs) (w0 := w) w.heap.size rfl (.tmp 9) (.tmp 10) 25 43 (.agg #[.int .i64 0, .int .i64 0, .int .i64 0]) 24 rfl Try.underlying25 info43 rfl (by decide) (by omega) _ [] l A l.length c (fun _ => True) (fun _ => False) rfl rfl HO0.out ?aR ?aK (fun _ hk => hk.elim) ?aF ?aB ?aS ?aL ?_; (case aR => exact Kd.C_below HR.out HB0.out); (case aK => exact fun x cs h => h); (case aF => exact fun _ _ => trivial); (case aB => exact HB0.out); (case aS => exact HB0.out.size); (case aL => have := HL.out; simp; omega); intro v1 w1 ho hb hg hat; have HO1 := Aside0.mk ho; have HB1 := Aside0.mk hb; clear ho hb hg hat)))
  go_loopw [3, 4] (fun v3 v4 wr => ∃ j : Nat, j ≤ 12 ∧ v4 = .int .i64 (j : Int) ∧ Aside0 (Kd.R k43 43 wr w.heap.size (fun _ => True) v3 (l ++ marksHomes 1 0 j)) ∧ Aside0 (Below w.heap.size w wr)) (fun _ i _ => 12 - (intOf i).toNat)
  case atStart => exact ⟨0, by omega, rfl, ⟨by have := HO1.out; simpa [marksHomes] using this⟩, HB1⟩
  case round =>
    clear HO1 HB1
    obtain ⟨j, hj, rfl, HO, HB⟩ := hrel
    by_cases hlt : j < 12
    · have HJ := Aside0.mk (show l ++ marksHomes 1 0 (j + 1) = (l ++ marksHomes 1 0 j) ++ [mkH 1 (j : Int)] by rw [marksHomes_succ, List.append_assoc]; simp)
      have HLL := Aside0.mk (show (l ++ marksHomes 1 0 j).length = l.length + j by rw [List.length_append, marksHomes_len])
      have hlt' : (j : Int) < 12 := by omega
      go_wp2_with fail
      refine (mark_home 1 (j : Int) _ (by omega) (by omega) (by omega) (by omega)).mono ?_
      rintro e w2 ⟨rfl, hb⟩
      have HO2 := Aside0.mk (Kd.R_below HO.out hb)
      have HB2 := Aside0.mk (below_then HB.out HB.out.size hb)
      clear hb
      go_wp2_with (first | ((with_reducible refine gate_builtin (b := .append) (xs := #[.tmp 16, .tmp 19]) rfl ?_); at_builtin; go_loud (refine Kd.R_append k43 (w0 := w) w.heap.size rfl (.tmp 16) (.tmp 19) 25 43 (.agg #[.int .i64 0, .int .i64 0, .int .i64 0]) 24 rfl Try.underlying25 info43 rfl (by decide) (by omega) u3 (l ++ marksHomes 1 0 j) (mkH 1 (j : Int)) [.int .i64 0, .int .i64 0, .int .i64 (mkI 1 (j : Int))] (fun _ => True) (fun _ => False) rfl ?bX ?bP (fun _ hk => hk.elim) ?bF ?bO ?bB ?bS ?bL ?_; (case bX => first | rfl | (simp [Act.eval]; done)); (case bP => exact k43_mkM _ _ _ (mkH 1 (j : Int))); (case bB => exact HB2.out); (case bF => exact (fun _ _ => trivial)); (case bO => exact HO2.out); (case bS => exact HB2.out.size); (case bL => have := HLL.out; have := HL.out; omega); intro v169 w4 ho hb hg hat; have HO4 := Aside0.mk ho; have HB4 := Aside0.mk hb; clear ho hb hg hat)))
      go_roundw
      case rel => exact ⟨j + 1, by omega, by go_num, ⟨by rw [HJ.out]; exact HO4.out⟩, HB4⟩
      case measure => simp [intOf]; omega
    · obtain rfl : j = 12 := by omega
      have hge : ¬ (12 : Int) < 12 := by omega
      have HLL := Aside0.mk (show (l ++ marksHomes 1 0 12).length = l.length + 12 by rw [List.length_append, marksHomes_len])
      obtain ⟨g, cap, rfl, hgb, hgl, _⟩ := Kd.R_form HO.out (by have := HLL.out; omega)
      have hrd := Kd.R_reads' HO.out
      have hcap : l.length + 12 ≤ cap := by have := hrd.2.1; have := HLL.out; omega
      have hcap2 : l.length ≤ cap := by omega
      clear hrd hgb hgl
      go_wp2
      go_ret
      exact ⟨g, cap, rfl, by have h := HO.out; rw [HLL.out] at h; exact h, HB.out⟩

end Go.Proofs.Ytcmbpboeilojmaa.Sw
