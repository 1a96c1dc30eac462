/- What the kit's Lent functions hand out: the list as it is, in memory of its own, with twelve marks behind it. (Printed by lent.py, a program of this session.) -/
import Derived.Test.YtchmddbenohmnaaMvE
import Derived.Laws.MakeOwn
namespace Go.Proofs.Ytchmddbenohmnaa.Mv
open Go Go.RowKit Go.Proofs.YtchmddbenohmnaaW.PrintWords Go.Proofs.YtchmddbenohmnaaW.PrintLast Go.Proofs.YtchmddbenohmnaaW.PrintMore Go.Proofs.Ytchmddbenohmnaa.Mi Go.Proofs.Ytchmddbenohmnaa.F
set_option linter.unusedVariables false
set_option linter.unusedSimpArgs false

/-- the mark of place i of list k. -/
def mkI (k i : Int) : Int := 1000003 * (k + 7) + i
def mkM (k i : Int) : S43 := ⟨mkI k i, 0⟩
theorem mark_int (k i : Int) (w : World) (h0 : 0 ≤ k) (h1 : k ≤ 1000) (h2 : 0 ≤ i) (h3 : i ≤ 281474976710656) : Calls Try.prog 37 #[.int .i64 k, .int .i64 i] w fun e w' => e = .returned (.int .i64 (mkI k i)) ∧ Below w.heap.size w w' := by
  refine (smithykit_mark.calls k i (mkI k i) w ?_).mono fun e w' h => ⟨h.1, h.2.below⟩
  unfold smithykit_mark.f mkI
  rw [wrap64_small (x := k + 7) (by omega) (by omega), wrap64_small (x := 1000003 * (k + 7)) (by omega) (by omega), wrap64_small (by omega) (by omega)]
theorem mark_move (k i : Int) (w : World) (h0 : 0 ≤ k) (h1 : k ≤ 1000) (h2 : 0 ≤ i) (h3 : i ≤ 281474976710656) : Calls Try.prog 27 #[.int .i64 k, .int .i64 i] w fun e w' => e = .returned (.agg #[.int .i64 (mkI k i), .int .i64 0]) ∧ Below w.heap.size w w' := by
  refine (smithykit_markMove.calls k i (mkI k i) 0 w ?_)
  unfold smithykit_markMove.f smithykit_mark.f mkI
  rw [wrap64_small (x := k + 7) (by omega) (by omega), wrap64_small (x := 1000003 * (k + 7)) (by omega) (by omega), wrap64_small (by omega) (by omega)]
  rfl


/-! ### LentMoves -/
def marksMoves (k : Int) (b m : Nat) : List S43 := (List.range m).map fun (i : Nat) => mkM k ((b : Int) + (i : Int))
theorem marksMoves_len (k : Int) (b m : Nat) : (marksMoves k b m).length = m := by simp [marksMoves]
theorem marksMoves_succ (k : Int) (b m : Nat) : marksMoves k b (m + 1) = marksMoves k b m ++ [mkM k ((b : Int) + (m : Int))] := by unfold marksMoves; rw [List.range_succ, List.map_append]; rfl
set_option maxHeartbeats 4000000 in
set_option maxRecDepth 100000 in
theorem lentMoves_calls (A : Option Addr) (c : Nat) (l : List S43) (w : World) (hr : Kd.C k43 w A l.length l) (hc : l.length ≤ c) (hl : (l.length + 12) * 16 ≤ 140737488355328) :
    Calls Try.prog 9 #[.slice A l.length c] w fun e w' => ∃ g cap : Nat, e = .returned (.slice (some ⟨g, 0, none⟩) l.length cap) ∧ Kd.R k43 43 w' w.heap.size (fun _ => True) (.slice (some ⟨g, 0, none⟩) (l.length + 12) cap) (l ++ marksMoves 1 0 12) ∧ Below w.heap.size w w' := by
  have HR := Aside0.mk hr
  obtain ⟨i0, hi, hz0, hz1, hz2⟩ := info_parts info43
  obtain ⟨w0, hrun, hown, hg⟩ := run_make_own (P := Try.prog) w w.heap.size 22 43 i0 (.agg #[.int .i64 0, .int .i64 0]) 2 Try.underlying22 hi hz0 hz1 .i64 .i64 (l.length + 12) (by rw [hz2]; omega) (by simp only [maxLen]; omega) (Nat.le_refl _)
  rw [show ((l.length + 12 : Nat) : Int) = (l.length : Int) + 12 by omega] at hrun
  have HB0 : Aside0 (Below w.heap.size w w0) := ⟨(Below.refl _ _).grown hg (Nat.le_refl _) (fun k hk => by cases hk)⟩
  have HO0 : Aside0 (Kd.R k43 43 w0 w.heap.size (fun _ => True) (.slice (some ⟨w.heap.size, 0, none⟩) 0 (l.length + 12)) []) := ⟨⟨fun _ _ => trivial, [], hown, Reps.none _ _⟩⟩
  have hlm : l.length + 12 ≤ 9223372036854775807 := by omega
  have HL := Aside0.mk hl
  clear hi hz0 hz1 hz2 hown hg hr hl
  go_enter Try.func9, Try.ntmps9
  go_wp2_with (first | ((with_reducible refine gate_builtin (b := .append) (xs := #[.tmp 9, .tmp 10]) rfl ?_); at_builtin; go_loud (refine Kd.R_append_rows k43 (Rr := fun x cs => Kd.K k43 w0 x cs) (w0 := w) w.heap.size rfl (.tmp 9) (.tmp 10) 22 43 (.agg #[.int .i64 0, .int .i64 0]) 16 rfl Try.underlying22 info43 rfl (by decide) (by omega) _ [] l A l.length c (fun _ => True) (fun _ => False) rfl rfl HO0.out ?aR ?aK (fun _ hk => hk.elim) ?aF ?aB ?aS ?aL ?_; (case aR => exact Kd.C_below HR.out HB0.out); (case aK => exact fun x cs h => h); (case aF => exact fun _ _ => trivial); (case aB => exact HB0.out); (case aS => exact HB0.out.size); (case aL => have := HL.out; simp; omega); intro v1 w1 ho hb hg hat; have HO1 := Aside0.mk ho; have HB1 := Aside0.mk hb; clear ho hb hg hat)))
  go_loopw [3, 4] (fun v3 v4 wr => ∃ j : Nat, j ≤ 12 ∧ v4 = .int .i64 (j : Int) ∧ Aside0 (Kd.R k43 43 wr w.heap.size (fun _ => True) v3 (l ++ marksMoves 1 0 j)) ∧ Aside0 (Below w.heap.size w wr)) (fun _ i _ => 12 - (intOf i).toNat)
  case atStart => exact ⟨0, by omega, rfl, ⟨by have := HO1.out; simpa [marksMoves] using this⟩, HB1⟩
  case round =>
    clear HO1 HB1
    obtain ⟨j, hj, rfl, HO, HB⟩ := hrel
    by_cases hlt : j < 12
    · have HJ := Aside0.mk (show l ++ marksMoves 1 0 (j + 1) = (l ++ marksMoves 1 0 j) ++ [mkM 1 (j : Int)] by rw [marksMoves_succ, List.append_assoc]; simp)
      have HLL := Aside0.mk (show (l ++ marksMoves 1 0 j).length = l.length + j by rw [List.length_append, marksMoves_len])
      have hlt' : (j : Int) < 12 := by omega
      go_wp2_with fail
      refine (mark_move 1 (j : Int) _ (by omega) (by omega) (by omega) (by omega)).mono ?_
      rintro e w2 ⟨rfl, hb⟩
      have HO2 := Aside0.mk (Kd.R_below HO.out hb)
      have HB2 := Aside0.mk (below_then HB.out HB.out.size hb)
      clear hb
      go_wp2_with (first | ((with_reducible refine gate_builtin (b := .append) (xs := #[.tmp 16, .tmp 19]) rfl ?_); at_builtin; go_loud (refine Kd.R_append k43 (w0 := w) w.heap.size rfl (.tmp 16) (.tmp 19) 22 43 (.agg #[.int .i64 0, .int .i64 0]) 16 rfl Try.underlying22 info43 rfl (by decide) (by omega) u3 (l ++ marksMoves 1 0 j) (mkM 1 (j : Int)) [.int .i64 (mkI 1 (j : Int)), .int .i64 0] (fun _ => True) (fun _ => False) rfl ?bX ?bP (fun _ hk => hk.elim) ?bF ?bO ?bB ?bS ?bL ?_; (case bX => first | rfl | (simp [Act.eval]; done)); (case bP => exact k43_mkM _ _ _ (mkM 1 (j : Int))); (case bB => exact HB2.out); (case bF => exact (fun _ _ => trivial)); (case bO => exact HO2.out); (case bS => exact HB2.out.size); (case bL => have := HLL.out; have := HL.out; omega); intro v169 w4 ho hb hg hat; have HO4 := Aside0.mk ho; have HB4 := Aside0.mk hb; clear ho hb hg hat)))
      go_roundw
      case rel => exact ⟨j + 1, by omega, by go_num, ⟨by rw [HJ.out]; exact HO4.out⟩, HB4⟩
      case measure => simp [intOf]; omega
    · obtain rfl : j = 12 := by omega
      have hge : ¬ (12 : Int) < 12 := by omega
      have HLL := Aside0.mk (show (l ++ marksMoves 1 0 12).length = l.length + 12 by rw [List.length_append, marksMoves_len])
      obtain ⟨g, cap, rfl, hgb, hgl, _⟩ := Kd.R_form HO.out (by have := HLL.out; omega)
      have hrd := Kd.R_reads' HO.out
      have hcap : l.length + 12 ≤ cap := by have := hrd.2.1; have := HLL.out; omega
      have hcap2 : l.length ≤ cap := by omega
      clear hrd hgb hgl
      go_wp2
      go_ret
      exact ⟨g, cap, rfl, by have h := HO.out; rw [HLL.out] at h; exact h, HB.out⟩


/-! ### LentInts -/
def marksInts (k : Int) (b m : Nat) : List Int := (List.range m).map fun (i : Nat) => mkI k ((b : Int) + (i : Int))
theorem marksInts_len (k : Int) (b m : Nat) : (marksInts k b m).length = m := by simp [marksInts]
theorem marksInts_succ (k : Int) (b m : Nat) : marksInts k b (m + 1) = marksInts k b m ++ [mkI k ((b : Int) + (m : Int))] := by unfold marksInts; rw [List.range_succ, List.map_append]; rfl
set_option maxHeartbeats 4000000 in
set_option maxRecDepth 100000 in
theorem lentInts_calls (A : Option Addr) (c : Nat) (l : List Int) (w : World) (hr : Kd.C (Kd.int .i64) w A l.length l) (hc : l.length ≤ c) (hl : (l.length + 12) * 8 ≤ 140737488355328) :
    Calls Try.prog 16 #[.slice A l.length c] w fun e w' => ∃ g cap : Nat, e = .returned (.slice (some ⟨g, 0, none⟩) l.length cap) ∧ Kd.R (Kd.int .i64) 3 w' w.heap.size (fun _ => True) (.slice (some ⟨g, 0, none⟩) (l.length + 12) cap) (l ++ marksInts 1 0 12) ∧ Below w.heap.size w w' := by
  have HR := Aside0.mk hr
  obtain ⟨i0, hi, hz0, hz1, hz2⟩ := info_parts info3
  obtain ⟨w0, hrun, hown, hg⟩ := run_make_own (P := Try.prog) w w.heap.size 35 3 i0 (.int .i64 0) 1 Try.underlying35 hi hz0 hz1 .i64 .i64 (l.length + 12) (by rw [hz2]; omega) (by simp only [maxLen]; omega) (Nat.le_refl _)
  rw [show ((l.length + 12 : Nat) : Int) = (l.length : Int) + 12 by omega] at hrun
  have HB0 : Aside0 (Below w.heap.size w w0) := ⟨(Below.refl _ _).grown hg (Nat.le_refl _) (fun k hk => by cases hk)⟩
  have HO0 : Aside0 (Kd.R (Kd.int .i64) 3 w0 w.heap.size (fun _ => True) (.slice (some ⟨w.heap.size, 0, none⟩) 0 (l.length + 12)) []) := ⟨⟨fun _ _ => trivial, [], hown, Reps.none _ _⟩⟩
  have hlm : l.length + 12 ≤ 9223372036854775807 := by omega
  have HL := Aside0.mk hl
  clear hi hz0 hz1 hz2 hown hg hr hl
  go_enter Try.func16, Try.ntmps16
  go_wp2_with (first | ((with_reducible refine gate_builtin (b := .append) (xs := #[.tmp 9, .tmp 10]) rfl ?_); at_builtin; go_loud (refine Kd.R_append_rows (Kd.int .i64) (Rr := fun x cs => Kd.K (Kd.int .i64) w0 x cs) (w0 := w) w.heap.size rfl (.tmp 9) (.tmp 10) 35 3 (.int .i64 0) 8 rfl Try.underlying35 info3 rfl (by decide) (by omega) _ [] l A l.length c (fun _ => True) (fun _ => False) rfl rfl HO0.out ?aR ?aK (fun _ hk => hk.elim) ?aF ?aB ?aS ?aL ?_; (case aR => exact Kd.C_below HR.out HB0.out); (case aK => exact fun x cs h => h); (case aF => exact fun _ _ => trivial); (case aB => exact HB0.out); (case aS => exact HB0.out.size); (case aL => have := HL.out; simp; omega); intro v1 w1 ho hb hg hat; have HO1 := Aside0.mk ho; have HB1 := Aside0.mk hb; clear ho hb hg hat)))
  go_loopw [3, 4] (fun v3 v4 wr => ∃ j : Nat, j ≤ 12 ∧ v4 = .int .i64 (j : Int) ∧ Aside0 (Kd.R (Kd.int .i64) 3 wr w.heap.size (fun _ => True) v3 (l ++ marksInts 1 0 j)) ∧ Aside0 (Below w.heap.size w wr)) (fun _ i _ => 12 - (intOf i).toNat)
  case atStart => exact ⟨0, by omega, rfl, ⟨by have := HO1.out; simpa [marksInts] using this⟩, HB1⟩
  case round =>
    clear HO1 HB1
    obtain ⟨j, hj, rfl, HO, HB⟩ := hrel
    by_cases hlt : j < 12
    · have HJ := Aside0.mk (show l ++ marksInts 1 0 (j + 1) = (l ++ marksInts 1 0 j) ++ [mkI 1 (j : Int)] by rw [marksInts_succ, List.append_assoc]; simp)
      have HLL := Aside0.mk (show (l ++ marksInts 1 0 j).length = l.length + j by rw [List.length_append, marksInts_len])
      have hlt' : (j : Int) < 12 := by omega
      go_wp2_with fail
      refine (mark_int 1 (j : Int) _ (by omega) (by omega) (by omega) (by omega)).mono ?_
      rintro e w2 ⟨rfl, hb⟩
      have HO2 := Aside0.mk (Kd.R_below HO.out hb)
      have HB2 := Aside0.mk (below_then HB.out HB.out.size hb)
      clear hb
      go_wp2_with (first | ((with_reducible refine gate_builtin (b := .append) (xs := #[.tmp 16, .tmp 19]) rfl ?_); at_builtin; go_loud (refine Kd.R_append (Kd.int .i64) (w0 := w) w.heap.size rfl (.tmp 16) (.tmp 19) 35 3 (.int .i64 0) 8 rfl Try.underlying35 info3 rfl (by decide) (by omega) u3 (l ++ marksInts 1 0 j) (mkI 1 (j : Int)) [.int .i64 (mkI 1 (j : Int))] (fun _ => True) (fun _ => False) rfl ?bX ?bP (fun _ hk => hk.elim) ?bF ?bO ?bB ?bS ?bL ?_; (case bX => first | rfl | (simp [Act.eval]; done)); (case bP => exact rfl); (case bB => exact HB2.out); (case bF => exact (fun _ _ => trivial)); (case bO => exact HO2.out); (case bS => exact HB2.out.size); (case bL => have := HLL.out; have := HL.out; omega); intro v169 w4 ho hb hg hat; have HO4 := Aside0.mk ho; have HB4 := Aside0.mk hb; clear ho hb hg hat)))
      go_roundw
      case rel => exact ⟨j + 1, by omega, by go_num, ⟨by rw [HJ.out]; exact HO4.out⟩, HB4⟩
      case measure => simp [intOf]; omega
    · obtain rfl : j = 12 := by omega
      have hge : ¬ (12 : Int) < 12 := by omega
      have HLL := Aside0.mk (show (l ++ marksInts 1 0 12).length = l.length + 12 by rw [List.length_append, marksInts_len])
      obtain ⟨g, cap, rfl, hgb, hgl, _⟩ := Kd.R_form HO.out (by have := HLL.out; omega)
      have hrd := Kd.R_reads' HO.out
      have hcap : l.length + 12 ≤ cap := by have := hrd.2.1; have := HLL.out; omega
      have hcap2 : l.length ≤ cap := by omega
      clear hrd hgb hgl
      go_wp2
      go_ret
      exact ⟨g, cap, rfl, by have h := HO.out; rw [HLL.out] at h; exact h, HB.out⟩

end Go.Proofs.Ytchmddbenohmnaa.Mv
