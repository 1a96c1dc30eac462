/- The walk of moves.may: what it answers is mayB. -/
import Derived.Test.YtchmddbenohmnaaFx0
import Derived.Test.YtchmddbenohmnaaMi
namespace Go.Proofs.Ytchmddbenohmnaa.Mv
open Go.RowKit Go.Proofs.YtchmddbenohmnaaW.PrintWords Go.Proofs.YtchmddbenohmnaaW.PrintLast Go.Proofs.YtchmddbenohmnaaW.PrintMore Go.Proofs.Ytchmddbenohmnaa.Mi Go.Proofs.Ytchmddbenohmnaa.F
set_option linter.unusedVariables false
set_option linter.unusedSimpArgs false

def wfM (l : List S43) : Prop := ∀ m ∈ l, wf m.f0 ∧ wf m.f1
theorem wf_zero : wf 0 := by unfold wf; decide
theorem wf_one : wf 1 := by unfold wf; decide
theorem wfM_at {l : List S43} (h : wfM l) (i : Int) : wf (rd_T43 l i).f0 ∧ wf (rd_T43 l i).f1 := by
  unfold rd_T43
  by_cases hi : i.toNat < l.length
  · rw [List.getD_eq_getElem?_getD, List.getElem?_eq_getElem hi]; exact h _ (List.getElem_mem hi)
  · rw [List.getD_eq_getElem?_getD, List.getElem?_eq_none (by omega)]; exact ⟨wf_zero, wf_zero⟩

/-- the places that the first k moves go to. -/
def seen (l : List S43) : Int → Option Int := l.foldl (fun f m => mput f m.f0 1) mnil
def badAt (l : List S43) (spare : Int) (k : Nat) : Bool :=
  let m := rd_T43 l k
  decide (m.f0 < 0) || (decide (m.f1 < 0) || (m.f0 == spare || (m.f1 == spare || decide (mget (seen (l.take k)) m.f0 > 0))))
def mayB (l : List S43) (spare : Int) : Bool := (List.range l.length).all (fun k => !badAt l spare k) && decide (spare ≥ -1)
theorem seen_succ (l : List S43) (k : Nat) (h : k < l.length) : seen (l.take (k + 1)) = mput (seen (l.take k)) (rd_T43 l k).f0 1 := by
  unfold seen rd_T43
  rw [List.take_succ_eq_append_getElem h, List.foldl_append, List.getD_eq_getElem?_getD, Int.toNat_natCast, List.getElem?_eq_getElem h]
  rfl
theorem mayB_bad {l : List S43} {spare : Int} {k : Nat} (h : k < l.length) (hb : badAt l spare k = true) : mayB l spare = false := by
  unfold mayB
  rw [Bool.and_eq_false_iff]
  left
  rw [List.all_eq_false]
  exact ⟨k, List.mem_range.2 h, by simp [hb]⟩
theorem mayB_end {l : List S43} {spare : Int} (h : ∀ k, k < l.length → badAt l spare k = false) : mayB l spare = decide (spare ≥ -1) := by
  unfold mayB
  have : (List.range l.length).all (fun k => !badAt l spare k) = true := by
    rw [List.all_eq_true]
    intro k hk
    simp [h k (List.mem_range.1 hk)]
  rw [this]; simp

theorem zero3 (w : World) : (zeroValue 3).run Try.prog w = .ok (.int .i64 0) w := by kernel_rfl

set_option maxHeartbeats 1000000 in
set_option maxRecDepth 100000 in
theorem may_calls (A0 : Option Addr) (c0 : Nat) (l : List S43) (spare : Int) (w : World) (hr0 : Kd.C k43 w A0 l.length l) (hlen : l.length ≤ 1000000) (hwf : wfM l) :
    Calls Try.prog 28 #[.slice A0 l.length c0, .int .i64 spare] w fun e w' => e = .returned (.bool (mayB l spare)) ∧ Below w.heap.size w w' := by
  have HR0 := Aside0.mk hr0
  have HWF := Aside0.mk hwf
  clear hr0 hwf
  have hmm := @run_makeMap Try.prog
  go_enter Try.func28, Try.ntmps28
  go_wp2
  go_loopw [11] (fun i wr => ∃ k : Nat, k ≤ l.length ∧ i = .int .i64 k ∧ Aside0 (MapIs Try.prog 3 wr w.heap.size k (seen (l.take k))) ∧ Aside0 (∀ j, j < k → badAt l spare j = false) ∧ Aside0 (Below w.heap.size w wr)) (fun i _ => l.length - (intOf i).toNat)
  case atStart => exact ⟨0, Nat.zero_le _, rfl, ⟨MapIs.made _ _ _⟩, ⟨fun j hj => absurd hj (by omega)⟩, ⟨(Below.refl _ _).alloc (Nat.le_refl _) _⟩⟩
  case round =>
    obtain ⟨k, hk, rfl, HM, HG, HB⟩ := hrel
    by_cases hlt : k < l.length
    · have p1 : (0 : Int) ≤ (k : Int) := by omega
      have q1 : (k : Int) < l.length := by omega
      obtain ⟨ad, rfl, hx0, hx1⟩ := at_T43 (Kd.C_below HR0.out HB.out) (k : Int) p1 q1
      simp only [Int.toNat_natCast] at hx0 hx1
      have HLT := Aside0.mk hlt
      have HW := Aside0.mk (wfM_at HWF.out (k : Int)).1
      clear q1
      have fin : badAt l spare k = true → ∀ e : Ending, e = Ending.returned (Value.bool false) → e = Ending.returned (Value.bool (mayB l spare)) := fun h e he => by rw [mayB_bad HLT.out h]; exact he
      have FIN := Aside0.mk fin
      clear fin
      have dec : badAt l spare k = (decide ((rd_T43 l k).f0 < 0) || (decide ((rd_T43 l k).f1 < 0) || ((rd_T43 l k).f0 == spare || ((rd_T43 l k).f1 == spare || decide (mget (seen (l.take k)) (rd_T43 l k).f0 > 0))))) := rfl
      have DEC := Aside0.mk dec
      clear dec
      by_cases c1 : (rd_T43 l k).f0 < 0
      · have HE := Aside0.mk (show badAt l spare k = true by rw [DEC.out, decide_eq_true c1]; rfl)
        go_wp2
        go_ret
        exact ⟨FIN.out HE.out _ rfl, HB.out.alloc HB.out.size _⟩
      by_cases c2 : (rd_T43 l k).f1 < 0
      · have HE := Aside0.mk (show badAt l spare k = true by rw [DEC.out, decide_eq_true c2]; simp)
        go_wp2
        go_ret
        exact ⟨FIN.out HE.out _ rfl, HB.out.alloc HB.out.size _⟩
      by_cases c3 : (rd_T43 l k).f0 = spare
      · have HE := Aside0.mk (show badAt l spare k = true by rw [DEC.out, beq_iff_eq.2 c3]; simp)
        have b3 := beq_iff_eq.2 c3
        clear c3
        go_wp2
        go_ret
        exact ⟨FIN.out HE.out _ rfl, HB.out.alloc HB.out.size _⟩
      by_cases c4 : (rd_T43 l k).f1 = spare
      · have HE := Aside0.mk (show badAt l spare k = true by rw [DEC.out, beq_iff_eq.2 c4]; simp)
        have b4 := beq_iff_eq.2 c4
        have b3 := beq_eq_false_iff_ne.2 c3
        clear c4 c3
        go_wp2
        go_ret
        exact ⟨FIN.out HE.out _ rfl, HB.out.alloc HB.out.size _⟩
      have d2 : decide ((rd_T43 l k).f0 < 0) = false := decide_eq_false c1
      have d3 : decide ((rd_T43 l k).f1 < 0) = false := decide_eq_false c2
      have b3 := beq_eq_false_iff_ne.2 c3
      have b4 := beq_eq_false_iff_ne.2 c4
      have DEC2 := Aside0.mk (show badAt l spare k = decide (mget (seen (l.take k)) (rd_T43 l k).f0 > 0) by rw [DEC.out, d2, d3, b3, b4]; rfl)
      clear c1 c2 c3 c4
      have hlk := (HM.out.alloc (.cells #[.int .i64 (rd_T43 l k).f0, .int .i64 (rd_T43 l k).f1] 43)).run_look (t := 50) Try.underlying3 Try.underlying50 zero3 _ HW.out
      have HM1 := Aside0.mk (HM.out.alloc (.cells #[.int .i64 (rd_T43 l k).f0, .int .i64 (rd_T43 l k).f1] 43))
      by_cases c5 : mget (seen (l.take k)) (rd_T43 l k).f0 > 0
      · have HE := Aside0.mk (show badAt l spare k = true by rw [DEC2.out]; exact decide_eq_true c5)
        have d5 : decide (0 < mget (seen (l.take k)) (rd_T43 l k).f0) = true := decide_eq_true c5
        clear c5
        go_wp2
        go_ret
        exact ⟨FIN.out HE.out _ rfl, HB.out.alloc HB.out.size _⟩
      · have HE := Aside0.mk (show badAt l spare k = false by rw [DEC2.out]; exact decide_eq_false c5)
        have d5 : decide (0 < mget (seen (l.take k)) (rd_T43 l k).f0) = false := decide_eq_false c5
        clear c5
        obtain ⟨w1, hst, hM2, hg2⟩ := HM1.out.run_store (t := 50) Try.underlying3 Try.underlying50 (by simp only [maxLen]; omega) _ 1 HW.out wf_one
        have HM2 := Aside0.mk hM2
        have HG2 := Aside0.mk hg2
        clear hM2 hg2
        go_wp2
        go_roundw
        case rel =>
          refine ⟨k + 1, by have := HLT.out; omega, by go_num, ⟨?_⟩, ⟨?_⟩, ⟨?_⟩⟩
          · rw [seen_succ l k HLT.out]; exact HM2.out
          · intro j hj
            by_cases hjk : j = k
            · rw [hjk]; exact HE.out
            · exact HG.out j (by omega)
          · exact (HB.out.alloc HB.out.size _).grown HG2.out (by have := HB.out.size; simp; omega) (fun j hj => by cases hj; exact Nat.le_refl _)
        case measure => have := HLT.out; simp [intOf]; omega
    · obtain rfl : k = l.length := by omega
      have HE := Aside0.mk (mayB_end (spare := spare) HG.out)
      clear hlt
      go_wp2
      go_ret
      exact ⟨by rw [HE.out]; simp, HB.out⟩
end Go.Proofs.Ytchmddbenohmnaa.Mv
