/- The law ScanHolds, walked: it answers true of any spans, homes and registers. -/
import Derived.Test.YtcmbpboeilojmaaRx
import Derived.Test.YtcmbpboeilojmaaPw
import Derived.Test.YtcmbpboeilojmaaHo
import Derived.Test.YtcmbpboeilojmaaKph
namespace Go.Proofs.Ytcmbpboeilojmaa.Sw
open Go Go.RowKit Go.Proofs.YtcmbpboeilojmaaW.PrintWords Go.Proofs.YtcmbpboeilojmaaW.PrintLast Go.Proofs.YtcmbpboeilojmaaW.PrintMore Go.Proofs.Ytcmbpboeilojmaa.Mi Go.Proofs.Ytcmbpboeilojmaa.F Go.Proofs.Ytcmbpboeilojmaa.Scan
set_option linter.unusedVariables false
set_option linter.unusedSimpArgs false
set_option maxHeartbeats 4000000 in
set_option maxRecDepth 100000 in
theorem scanHolds_calls (A0 : Option Addr) (c0 : Nat) (l : List S40) (A1 : Option Addr) (c1 : Nat) (h : List S43) (regs : Int) (w : World) (hr0 : Kd.C k40 w A0 l.length l) (hc0 : l.length ≤ c0) (hr1 : Kd.C k43 w A1 h.length h) (hc1 : h.length ≤ c1) (hwl : wfS l) (hwh : ∀ x ∈ h, wf x.f2) :
    Calls Try.prog 4 #[.slice A0 l.length c0, .slice A1 h.length c1, .int .i64 regs] w fun e w' => e = .returned (.bool true) ∧ Below w.heap.size w w' := by
  have HR0 := Aside0.mk hr0
  have HR1 := Aside0.mk hr1
  have HC0 := Aside0.mk hc0
  have HC1 := Aside0.mk hc1
  have HWL := Aside0.mk hwl
  have HWH := Aside0.mk hwh
  clear hr0 hr1 hc1 hc0 hwl hwh
  obtain ⟨kA, hkA⟩ := awake_t
  have AW := Aside0.mk hkA
  clear hkA
  by_cases g1 : (200 : Int) < (l.length : Int)
  · go_enter Try.func4, Try.ntmps4
    go_wp2_with fail
    refine (smithylaw25_awake.calls kA true w AW.out).mono ?_
    rintro e w1 ⟨rfl, hb⟩
    go_wp2
    go_ret
    exact ⟨rfl, hb⟩
  by_cases g2 : (300 : Int) < (h.length : Int)
  · go_enter Try.func4, Try.ntmps4
    go_wp2_with fail
    refine (smithylaw25_awake.calls kA true w AW.out).mono ?_
    rintro e w1 ⟨rfl, hb⟩
    go_wp2
    go_ret
    exact ⟨rfl, hb⟩
  obtain ⟨kR, hkR⟩ := refHolds_f (l := l) (h := h) (regs := regs) (by omega) HWH.out
  have RF := Aside0.mk hkR
  clear hkR
  have G1 := Aside0.mk g1
  have G2 := Aside0.mk g2
  go_enter Try.func4, Try.ntmps4
  go_wp2_with fail
  refine (smithylaw25_awake.calls kA true w AW.out).mono ?_
  rintro e w1 ⟨rfl, hb⟩
  have HB1 := Aside0.mk hb
  have R01 := Aside0.mk (Kd.C_below HR0.out hb)
  have R11 := Aside0.mk (Kd.C_below HR1.out hb)
  clear hb HR0 HR1
  go_wp2_with fail
  refine (lentSpans_calls _ _ l _ R01.out HC0.out (by have := G1.out; omega)).mono ?_
  rintro e w2 ⟨g, cap, rfl, ho, hb⟩
  have HB2 := Aside0.mk (below_then HB1.out HB1.out.size hb)
  have R02 := Aside0.mk (Kd.C_below R01.out hb)
  have R12 := Aside0.mk (Kd.C_below R11.out hb)
  obtain ⟨-, hcap, hC⟩ := Kd.R_reads' ho
  rw [List.length_append, marksSpans_len] at hC
  have HCAP := Aside0.mk hcap
  have HM2 := Aside0.mk hC
  clear ho hb hcap hC R01 R11
  go_wp2_with fail
  refine (lentHomes_calls _ _ h _ R12.out HC1.out (by have := G2.out; omega)).mono ?_
  rintro e w3 ⟨g2', cap2, rfl, ho, hb⟩
  have HB3 := Aside0.mk (below_then HB2.out HB2.out.size hb)
  have R03 := Aside0.mk (Kd.C_below R02.out hb)
  have R13 := Aside0.mk (Kd.C_below R12.out hb)
  have HM3 := Aside0.mk (Kd.C_below HM2.out hb)
  obtain ⟨-, hcap2, hC2⟩ := Kd.R_reads' ho
  rw [List.length_append, marksHomes_len] at hC2
  have HCAP2 := Aside0.mk hcap2
  have HN3 := Aside0.mk hC2
  clear ho hb hcap2 hC2 R02 R12 HM2
  go_wp2_with fail
  refine (holds_calls (some ⟨g, 0, none⟩) cap l (some ⟨g2', 0, none⟩) cap2 h regs _ (C_head HM3.out (by rw [marksSpans_len])) (by have := HCAP.out; omega) (C_head HN3.out (by rw [marksHomes_len])) (by have := HCAP2.out; omega) (by have := G1.out; omega) HWL.out).mono ?_
  rintro e w4 ⟨rfl, hb⟩
  have HB4 := Aside0.mk (below_then HB3.out HB3.out.size hb)
  have R04 := Aside0.mk (Kd.C_below R03.out hb)
  have R14 := Aside0.mk (Kd.C_below R13.out hb)
  have HM4 := Aside0.mk (Kd.C_below HM3.out hb)
  have HN4 := Aside0.mk (Kd.C_below HN3.out hb)
  clear hb R03 R13 HM3 HN3
  go_wp2_with fail
  refine (smithyref25_Holds.calls kR _ _ l _ _ h regs _ _ R04.out HC0.out R14.out HC1.out RF.out).mono ?_
  rintro e w5 ⟨rfl, hb⟩
  have HB5 := Aside0.mk (below_then HB4.out HB4.out.size hb)
  have R05 := Aside0.mk (Kd.C_below R04.out hb)
  have R15 := Aside0.mk (Kd.C_below R14.out hb)
  have HM5 := Aside0.mk (Kd.C_below HM4.out hb)
  have HN5 := Aside0.mk (Kd.C_below HN4.out hb)
  clear hb R04 R14 HM4 HN4
  go_wp2_with fail
  refine (keptSpans_calls ⟨g, 0, none⟩ cap _ _ l _ R05.out HM5.out HCAP.out (by have := G1.out; omega)).mono ?_
  rintro e w6 ⟨rfl, hb⟩
  have HB6 := Aside0.mk (below_then HB5.out HB5.out.size hb)
  have R16 := Aside0.mk (Kd.C_below R15.out hb)
  have HN6 := Aside0.mk (Kd.C_below HN5.out hb)
  clear hb R05 R15 HM5 HN5
  go_wp2_with fail
  refine (keptHomes_calls ⟨g2', 0, none⟩ cap2 _ _ h _ R16.out HN6.out HCAP2.out (by have := G2.out; omega)).mono ?_
  rintro e w7 ⟨rfl, hb⟩
  have HB7 := Aside0.mk (below_then HB6.out HB6.out.size hb)
  clear hb
  go_wp2
  go_ret
  exact ⟨rfl, HB7.out⟩
theorem scanHolds_walk (a0 : Option Addr) (len0 cap0 : Nat) (l : List S40) (a1 : Option Addr) (len1 cap1 : Nat) (h : List S43) (regs : Int) (w : World) (hl0 : l.length = len0) (hc0 : len0 ≤ cap0) (hC0 : Kd.C k40 w a0 len0 l) (hw0 : wfS l)
    (hl1 : h.length = len1) (hc1 : len1 ≤ cap1) (hC1 : Kd.C k43 w a1 len1 h) (hw1 : ∀ x ∈ h, wf x.f2) (wr : (Lit.int .i64 regs).wf = true) :
    Calls Try.prog 4 #[.slice a0 len0 cap0, .slice a1 len1 cap1, .int .i64 regs] w fun e w' => e = .returned (.bool true) ∧ Below w.heap.size w w' := by
  subst hl0 hl1
  exact scanHolds_calls _ _ _ _ _ _ _ _ hC0 hc0 hC1 hc1 hw0 hw1
end Go.Proofs.Ytcmbpboeilojmaa.Sw
