/- The law ScanAssigns, walked: it answers true of any spans and registers. -/
import Derived.Test.YtcmbpboeilojmaaRy
import Derived.Test.YtcmbpboeilojmaaAs
import Derived.Test.YtcmbpboeilojmaaKps
namespace Go.Proofs.Ytcmbpboeilojmaa.Sw
open Go Go.RowKit Go.Proofs.YtcmbpboeilojmaaW.PrintWords Go.Proofs.YtcmbpboeilojmaaW.PrintLast Go.Proofs.YtcmbpboeilojmaaW.PrintMore Go.Proofs.Ytcmbpboeilojmaa.Mi Go.Proofs.Ytcmbpboeilojmaa.F Go.Proofs.Ytcmbpboeilojmaa.Scan
set_option linter.unusedVariables false
set_option linter.unusedSimpArgs false
set_option maxHeartbeats 4000000 in
set_option maxRecDepth 100000 in
theorem scanAssigns_calls (A0 : Option Addr) (c0 : Nat) (l : List S40) (regs : Int) (w : World) (hr0 : Kd.C k40 w A0 l.length l) (hc0 : l.length ≤ c0) (hwl : wfS l) :
    Calls Try.prog 3 #[.slice A0 l.length c0, .int .i64 regs] w fun e w' => e = .returned (.bool true) ∧ Below w.heap.size w w' := by
  have HR0 := Aside0.mk hr0
  have HC0 := Aside0.mk hc0
  have HWL := Aside0.mk hwl
  clear hr0 hc0 hwl
  obtain ⟨kA, hkA⟩ := awake_t
  have AW := Aside0.mk hkA
  clear hkA
  by_cases g1 : (200 : Int) < (l.length : Int)
  · go_enter Try.func3, Try.ntmps3
    go_wp2_with fail
    refine (smithylaw25_awake.calls kA true w AW.out).mono ?_
    rintro e w1 ⟨rfl, hb⟩
    go_wp2
    go_ret
    exact ⟨rfl, hb⟩
  have G1 := Aside0.mk g1
  obtain ⟨kM, hkM⟩ := may_f (l := l) (by omega) regs
  have AS := Aside0.mk (fun (W : World) (A : Option Addr) (c : Nat) (h1 : Kd.C k40 W A l.length l) (h2 : l.length ≤ c) => assign_calls A c l regs W h1 h2 (by omega) HWL.out)
  cases hmay : mayB l regs with
  | false =>
    have hG : assignG l regs = ([], 0, 2) := by
      unfold assignG
      refine if_pos ?_
      unfold mayB at hmay
      simp only [Bool.and_eq_false_iff, decide_eq_false_iff_not] at hmay
      rcases hmay with (h | h) | h
      · left; omega
      · right; left; omega
      · right; right; exact h
    rw [hmay] at hkM
    have MF := Aside0.mk hkM
    rw [hG] at AS
    clear hG hkM hmay
    go_enter Try.func3, Try.ntmps3
    go_wp2_with fail
    refine (smithylaw25_awake.calls kA true w AW.out).mono ?_
    rintro e w1 ⟨rfl, hb⟩
    have HB1 := Aside0.mk hb
    have R01 := Aside0.mk (Kd.C_below HR0.out hb)
    clear hb HR0
    go_wp2_with fail
    refine (lentSpans_calls _ _ l _ R01.out HC0.out (by have := G1.out; omega)).mono ?_
    rintro e w2 ⟨g, cap, rfl, ho, hb⟩
    have HB2 := Aside0.mk (below_then HB1.out HB1.out.size hb)
    have R02 := Aside0.mk (Kd.C_below R01.out hb)
    obtain ⟨-, hcap, hC⟩ := Kd.R_reads' ho
    rw [List.length_append, marksSpans_len] at hC
    have HCAP := Aside0.mk hcap
    have HM2 := Aside0.mk hC
    clear ho hb hcap hC R01
    go_wp2_with fail
    refine (AS.out _ (some ⟨g, 0, none⟩) cap (C_head HM2.out (by rw [marksSpans_len])) (by have := HCAP.out; omega)).mono ?_
    rintro e w3 ⟨v0, rfl, hR, hb⟩
    have HB3 := Aside0.mk (below_then HB2.out HB2.out.size hb)
    have R03 := Aside0.mk (Kd.C_below R02.out hb)
    have HM3 := Aside0.mk (Kd.C_below HM2.out hb)
    obtain ⟨A7, c7, rfl, hc7, hC7⟩ := Kd.R_reads hR
    have HC7 := Aside0.mk hc7
    have CC3 := Aside0.mk hC7
    clear hR hb hc7 hC7 R02 HM2
    go_wp2_with fail
    refine (keptSpans_calls ⟨g, 0, none⟩ cap _ _ l _ R03.out HM3.out HCAP.out (by have := G1.out; omega)).mono ?_
    rintro e w4 ⟨rfl, hb⟩
    have HB4 := Aside0.mk (below_then HB3.out HB3.out.size hb)
    have R04 := Aside0.mk (Kd.C_below R03.out hb)
    have CC4 := Aside0.mk (Kd.C_below CC3.out hb)
    clear hb R03 HM3 CC3
    go_wp2_with fail
    refine (smithyref25_May.calls kM _ _ l regs _ _ R04.out HC0.out MF.out).mono ?_
    rintro e w5 ⟨rfl, hd⟩
    have hb := hd.below
    have HB5 := Aside0.mk (below_then HB4.out HB4.out.size hb)
    have R05 := Aside0.mk (Kd.C_below R04.out hb)
    have CC5 := Aside0.mk (Kd.C_below CC4.out hb)
    clear hb hd R04 CC4
    go_wp2
    go_ret
    exact ⟨rfl, HB5.out⟩
  | true =>
    have hmay' := hmay
    unfold mayB at hmay'
    simp only [Bool.and_eq_true, decide_eq_true_eq] at hmay'
    obtain ⟨⟨h0, h64⟩, hord⟩ := hmay'
    have hO : Ord l := ordB_ord hord
    have F := assign_facts (regs := regs) hO h0 h64
    have hG : assignG l regs = ((assignP l regs).h, ((assignP l regs).n : Int), 0) := by
      unfold assignG
      refine if_neg ?_
      rintro (h | h | h)
      · omega
      · omega
      · rw [hord] at h; cases h
    obtain ⟨hh, ehh⟩ : ∃ hh, hh = (assignP l regs).h := ⟨_, rfl⟩
    obtain ⟨n, en⟩ : ∃ n, n = (assignP l regs).n := ⟨_, rfl⟩
    rw [← ehh, ← en] at F
    rw [← ehh, ← en] at hG
    rw [hmay] at hkM
    have MF := Aside0.mk hkM
    rw [hG] at AS
    have hhb : holdsB l hh regs = true := (holdsB_iff (facts_wf' F hO)).2 ⟨⟨h0, h64, hord⟩, F.holds hO⟩
    obtain ⟨kR, hkR⟩ := refHolds_f (l := l) (h := hh) (regs := regs) (by omega) (facts_wf' F hO)
    rw [hhb] at hkR
    have RF := Aside0.mk hkR
    have hhl : hh.length ≤ 1000000 := by rw [F.hl]; omega
    obtain ⟨kS, hkS⟩ := slots_f (h := hh) hhl
    rw [F.slots.2.1] at hkS
    have SF := Aside0.mk hkS
    obtain ⟨kT, r, hkT, hmost⟩ := most_f (l := l) (by omega)
    have TF := Aside0.mk hkT
    have RM := Aside0.mk (show 0 < n → regs < r from fun hn => by obtain ⟨q, hq, h1⟩ := F.room hn; have := hmost q hq; omega)
    clear hG hkM hmay hhb hkR hkS hkT hmost F hO hord ehh en h0 h64 hhl
    by_cases hn : (n : Int) = 0
    · go_enter Try.func3, Try.ntmps3
      go_wp2_with fail
      refine (smithylaw25_awake.calls kA true w AW.out).mono ?_
      rintro e w1 ⟨rfl, hb⟩
      have HB1 := Aside0.mk hb
      have R01 := Aside0.mk (Kd.C_below HR0.out hb)
      clear hb HR0
      go_wp2_with fail
      refine (lentSpans_calls _ _ l _ R01.out HC0.out (by have := G1.out; omega)).mono ?_
      rintro e w2 ⟨g, cap, rfl, ho, hb⟩
      have HB2 := Aside0.mk (below_then HB1.out HB1.out.size hb)
      have R02 := Aside0.mk (Kd.C_below R01.out hb)
      obtain ⟨-, hcap, hC⟩ := Kd.R_reads' ho
      rw [List.length_append, marksSpans_len] at hC
      have HCAP := Aside0.mk hcap
      have HM2 := Aside0.mk hC
      clear ho hb hcap hC R01
      go_wp2_with fail
      refine (AS.out _ (some ⟨g, 0, none⟩) cap (C_head HM2.out (by rw [marksSpans_len])) (by have := HCAP.out; omega)).mono ?_
      rintro e w3 ⟨v0, rfl, hR, hb⟩
      have HB3 := Aside0.mk (below_then HB2.out HB2.out.size hb)
      have R03 := Aside0.mk (Kd.C_below R02.out hb)
      have HM3 := Aside0.mk (Kd.C_below HM2.out hb)
      obtain ⟨A7, c7, rfl, hc7, hC7⟩ := Kd.R_reads hR
      have HC7 := Aside0.mk hc7
      have CC3 := Aside0.mk hC7
      clear hR hb hc7 hC7 R02 HM2
      go_wp2_with fail
      refine (keptSpans_calls ⟨g, 0, none⟩ cap _ _ l _ R03.out HM3.out HCAP.out (by have := G1.out; omega)).mono ?_
      rintro e w4 ⟨rfl, hb⟩
      have HB4 := Aside0.mk (below_then HB3.out HB3.out.size hb)
      have R04 := Aside0.mk (Kd.C_below R03.out hb)
      have CC4 := Aside0.mk (Kd.C_below CC3.out hb)
      clear hb R03 HM3 CC3
      go_wp2_with fail
      refine (smithyref25_May.calls kM _ _ l regs _ _ R04.out HC0.out MF.out).mono ?_
      rintro e w5 ⟨rfl, hd⟩
      have hb := hd.below
      have HB5 := Aside0.mk (below_then HB4.out HB4.out.size hb)
      have R05 := Aside0.mk (Kd.C_below R04.out hb)
      have CC5 := Aside0.mk (Kd.C_below CC4.out hb)
      clear hb hd R04 CC4
      go_wp2_with fail
      refine (smithyref25_Holds.calls kR _ _ l _ _ hh regs _ _ R05.out HC0.out CC5.out HC7.out RF.out).mono ?_
      rintro e w6 ⟨rfl, hb⟩
      have HB6 := Aside0.mk (below_then HB5.out HB5.out.size hb)
      have R06 := Aside0.mk (Kd.C_below R05.out hb)
      have CC6 := Aside0.mk (Kd.C_below CC5.out hb)
      clear hb R05 CC5
      go_wp2_with fail
      refine (smithyref25_Slots.calls kS _ _ hh _ _ CC6.out HC7.out SF.out).mono ?_
      rintro e w7 ⟨rfl, hd⟩
      have hb := hd.below
      have HB7 := Aside0.mk (below_then HB6.out HB6.out.size hb)
      have R07 := Aside0.mk (Kd.C_below R06.out hb)
      clear hb hd R06 CC6
      go_wp2
      go_ret
      exact ⟨rfl, HB7.out⟩
    · have hnp := RM.out (by omega)
      go_enter Try.func3, Try.ntmps3
      go_wp2_with fail
      refine (smithylaw25_awake.calls kA true w AW.out).mono ?_
      rintro e w1 ⟨rfl, hb⟩
      have HB1 := Aside0.mk hb
      have R01 := Aside0.mk (Kd.C_below HR0.out hb)
      clear hb HR0
      go_wp2_with fail
      refine (lentSpans_calls _ _ l _ R01.out HC0.out (by have := G1.out; omega)).mono ?_
      rintro e w2 ⟨g, cap, rfl, ho, hb⟩
      have HB2 := Aside0.mk (below_then HB1.out HB1.out.size hb)
      have R02 := Aside0.mk (Kd.C_below R01.out hb)
      obtain ⟨-, hcap, hC⟩ := Kd.R_reads' ho
      rw [List.length_append, marksSpans_len] at hC
      have HCAP := Aside0.mk hcap
      have HM2 := Aside0.mk hC
      clear ho hb hcap hC R01
      go_wp2_with fail
      refine (AS.out _ (some ⟨g, 0, none⟩) cap (C_head HM2.out (by rw [marksSpans_len])) (by have := HCAP.out; omega)).mono ?_
      rintro e w3 ⟨v0, rfl, hR, hb⟩
      have HB3 := Aside0.mk (below_then HB2.out HB2.out.size hb)
      have R03 := Aside0.mk (Kd.C_below R02.out hb)
      have HM3 := Aside0.mk (Kd.C_below HM2.out hb)
      obtain ⟨A7, c7, rfl, hc7, hC7⟩ := Kd.R_reads hR
      have HC7 := Aside0.mk hc7
      have CC3 := Aside0.mk hC7
      clear hR hb hc7 hC7 R02 HM2
      go_wp2_with fail
      refine (keptSpans_calls ⟨g, 0, none⟩ cap _ _ l _ R03.out HM3.out HCAP.out (by have := G1.out; omega)).mono ?_
      rintro e w4 ⟨rfl, hb⟩
      have HB4 := Aside0.mk (below_then HB3.out HB3.out.size hb)
      have R04 := Aside0.mk (Kd.C_below R03.out hb)
      have CC4 := Aside0.mk (Kd.C_below CC3.out hb)
      clear hb R03 HM3 CC3
      go_wp2_with fail
      refine (smithyref25_May.calls kM _ _ l regs _ _ R04.out HC0.out MF.out).mono ?_
      rintro e w5 ⟨rfl, hd⟩
      have hb := hd.below
      have HB5 := Aside0.mk (below_then HB4.out HB4.out.size hb)
      have R05 := Aside0.mk (Kd.C_below R04.out hb)
      have CC5 := Aside0.mk (Kd.C_below CC4.out hb)
      clear hb hd R04 CC4
      go_wp2_with fail
      refine (smithyref25_Holds.calls kR _ _ l _ _ hh regs _ _ R05.out HC0.out CC5.out HC7.out RF.out).mono ?_
      rintro e w6 ⟨rfl, hb⟩
      have HB6 := Aside0.mk (below_then HB5.out HB5.out.size hb)
      have R06 := Aside0.mk (Kd.C_below R05.out hb)
      have CC6 := Aside0.mk (Kd.C_below CC5.out hb)
      clear hb R05 CC5
      go_wp2_with fail
      refine (smithyref25_Slots.calls kS _ _ hh _ _ CC6.out HC7.out SF.out).mono ?_
      rintro e w7 ⟨rfl, hd⟩
      have hb := hd.below
      have HB7 := Aside0.mk (below_then HB6.out HB6.out.size hb)
      have R07 := Aside0.mk (Kd.C_below R06.out hb)
      clear hb hd R06 CC6
      go_wp2_with fail
      refine (smithyref25_Most.calls kT _ _ l _ _ R07.out HC0.out TF.out).mono ?_
      rintro e w8 ⟨rfl, hd⟩
      have hb := hd.below
      have HB8 := Aside0.mk (below_then HB7.out HB7.out.size hb)
      clear hb hd R07
      go_wp2
      go_ret
      exact ⟨rfl, HB8.out⟩
theorem scanAssigns_walk (a0 : Option Addr) (len0 cap0 : Nat) (l : List S40) (regs : Int) (w : World) (hl0 : l.length = len0) (hc0 : len0 ≤ cap0) (hC0 : Kd.C k40 w a0 len0 l) (hw0 : wfS l) (wr : (Lit.int .i64 regs).wf = true) :
    Calls Try.prog 3 #[.slice a0 len0 cap0, .int .i64 regs] w fun e w' => e = .returned (.bool true) ∧ Below w.heap.size w w' := by
  subst hl0
  exact scanAssigns_calls _ _ _ _ _ hC0 hc0 hw0
end Go.Proofs.Ytcmbpboeilojmaa.Sw
