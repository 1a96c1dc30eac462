/- The walk of the document's Did: it answers what the plain function didL tells. -/
import Derived.Test.YtchmddbenohmnaaDid
namespace Go.Proofs.Ytchmddbenohmnaa.Mv
open Go Go.RowKit Go.Proofs.YtchmddbenohmnaaW.PrintWords Go.Proofs.YtchmddbenohmnaaW.PrintLast Go.Proofs.YtchmddbenohmnaaW.PrintMore Go.Proofs.Ytchmddbenohmnaa.Mi Go.Proofs.Ytchmddbenohmnaa.F
set_option linter.unusedVariables false
set_option linter.unusedSimpArgs false

set_option maxHeartbeats 8000000 in
set_option maxRecDepth 100000 in
theorem rdid_calls (A0 : Option Addr) (c0 : Nat) (l0 : List (S43)) (A1 : Option Addr) (c1 : Nat) (l1 : List Int) (r : List Int) (w : World) (hr0 : Kd.C k43 w A0 l0.length l0) (hc0 : l0.length ≤ c0) (hr1 : Kd.C (Kd.int .i64) w A1 l1.length l1) (hc1 : l1.length ≤ c1) (h : didG l0 l1 = some r) :
    Calls Try.prog 18 #[.slice A0 l0.length c0, .slice A1 l1.length c1] w fun e w' => ∃ v0_ : Value, e = .returned (v0_) ∧ Kd.R (Kd.int .i64) 3 w' w.heap.size (fun _ => True) v0_ r ∧ Below w.heap.size w w' := by
  unfold didG at h
  by_cases hl : l1.length ≤ 17592186044416
  · rw [if_pos hl] at h
    obtain rfl := Option.some.inj h
    have hlen : l0.length ≤ 9223372036854775807 := hr0.2.1
    have HR0 := Aside0.mk hr0
    have HR1 := Aside0.mk hr1
    have HL := Aside0.mk hl
    clear hr0 hc0 hr1 hc1 h
    have HO0 : Aside0 (Kd.R (Kd.int .i64) 3 (w.alloc (.cells #[] 3)) w.heap.size (fun _ => True) (.slice (some ⟨w.heap.size, 0, none⟩) 0 0) []) := ⟨Kd.R_of_own (enc := Value.int .i64) (own_lit w w.heap.size 3 .i64 [] (Nat.le_refl _) (by simp)) (fun _ _ => trivial)⟩
    go_enter Try.func18, Try.ntmps18
    go_wp2_with (first | ((with_reducible refine gate_builtin (b := .append) (xs := #[.tmp 7, .tmp 8]) rfl ?_); at_builtin; go_loud (refine Kd.R_append_row (Value.int .i64) (0 : Int) (w0 := w) w.heap.size rfl (.tmp 7) (.tmp 8) 35 3 (.int .i64 0) 8 rfl Try.underlying35 info3 rfl (by decide) _ [] l1 A1 l1.length c1 (fun _ => True) rfl rfl ?aF HO0.out ?aR ?aB ?aS ?aL ?_; (case aF => exact fun _ _ => trivial); (case aR => exact Kd.C_below HR1.out ((Below.refl _ _).alloc (Nat.le_refl _) _)); (case aB => exact (Below.refl _ _).alloc (Nat.le_refl _) _); (case aS => simp); (case aL => have := HL.out; simp; omega); intro v1 w1 ho hb hg hat; have HO1 := Aside0.mk ho; have HB1 := Aside0.mk hb; clear ho hb hg hat)))
    have HO2 : Aside0 (Kd.R (Kd.int .i64) 3 w1 w.heap.size (fun _ => True) v1 l1) := HO1
    clear HO0 HO1
    obtain ⟨A2, c2, rfl, hc2, _⟩ := Kd.R_reads HO2.out
    go_loopw [6] (fun i wr => ∃ k : Nat, k ≤ l0.length ∧ i = .int .i64 k ∧ Aside0 (Kd.R (Kd.int .i64) 3 wr w.heap.size (fun _ => True) (.slice A2 l1.length c2) (didL (l0.take k) l1)) ∧ Aside0 (Below w.heap.size w wr)) (fun i _ => l0.length - (intOf i).toNat)
    case atStart => exact ⟨0, Nat.zero_le _, rfl, HO2, HB1⟩
    case round =>
      clear HO2 HB1 hc2
      obtain ⟨k, hk, rfl, HO, HB⟩ := hrel
      by_cases hlt : k < l0.length
      · have p1 : (0 : Int) ≤ (k : Int) := by omega
        have q1 : (k : Int) < l0.length := by omega
        obtain ⟨ad, rfl, hx0, hx1⟩ := at_T43 (Kd.C_below HR0.out HB.out) (k : Int) p1 q1
        simp only [Int.toNat_natCast] at hx0 hx1
        clear q1
        have HT := Aside0.mk (show didL (l0.take (k + 1)) l1 = stepD (didL (l0.take k) l1) (rd_T43 l0 k) by rw [List.take_succ_eq_append_getElem hlt, didL_snoc]; congr 1; unfold rd_T43; rw [Int.toNat_natCast, List.getD_eq_getElem?_getD, List.getElem?_eq_getElem hlt]; rfl)
        obtain ⟨out, hout⟩ : ∃ out, didL (l0.take k) l1 = out := ⟨_, rfl⟩
        have HLO : Aside0 (out.length = l1.length) := ⟨by rw [← hout, didL_len]⟩
        rw [hout] at HO HT
        clear hout
        obtain ⟨f0, hf0⟩ : ∃ f0, (rd_T43 l0 k).f0 = f0 := ⟨_, rfl⟩
        obtain ⟨f1, hf1⟩ : ∃ f1, (rd_T43 l0 k).f1 = f1 := ⟨_, rfl⟩
        have HS : Aside0 (stepD out (rd_T43 l0 k) = if (0 ≤ f0 ∧ f0 < (l1.length : Int)) ∧ (0 ≤ f1 ∧ f1 < (l1.length : Int)) then out.set f0.toNat (rd out f1) else out) := ⟨by
          unfold stepD inB; rw [hf0, hf1, HLO.out]; simp only [Bool.and_eq_true, decide_eq_true_eq]⟩
        rw [hf0] at hx0
        rw [hf1] at hx1
        clear hf0 hf1
        have skip : ¬ ((0 ≤ f0 ∧ f0 < (l1.length : Int)) ∧ (0 ≤ f1 ∧ f1 < (l1.length : Int))) → didL (l0.take (k + 1)) l1 = out := fun h => by rw [HT.out, HS.out, if_neg h]
        have SKIP := Aside0.mk skip
        clear skip
        by_cases p3 : 0 ≤ f0
        · by_cases q3 : f0 < (l1.length : Int)
          · by_cases p4 : 0 ≤ f1
            · by_cases q4 : f1 < (l1.length : Int)
              · have HT2 := Aside0.mk (show didL (l0.take (k + 1)) l1 = out.set f0.toNat (rd out f1) by rw [HT.out, HS.out, if_pos ⟨⟨p3, q3⟩, p4, q4⟩])
                obtain ⟨g, cap, hgv, hgb, hgl, cells, hgc⟩ := Kd.R_form HO.out (by have := HLO.out; omega)
                injection hgv with e1 e2 e3
                subst e1 e3
                clear e2
                have hcell := Kd.R_celln (0 : Int) HO.out f1 p4 (by omega)
                have hfree := (Kd.R_celln (0 : Int) HO.out f0 p3 (by omega)).2
                obtain ⟨hput, hgr⟩ := Kd.R_putg HO.out f0 (rd out f1)
                have HPUT := Aside0.mk hput
                have hc1 : wr.cell? ⟨g, f1.toNat, none⟩ = some (.int .i64 (rd out f1)) := hcell.1
                have hc0 : wr.cell? ⟨g, f0.toNat, none⟩ = some (.int .i64 (rd out f0)) := (Kd.R_celln (0 : Int) HO.out f0 p3 (by omega)).1
                clear hput hgr hcell hgc
                go_wp2
                go_region
                go_wp2
                go_roundw
                case rel => exact ⟨k + 1, by omega, by go_num, ⟨by rw [HT2.out]; exact Kd.R_drew HPUT.out⟩, ⟨below_drew (HB.out.setCell hgb _)⟩⟩
                case measure => simp [intOf]; omega
              · have HE := Aside0.mk (SKIP.out (fun h => q4 h.2.2))
                go_wp2
                go_roundw
                case rel => exact ⟨k + 1, by omega, by go_num, ⟨by rw [HE.out]; exact HO.out⟩, HB⟩
                case measure => simp [intOf]; omega
            · have HE := Aside0.mk (SKIP.out (fun h => p4 h.2.1))
              go_wp2
              go_roundw
              case rel => exact ⟨k + 1, by omega, by go_num, ⟨by rw [HE.out]; exact HO.out⟩, HB⟩
              case measure => simp [intOf]; omega
          · have HE := Aside0.mk (SKIP.out (fun h => q3 h.1.2))
            go_wp2
            go_roundw
            case rel => exact ⟨k + 1, by omega, by go_num, ⟨by rw [HE.out]; exact HO.out⟩, HB⟩
            case measure => simp [intOf]; omega
        · have HE := Aside0.mk (SKIP.out (fun h => p3 h.1.1))
          go_wp2
          go_roundw
          case rel => exact ⟨k + 1, by omega, by go_num, ⟨by rw [HE.out]; exact HO.out⟩, HB⟩
          case measure => simp [intOf]; omega
      · obtain rfl : k = l0.length := by omega
        rw [List.take_length] at HO
        go_wp2
        go_ret
        exact ⟨_, rfl, HO.out, HB.out⟩
  · rw [if_neg hl] at h; cases h
end Go.Proofs.Ytchmddbenohmnaa.Mv
