/- Texts of this proof, joined in build order: B2, Sj, Sm3, Sp, Fxf51, Lj. -/
import Derived.Test.YtanhnfhpajaolaaDoorJ09
import Derived.Test.YtanhnfhpajaolaaDoorJ00
import Derived.Test.YtanhnfhpajaolaaDoorJ08
import Derived.Test.YtanhnfhpajaolaaDoorJ01
import Derived.Test.YtanhnfhpajaolaaDoorJ07
import Derived.Scope
import Derived.ScopeJumps
/- live.block. -/
namespace Go.Proofs.YtanhnfhpajaolaaDoor.Fo
open Go Go.RowKit Go.Proofs.YtanhnfhpajaolaaDoorW.PrintWords Go.Proofs.YtanhnfhpajaolaaDoorW.PrintLast Go.Proofs.YtanhnfhpajaolaaDoorW.PrintMore Go.Proofs.YtanhnfhpajaolaaDoor.F Go.Proofs.YtanhnfhpajaolaaDoor.Cf Go.Proofs.YtanhnfhpajaolaaDoor.Sc
set_option linter.unusedVariables false
set_option linter.unusedSimpArgs false
set_option maxHeartbeats 40000000 in
set_option maxRecDepth 100000 in
theorem block_calls (A0 : Option Addr) (c0 : Nat) (b : S43) (n m nb : Nat) (hn : n ≤ 35184372088832) (hm : (m : Int) ≤ 64 * (n : Int)) (hb : okBl m nb b) (hl : b.f0.length ≤ 1099511627776) (hl2 : ∀ x ∈ b.f0, x.f3.length ≤ 281474976710656) (w : World) (hr : Kd.C k49 w A0 b.f0.length b.f0) (hc : b.f0.length ≤ c0) :
    Calls Tryd.prog 47 #[.agg #[.slice A0 b.f0.length c0, .int .u8 b.f1.f0, .int .i64 b.f1.f1, .int .i64 b.f1.f2.f0, .int .i64 b.f1.f2.f1, .int .u8 b.f1.f3], .int .i64 n] w fun e w' => ∃ gA gD, e = .returned (.tuple #[.slice (some ⟨gA, 0, none⟩) n n, .slice (some ⟨gD, 0, none⟩) n n]) ∧ gA ≠ gD ∧ Kd.R (Kd.int .u64) 47 w' w.heap.size (fun k => k = gA) (.slice (some ⟨gA, 0, none⟩) n n) (blkG b n).1 ∧ Kd.R (Kd.int .u64) 47 w' w.heap.size (fun k => k = gD) (.slice (some ⟨gD, 0, none⟩) n n) (blkG b n).2 ∧ Below w.heap.size w w' := by
  obtain ⟨Z, hZ, hmk⟩ := make47 n hn
  have hin : ∀ v : Int, v < (m : Int) → v < 64 * (n : Int) := fun v h => by omega
  have HIN := Aside0.mk hin
  have HBL := Aside0.mk hb
  have HL2 := Aside0.mk hl2
  have HR := Aside0.mk hr
  have HC := Aside0.mk hc
  have HN := Aside0.mk (show n ≤ 144115188075855871 by omega)
  have HNN := Aside0.mk hn
  have hz1 : (w.alloc (.cells #[.slice A0 b.f0.length c0, .int .u8 b.f1.f0, .int .i64 b.f1.f1, .int .i64 b.f1.f2.f0, .int .i64 b.f1.f2.f1, .int .u8 b.f1.f3] 43)).heap.size = w.heap.size + 1 := by simp
  have HB1 := Aside0.mk (below_alloc (Below.refl w.heap.size w) (.cells #[.slice A0 b.f0.length c0, .int .u8 b.f1.f0, .int .i64 b.f1.f1, .int .i64 b.f1.f2.f0, .int .i64 b.f1.f2.f1, .int .u8 b.f1.f3] 43))
  have HK1 := Aside0.mk (blk_new w (.cells #[.slice A0 b.f0.length c0, .int .u8 b.f1.f0, .int .i64 b.f1.f1, .int .i64 b.f1.f2.f0, .int .i64 b.f1.f2.f1, .int .u8 b.f1.f3] 43))
  have HZ1 := Aside0.mk hz1
  have HQ1 := Aside0.mk hZ
  clear hin hb hl2 hr hc hm hz1 hZ
  go_enter Tryd.func47, Tryd.ntmps47
  go_upto_region 1 with (fail)
  generalize w.alloc (.cells #[.slice A0 b.f0.length c0, .int .u8 b.f1.f0, .int .i64 b.f1.f1, .int .i64 b.f1.f2.f0, .int .i64 b.f1.f2.f1, .int .u8 b.f1.f3] 43) = W1 at *
  go_cut [6, 7] (fun s6 s7 wx => Made47 w.heap.size n W1 wx s6 s7)
  case first =>
    have hw1 : w.heap.size ≤ W1.heap.size := by have := HZ1.out; omega
    go_region_with (fail)
    all_goals
      go_wp2_with (fail)
      go_meet
      first
        | (with_reducible exact mk0123 HNN.out HQ1.out _ _ hw1)
        | (with_reducible exact mk0132 HNN.out HQ1.out _ _ hw1)
        | (with_reducible exact mk0213 HNN.out HQ1.out _ _ hw1)
        | (with_reducible exact mk0231 HNN.out HQ1.out _ _ hw1)
        | (with_reducible exact mk0312 HNN.out HQ1.out _ _ hw1)
        | (with_reducible exact mk0321 HNN.out HQ1.out _ _ hw1)
        | (with_reducible exact mk1023 HNN.out HQ1.out _ _ hw1)
        | (with_reducible exact mk1032 HNN.out HQ1.out _ _ hw1)
        | (with_reducible exact mk1203 HNN.out HQ1.out _ _ hw1)
        | (with_reducible exact mk1230 HNN.out HQ1.out _ _ hw1)
        | (with_reducible exact mk1302 HNN.out HQ1.out _ _ hw1)
        | (with_reducible exact mk1320 HNN.out HQ1.out _ _ hw1)
        | (with_reducible exact mk2013 HNN.out HQ1.out _ _ hw1)
        | (with_reducible exact mk2031 HNN.out HQ1.out _ _ hw1)
        | (with_reducible exact mk2103 HNN.out HQ1.out _ _ hw1)
        | (with_reducible exact mk2130 HNN.out HQ1.out _ _ hw1)
        | (with_reducible exact mk2301 HNN.out HQ1.out _ _ hw1)
        | (with_reducible exact mk2310 HNN.out HQ1.out _ _ hw1)
        | (with_reducible exact mk3012 HNN.out HQ1.out _ _ hw1)
        | (with_reducible exact mk3021 HNN.out HQ1.out _ _ hw1)
        | (with_reducible exact mk3102 HNN.out HQ1.out _ _ hw1)
        | (with_reducible exact mk3120 HNN.out HQ1.out _ _ hw1)
        | (with_reducible exact mk3201 HNN.out HQ1.out _ _ hw1)
        | (with_reducible exact mk3210 HNN.out HQ1.out _ _ hw1)
  case rest =>
    obtain ⟨bA, bD, gA, gD, rfl, rfl, hgne, hbne, h1, h2, h3, h4, h5⟩ := hcut
    have HGNE := Aside0.mk hgne
    have HWX := Aside0.mk (below_step HB1.out h5)
    have HKX := Aside0.mk (blk_below HK1.out h5)
    have HCA := Aside0.mk h1
    have HCD := Aside0.mk h2
    have HRA := Aside0.mk h3
    have HRD := Aside0.mk h4
    clear hgne hbne h1 h2 h3 h4 h5 hmk
    obtain ⟨resP, hresP⟩ : ∃ resP, b.f0.foldl blkI (zerosG n, zerosG n) = resP := ⟨_, rfl⟩
    have HRES := Aside0.mk hresP
    have HGOAL := Aside0.mk (show blkG b n = (blkE b resP, resP.2) by unfold blkG; rw [hresP])
    clear hresP
    have hbc0 : ∀ j : Nat, wc.cell? ⟨w.heap.size, j, none⟩ = (#[.slice A0 b.f0.length c0, .int .u8 b.f1.f0, .int .i64 b.f1.f1, .int .i64 b.f1.f2.f0, .int .i64 b.f1.f2.f1, .int .u8 b.f1.f3] : Array Value)[j]? := fun j => blk_cell HKX.out j
    go_wp2
    clear hbc0
    go_loopw [21] (fun v21 wr => ∃ k : Nat, k ≤ b.f0.length ∧ v21 = .int .i64 k ∧ ∃ a d : List Int, Aside0 ((b.f0.drop k).foldl blkI (a, d) = resP) ∧ Aside0 (Kd.R (Kd.int .u64) 47 wr w.heap.size (fun k => k = gA) (.slice (some ⟨gA, 0, none⟩) n n) a) ∧ Aside0 (Kd.R (Kd.int .u64) 47 wr w.heap.size (fun k => k = gD) (.slice (some ⟨gD, 0, none⟩) n n) d) ∧ Aside0 (Below w.heap.size w wr) ∧ Aside0 (wr.heap[bA]? = some (.cells #[.slice (some ⟨gA, 0, none⟩) n n] 93 (0, 0))) ∧ Aside0 (wr.heap[bD]? = some (.cells #[.slice (some ⟨gD, 0, none⟩) n n] 93 (0, 0))) ∧ Aside0 (wr.heap[w.heap.size]? = some (.cells #[.slice A0 b.f0.length c0, .int .u8 b.f1.f0, .int .i64 b.f1.f1, .int .i64 b.f1.f2.f0, .int .i64 b.f1.f2.f1, .int .u8 b.f1.f3] 43 (0, 0)))) (fun v21 _ => b.f0.length - (intOf v21).toNat)
    case atStart => exact ⟨0, Nat.zero_le _, rfl, _, _, ⟨by rw [List.drop_zero]; exact HRES.out⟩, HRA, HRD, HWX, HCA, HCD, HKX⟩
    case round =>
      clear HRES HRA HRD HWX HCA HCD HKX
      obtain ⟨k, hk, rfl, a, d, HA, HRA, HRD, HW, HCA, HCD, HK⟩ := hrel
      by_cases hlt : k < b.f0.length
      · obtain ⟨ad, Ax, cx, rfl, hx0, hx1, hx2, hx3, hx4, hx5, hcx, hrx⟩ := at_T49 HR.out (k : Int) (by omega) (by omega)
        simp only [Int.toNat_natCast] at hx0 hx1 hx2 hx3 hx4 hx5
        replace hx0 := pw_cell_below HW.out hx0
        replace hx1 := pw_cell_below HW.out hx1
        replace hx2 := pw_cell_below HW.out hx2
        replace hx3 := pw_cell_below HW.out hx3
        replace hx4 := pw_cell_below HW.out hx4
        replace hx5 := pw_cell_below HW.out hx5
        have HRX := Aside0.mk hrx
        have HCX := Aside0.mk hcx
        clear hrx hcx
        have hdr : b.f0.drop k = rd_T49 b.f0 k :: b.f0.drop (k + 1) := by
          rw [List.drop_eq_getElem_cons hlt, rd49_get _ hlt]
        have hA := HA.out
        rw [hdr, List.foldl_cons] at hA
        have hox := HBL.out.1 _ (rd49_mem hlt)
        have hxl := HL2.out _ (rd49_mem hlt)
        clear hdr HA
        generalize rd_T49 b.f0 (k : Int) = x at *
        have HOX := Aside0.mk hox
        clear hox
        have HA := Aside0.mk hA
        clear hA
        have HBX := Aside0.mk (blk_new wr (.cells #[.int .u8 x.f0, .int .u8 x.f1, .int .i64 x.f2, .slice Ax x.f3.length cx, .int .u64 x.f4, .int .i64 x.f5] 49))
        have HRA1 := Aside0.mk (Kd.R_alloc HRA.out (.cells #[.int .u8 x.f0, .int .u8 x.f1, .int .i64 x.f2, .slice Ax x.f3.length cx, .int .u64 x.f4, .int .i64 x.f5] 49))
        have HRD1 := Aside0.mk (Kd.R_alloc HRD.out (.cells #[.int .u8 x.f0, .int .u8 x.f1, .int .i64 x.f2, .slice Ax x.f3.length cx, .int .u64 x.f4, .int .i64 x.f5] 49))
        have HW1 := Aside0.mk (below_alloc HW.out (.cells #[.int .u8 x.f0, .int .u8 x.f1, .int .i64 x.f2, .slice Ax x.f3.length cx, .int .u64 x.f4, .int .i64 x.f5] 49))
        have HCA1 := Aside0.mk (blk_below HCA.out (below_alloc (Below.refl wr.heap.size wr) (.cells #[.int .u8 x.f0, .int .u8 x.f1, .int .i64 x.f2, .slice Ax x.f3.length cx, .int .u64 x.f4, .int .i64 x.f5] 49)))
        have HCD1 := Aside0.mk (blk_below HCD.out (below_alloc (Below.refl wr.heap.size wr) (.cells #[.int .u8 x.f0, .int .u8 x.f1, .int .i64 x.f2, .slice Ax x.f3.length cx, .int .u64 x.f4, .int .i64 x.f5] 49)))
        have HK1 := Aside0.mk (blk_below HK.out (below_alloc (Below.refl wr.heap.size wr) (.cells #[.int .u8 x.f0, .int .u8 x.f1, .int .i64 x.f2, .slice Ax x.f3.length cx, .int .u64 x.f4, .int .i64 x.f5] 49)))
        go_upto_region 6 with (fail)
        clear hx0 hx1 hx2 hx3 hx4 hx5
        generalize wr.alloc (.cells #[.int .u8 x.f0, .int .u8 x.f1, .int .i64 x.f2, .slice Ax x.f3.length cx, .int .u64 x.f4, .int .i64 x.f5] 49) = wX at *
        clear HRA HRD HW HCA HCD HK
        generalize wr.heap.size = nx at *
        have hbx : ∀ j : Nat, wX.cell? ⟨nx, j, none⟩ = (#[.int .u8 x.f0, .int .u8 x.f1, .int .i64 x.f2, .slice Ax x.f3.length cx, .int .u64 x.f4, .int .i64 x.f5] : Array Value)[j]? := fun j => blk_cell HBX.out j
        obtain ⟨resA, hresA⟩ : ∃ resA, (if x.f0 = 1 then a else x.f3.foldl (askG d) a) = resA := ⟨_, rfl⟩
        have HRESA := Aside0.mk hresA
        clear hresA
        go_wp2
        clear hbx
        go_loopw [28] (fun v28 w5 => ∃ j : Nat, j ≤ x.f3.length ∧ v28 = .int .i64 j ∧ ∃ a2 : List Int, Aside0 ((if x.f0 = 1 then a2 else (x.f3.drop j).foldl (askG d) a2) = resA) ∧ Aside0 (Kd.R (Kd.int .u64) 47 w5 w.heap.size (fun k => k = gA) (.slice (some ⟨gA, 0, none⟩) n n) a2) ∧ Aside0 (Kd.R (Kd.int .u64) 47 w5 w.heap.size (fun k => k = gD) (.slice (some ⟨gD, 0, none⟩) n n) d) ∧ Aside0 (Below w.heap.size w w5) ∧ Aside0 (Kept wX w5 (fun k => k = gA))) (fun v28 _ => x.f3.length - (intOf v28).toNat)
        case atStart => exact ⟨0, Nat.zero_le _, rfl, _, ⟨by rw [List.drop_zero]; exact HRESA.out⟩, HRA1, HRD1, HW1, ⟨Kept.refl _ _⟩⟩
        case round =>
          clear HW1
          obtain ⟨j, hj, rfl, a2, HA2, HRA, HRD, HW, HKP⟩ := hrel
          have hgA : ∀ (t : TypeId) (cs : Array Value) (g : Nat), t ≠ 47 → wX.heap[g]? = some (.cells cs t (0, 0)) → wr.heap[g]? = some (.cells cs t (0, 0)) := fun t cs g ht hg => blk_kept hg HKP.out (fun e => Kd.R_ne HRA1.out hg (fun h => ht h.symm) (by rw [e]; rfl))
          have HCA := Aside0.mk (hgA _ _ _ (by decide) HCA1.out)
          have HCD := Aside0.mk (hgA _ _ _ (by decide) HCD1.out)
          have HBXr := Aside0.mk (hgA _ _ _ (by decide) HBX.out)
          have HKr := Aside0.mk (hgA _ _ _ (by decide) HK1.out)
          clear hgA
          have hbx : ∀ j : Nat, wr.cell? ⟨nx, j, none⟩ = (#[.int .u8 x.f0, .int .u8 x.f1, .int .i64 x.f2, .slice Ax x.f3.length cx, .int .u64 x.f4, .int .i64 x.f5] : Array Value)[j]? := fun j => blk_cell HBXr.out j
          by_cases hjl : j < x.f3.length
          · obtain ⟨adx, rfl, hv⟩ := Kd.at_int HRX.out (j : Int) (by omega) (by omega)
            simp only [Int.toNat_natCast] at hv
            replace hv := pw_cell_below HW.out hv
            have hvr := HOX.out.1 _ (List.getElem_mem hjl)
            rw [← rd_get _ hjl] at hvr
            have hA2 := HA2.out
            rw [List.drop_eq_getElem_cons hjl, List.foldl_cons, ← rd_get _ hjl] at hA2
            generalize rd x.f3 (j : Int) = v at *
            by_cases h1 : x.f0 = 1
            · rw [if_pos h1] at hA2
              have HA3 := Aside0.mk (show (if x.f0 = 1 then a2 else (x.f3.drop (j + 1)).foldl (askG d) a2) = resA by rw [if_pos h1]; exact hA2)
              clear hA2 HA2
              go_wp2
              go_roundw
              case rel => exact ⟨j + 1, by omega, by go_num, a2, HA3, HRA, HRD, HW, HKP⟩
              case measure => simp [intOf]; omega
            · rw [if_neg h1] at hA2
              have HA3 := Aside0.mk (show (if x.f0 = 1 then askG d a2 v else (x.f3.drop (j + 1)).foldl (askG d) (askG d a2 v)) = resA by rw [if_neg h1]; exact hA2)
              clear hA2 HA2
              go_wp2_with (go_at_call 77; refine (ask_calls w wr bA bD gA gD n n n a2 d v HGNE.out (blk_cell HCA.out 0) (blk_cell HCD.out 0) HRA.out HRD.out HW.out hvr.1 (HIN.out _ hvr.2) HN.out).mono ?_; rintro e w3 ⟨rfl, hq1, hq2, hq3, hq4⟩; have HRA3 := Aside0.mk hq1; have HRD3 := Aside0.mk hq2; have HW3 := Aside0.mk hq3; have HKP3 := Aside0.mk (HKP.out.then_ hq4 (fun k hk => .inl hk)); clear hq1 hq2 hq3 hq4)
              go_roundw
              case rel => exact ⟨j + 1, by omega, by go_num, askG d a2 v, HA3, HRA3, HRD3, HW3, HKP3⟩
              case measure => simp [intOf]; omega
          · obtain rfl : j = x.f3.length := by omega
            have hA2 := HA2.out
            rw [List.drop_length, List.foldl_nil, ite_self] at hA2
            subst hA2
            obtain ⟨sb, hsb⟩ : ∃ sb, setsB x = sb := ⟨_, rfl⟩
            have hA := HA.out
            have hbl : blkI (a, d) x = (a2, if sb = true then putG d x.f2 else d) := by
              show ((if x.f0 = 1 then a else x.f3.foldl (askG d) a), (if setsB x = true then putG d x.f2 else d)) = _
              rw [HRESA.out, hsb]
            rw [hbl] at hA
            have HSB := Aside0.mk hsb
            clear hsb hbl HA HA2
            cases sb with
            | true =>
              rw [if_pos rfl] at hA
              have HA := Aside0.mk hA
              have HV := Aside0.mk (sets_in HOX.out HSB.out)
              clear hA
              go_wp2_with (first | (go_at_call 79; refine (live_sets.calls x.f0 x.f1 x.f2 Ax cx x.f3 x.f4 x.f5 true _ (Kd.C_below HRX.out HW.out) HCX.out ((sets_some x).trans (congrArg some HSB.out))).mono ?_; rintro e w6 ⟨rfl, hb6⟩; have HB6 := Aside0.mk hb6; have hcd6 := blk_cell (blk_below HCD.out hb6) 0; have hbx6 := blk_cell (blk_below HBXr.out hb6) 2; clear hb6 hbx) | (go_at_call 48; refine (put_calls w _ gD n n d x.f2 (below_step HW.out HB6.out) (Kd.R_below HRD.out HB6.out) HV.out.1 (HIN.out _ HV.out.2) HN.out).mono ?_; rintro e w7 ⟨rfl, hq1, hq2, hq3⟩; have HRD7 := Aside0.mk hq1; have HW7 := Aside0.mk hq2; have HKP7 := Aside0.mk hq3; clear hq1 hq2 hq3 hcd6 hbx6))
              have hgD : ∀ (t : TypeId) (cs : Array Value) (g : Nat), t ≠ 47 → wr.heap[g]? = some (.cells cs t (0, 0)) → w7.heap[g]? = some (.cells cs t (0, 0)) := fun t cs g ht hg => blk_kept (blk_below hg HB6.out) HKP7.out (fun e => Kd.R_ne HRD.out hg (fun h => ht h.symm) (by rw [e]; rfl))
              go_roundw
              case rel => exact ⟨k + 1, by omega, by go_num, a2, putG d x.f2, HA, ⟨Kd.R_kept (Kd.R_below HRA.out HB6.out) HKP7.out (fun k h1 h2 => HGNE.out (h1.symm.trans h2))⟩, HRD7, HW7, ⟨hgD _ _ _ (by decide) HCA.out⟩, ⟨hgD _ _ _ (by decide) HCD.out⟩, ⟨hgD _ _ _ (by decide) HKr.out⟩⟩
              case measure => simp [intOf]; omega
            | false =>
              rw [if_neg (by decide)] at hA
              have HA := Aside0.mk hA
              clear hA
              go_wp2_with (go_at_call 79; refine (live_sets.calls x.f0 x.f1 x.f2 Ax cx x.f3 x.f4 x.f5 false _ (Kd.C_below HRX.out HW.out) HCX.out ((sets_some x).trans (congrArg some HSB.out))).mono ?_; rintro e w6 ⟨rfl, hb6⟩; have HB6 := Aside0.mk hb6; clear hb6 hbx)
              go_roundw
              case rel => exact ⟨k + 1, by omega, by go_num, a2, d, HA, ⟨Kd.R_below HRA.out HB6.out⟩, ⟨Kd.R_below HRD.out HB6.out⟩, ⟨below_step HW.out HB6.out⟩, ⟨blk_below HCA.out HB6.out⟩, ⟨blk_below HCD.out HB6.out⟩, ⟨blk_below HKr.out HB6.out⟩⟩
              case measure => simp [intOf]; omega
      · obtain rfl : k = b.f0.length := by omega
        have hA := HA.out
        rw [List.drop_length, List.foldl_nil] at hA
        have hG := HGOAL.out
        rw [← hA] at hG
        have HG := Aside0.mk hG
        have HE := Aside0.mk HBL.out.2.1
        clear hA hG HA HGOAL HBL
        have hbc : ∀ j : Nat, wr.cell? ⟨w.heap.size, j, none⟩ = (#[.slice A0 b.f0.length c0, .int .u8 b.f1.f0, .int .i64 b.f1.f1, .int .i64 b.f1.f2.f0, .int .i64 b.f1.f2.f1, .int .u8 b.f1.f3] : Array Value)[j]? := fun j => blk_cell HK.out j
        by_cases hk : b.f1.f0 = 2 ∨ b.f1.f0 = 3
        · have hE : blkE b (a, d) = askG d a b.f1.f1 := by unfold blkE; rw [if_pos hk]
          have hv := HE.out hk
          have HG2 := Aside0.mk (show blkG b n = (askG d a b.f1.f1, d) by rw [HG.out, hE])
          clear HG hE HE
          have HVV := Aside0.mk hv
          clear hv
          rcases hk with hk | hk
          all_goals
            go_wp2_with (go_at_call 77; refine (ask_calls w wr bA bD gA gD n n n a d b.f1.f1 HGNE.out (blk_cell HCA.out 0) (blk_cell HCD.out 0) HRA.out HRD.out HW.out HVV.out.1 (HIN.out _ HVV.out.2) HN.out).mono ?_; rintro e w3 ⟨rfl, hq1, hq2, hq3, hq4⟩; have HRA3 := Aside0.mk hq1; have HRD3 := Aside0.mk hq2; have HW3 := Aside0.mk hq3; have hca := blk_cell (blk_kept HCA.out hq4 (fun e => Kd.R_ne HRA.out HCA.out (by decide) (by rw [e]; rfl))) 0; have hcd := blk_cell (blk_kept HCD.out hq4 (fun e => Kd.R_ne HRA.out HCD.out (by decide) (by rw [e]; rfl))) 0; clear hq1 hq2 hq3 hq4 hbc)
            go_quiet (fail)
            go_wp2
            go_ret2
            exact ⟨gA, gD, rfl, HGNE.out, by rw [HG2.out]; exact Kd.R_drewN HRA3.out _, by rw [HG2.out]; exact Kd.R_drewN HRD3.out _, pw_below_drewN HW3.out _⟩
        · have hE : blkE b (a, d) = a := by unfold blkE; rw [if_neg hk]
          have HG2 := Aside0.mk (show blkG b n = (a, d) by rw [HG.out, hE])
          have hk2 : ¬ b.f1.f0 = 2 := fun e => hk (.inl e)
          have hk3 : ¬ b.f1.f0 = 3 := fun e => hk (.inr e)
          have hk2b : (b.f1.f0 == 2) = false := beq_eq_false_iff_ne.2 hk2
          have hk3b : (b.f1.f0 == 3) = false := beq_eq_false_iff_ne.2 hk3
          clear HG hE HE hk
          have hca := blk_cell HCA.out 0
          have hcd := blk_cell HCD.out 0
          go_wp2
          go_quiet (fail)
          go_wp2
          go_ret2
          exact ⟨gA, gD, rfl, HGNE.out, by rw [HG2.out]; exact Kd.R_drewN HRA.out _, by rw [HG2.out]; exact Kd.R_drewN HRD.out _, pw_below_drewN HW.out _⟩
end Go.Proofs.YtanhnfhpajaolaaDoor.Fo
/- live.Live's three rows of sets: what its calls do to them. -/
namespace Go.Proofs.YtanhnfhpajaolaaDoor.Fo
open Go Go.RowKit Go.Proofs.YtanhnfhpajaolaaDoorW.PrintWords Go.Proofs.YtanhnfhpajaolaaDoorW.PrintLast Go.Proofs.YtanhnfhpajaolaaDoorW.PrintMore Go.Proofs.YtanhnfhpajaolaaDoor.F Go.Proofs.YtanhnfhpajaolaaDoor.Cf Go.Proofs.YtanhnfhpajaolaaDoor.Sc
set_option linter.unusedVariables false
set_option linter.unusedSimpArgs false
def V3 (I O D : List (List Int)) : Nat → List (List Int) := fun a => if a = 0 then I else if a = 1 then O else D
theorem Sts.congr {base : Nat} {w : World} {G : Nat → Nat} {B : Nat → Nat → Nat} {V V' : Nat → List (List Int)} {N n : Nat} {K K' : Nat → Nat} (h : Sts base w G B V N n K) (hK : ∀ a, a < 3 → K' a = K a) (hV : ∀ a, a < 3 → V' a = V a) : Sts base w G B V' N n K' where
  outer a ha := by rw [hK a ha]; exact h.outer a ha
  len a ha := by rw [hK a ha, hV a ha]; exact h.len a ha
  own a i ha hi := by rw [hV a ha]; exact h.own a i ha (by rw [← hK a ha]; exact hi)
  inj a i b j ha hi hb hj e := h.inj a i b j ha (by rw [← hK a ha]; exact hi) hb (by rw [← hK b hb]; exact hj) e
  injG := h.injG
theorem lt3 {a : Nat} (h : a < 3) : a = 0 ∨ a = 1 ∨ a = 2 := by omega
/-- A row of the made ones: its cell, and that it may be written. -/
theorem Sts.at_ {base : Nat} {w : World} {G : Nat → Nat} {B : Nat → Nat → Nat} {V : Nat → List (List Int)} {N n : Nat} {K : Nat → Nat} (h : Sts base w G B V N n K) (a i : Nat) (ha : a < 3) (hi : i < N) : ∃ v, w.cell? ⟨G a, i, none⟩ = some v := by
  obtain ⟨cs, hc, hs, _⟩ := h.outer a ha
  rw [blk_cell hc i]
  exact ⟨cs[i]'(by rw [hs]; exact hi), Array.getElem?_eq_getElem _⟩
/-- live.Live in the midst of its work: the graph's box, the sets. -/
structure Stb (w0 w : World) (bx : Array Value) (G : Nat → Nat) (B : Nat → Nat → Nat) (I O D : List (List Int)) (N n : Nat) : Prop where
  st : Sts w0.heap.size w G B (V3 I O D) N n (fun _ => N)
  low : Below w0.heap.size w0 w
  box : w.heap[w0.heap.size]? = some (.cells bx 28 (0, 0))
theorem Stb.below {w0 w W : World} {bx : Array Value} {G : Nat → Nat} {B : Nat → Nat → Nat} {I O D : List (List Int)} {N n : Nat} (h : Stb w0 w bx G B I O D N n) (hb : Below w.heap.size w W) : Stb w0 W bx G B I O D N n :=
  ⟨h.st.below hb, below_step h.low hb, blk_below h.box hb⟩
theorem Stb.boxc {w0 w : World} {bx : Array Value} {G : Nat → Nat} {B : Nat → Nat → Nat} {I O D : List (List Int)} {N n : Nat} (h : Stb w0 w bx G B I O D N n) (j : Nat) : w.cell? ⟨w0.heap.size, j, none⟩ = bx[j]? := blk_cell h.box j
theorem box_ne {w0 w : World} {bx : Array Value} {G : Nat → Nat} {B : Nat → Nat → Nat} {I O D : List (List Int)} {N n : Nat} (h : Stb w0 w bx G B I O D N n) (a i : Nat) (ha : a < 3) (hi : i < N) : w0.heap.size ≠ B a i := fun e =>
  Kd.R_ne (h.st.own a i ha hi) h.box (by decide) (by rw [e]; rfl)
theorem upd1 (I O D : List (List Int)) (i : Nat) (s : List Int) : (fun b => if b = 1 then (V3 I O D 1).set i s else V3 I O D b) = V3 I (O.set i s) D := by
  funext b
  unfold V3
  by_cases h0 : b = 0
  · simp [h0]
  · by_cases h1 : b = 1 <;> simp [h0, h1]
theorem upd0 (I O D : List (List Int)) (i : Nat) (s : List Int) : (fun b => if b = 0 then (V3 I O D 0).set i s else V3 I O D b) = V3 (I.set i s) O D := by
  funext b
  unfold V3
  by_cases h0 : b = 0
  · simp [h0]
  · by_cases h1 : b = 1 <;> simp [h0, h1]
/-- out[i].put(v). -/
theorem Stb.put {w0 w : World} {bx : Array Value} {G : Nat → Nat} {B : Nat → Nat → Nat} {I O D : List (List Int)} {N n : Nat} (h : Stb w0 w bx G B I O D N n) (i : Nat) (hi : i < N) (v : Int) (h0 : 0 ≤ v) (h1 : v < 64 * (n : Int)) (hn : n ≤ 144115188075855871) :
    Calls Tryd.prog 48 #[.slice (some ⟨B 1 i, 0, none⟩) n n, .int .i64 v] w fun e w' => e = .returned (.tuple #[]) ∧ Stb w0 w' bx G B I (O.set i (putG (rd_L2 O i) v)) D N n ∧ Kept w w' (fun b => b = B 1 i) := by
  refine (put_calls w0 w (B 1 i) n n _ v h.low (h.st.own 1 i (by decide) hi) h0 h1 hn).mono ?_
  rintro e w' ⟨rfl, hr, hb, hk⟩
  have hs := h.st.row 1 i (by decide) hi hk hr
  rw [upd1] at hs
  exact ⟨rfl, ⟨hs, hb, blk_kept h.box hk (box_ne h 1 i (by decide) hi)⟩, hk⟩
/-- And the row of nothing. -/
structure Sta (w0 w : World) (bx : Array Value) (G : Nat → Nat) (B : Nat → Nat → Nat) (gN : Nat) (I O D : List (List Int)) (N n : Nat) : Prop where
  b : Stb w0 w bx G B I O D N n
  none_ : Kd.R (Kd.int .u64) 47 w w0.heap.size (fun k => k = gN) (.slice (some ⟨gN, 0, none⟩) n n) (zerosG n)
  apart : ∀ a i, a < 3 → i < N → B a i ≠ gN
theorem Sta.below {w0 w W : World} {bx : Array Value} {G : Nat → Nat} {B : Nat → Nat → Nat} {gN : Nat} {I O D : List (List Int)} {N n : Nat} (h : Sta w0 w bx G B gN I O D N n) (hb : Below w.heap.size w W) : Sta w0 W bx G B gN I O D N n :=
  ⟨h.b.below hb, Kd.R_below h.none_ hb, h.apart⟩
theorem grown_kept {w W : World} {g : Nat} (h : w.grownBy W (some g)) : Kept w W (fun b => b = g) := ⟨h.size, fun i hi hn => h.block i hi (fun e => hn (Option.some.inj e))⟩
theorem join_n (base : Nat) (P : Nat → Prop) (g n c0 : Nat) (s : List Int) (A1 : Option Addr) (c1 : Nat) (a : List Int) (A2 : Option Addr) (c2 : Nat) (l : List Int) (w : World)
    (hs : s.length = n) (han : a.length = n) (hln : l.length = n) (ho : Kd.R (Kd.int .u64) 47 w base P (.slice (some ⟨g, 0, none⟩) n c0) s) (ha : ∀ W, w.grownBy W (some g) → Kd.C (Kd.int .u64) W A1 a.length a) (hl : ∀ W, w.grownBy W (some g) → Kd.C (Kd.int .u64) W A2 l.length l) :
    Calls Tryd.prog 50 #[.slice (some ⟨g, 0, none⟩) n c0, .slice A1 n c1, .slice A2 n c2] w fun e w' => e = .returned (.bool (joinQ s a l n)) ∧ Kd.R (Kd.int .u64) 47 w' base P (.slice (some ⟨g, 0, none⟩) n c0) (joinP s a l n) ∧ w.grownBy w' (some g) := by
  subst hs
  have := join_calls base P g c0 s A1 c1 a A2 c2 l w ho ha hl (by omega) (by omega)
  rw [han, hln] at this
  exact this
theorem R_len {w : World} {base n c : Nat} {P : Nat → Prop} {A : Option Addr} {s : List Int} (h : Kd.R (Kd.int .u64) 47 w base P (.slice A n c) s) : s.length = n := (Kd.R_reads' h).1.symm
theorem C_grown {w W : World} {base n c g k : Nat} {s : List Int} (h : Kd.R (Kd.int .u64) 47 w base (fun b => b = k) (.slice (some ⟨k, 0, none⟩) n c) s) (hg : w.grownBy W (some g)) (hne : k ≠ g) : Kd.C (Kd.int .u64) W (some ⟨k, 0, none⟩) s.length s := by
  have h2 := Kd.R_kept h (grown_kept hg) (fun b e1 e2 => hne (e1.symm.trans e2))
  have h3 := (Kd.R_reads' h2).2.2
  exact h3
/-- out[i].join(into[k], none). -/
theorem Sta.join_out {w0 w : World} {bx : Array Value} {G : Nat → Nat} {B : Nat → Nat → Nat} {gN : Nat} {I O D : List (List Int)} {N n : Nat} (h : Sta w0 w bx G B gN I O D N n) (i k : Nat) (hi : i < N) (hk : k < N) :
    Calls Tryd.prog 50 #[.slice (some ⟨B 1 i, 0, none⟩) n n, .slice (some ⟨B 0 k, 0, none⟩) n n, .slice (some ⟨gN, 0, none⟩) n n] w fun e w' => e = .returned (.bool (joinQ (rd_L2 O i) (rd_L2 I k) (zerosG n) n)) ∧ Sta w0 w' bx G B gN I (O.set i (joinP (rd_L2 O i) (rd_L2 I k) (zerosG n) n)) D N n ∧ Kept w w' (fun b => b = B 1 i) := by
  have ho := h.b.st.own 1 i (by decide) hi
  have hii := h.b.st.own 0 k (by decide) hk
  have e1 : rd_L2 (V3 I O D 1) i = rd_L2 O i := rfl
  have e0 : rd_L2 (V3 I O D 0) k = rd_L2 I k := rfl
  rw [e1] at ho
  rw [e0] at hii
  have hne : B 0 k ≠ B 1 i := fun e => absurd (h.b.st.inj 0 k 1 i (by decide) hk (by decide) hi e).1 (by decide)
  refine (join_n w0.heap.size (fun b => b = B 1 i) (B 1 i) n n _ _ n _ _ n _ w (R_len ho) (R_len hii) (R_len h.none_) ho (fun W hg => C_grown hii hg hne) (fun W hg => C_grown h.none_ hg (fun e => h.apart 1 i (by decide) hi e.symm))).mono ?_
  rintro e w' ⟨rfl, hr, hg⟩
  have hkp := grown_kept hg
  have hs := h.b.st.row 1 i (by decide) hi hkp hr
  rw [upd1] at hs
  refine ⟨rfl, ⟨⟨hs, ?_, blk_kept h.b.box hkp (box_ne h.b 1 i (by decide) hi)⟩, ?_, h.apart⟩, hkp⟩
  · exact h.b.low.grown hg h.b.low.size (fun k e => by cases e; exact Kd.R_base ho _ rfl)
  · exact Kd.R_kept h.none_ hkp (fun b e1 e2 => h.apart 1 i (by decide) hi (e2.symm.trans e1))
/-- into[i].join(out[i], does[i]). -/
theorem Sta.join_into {w0 w : World} {bx : Array Value} {G : Nat → Nat} {B : Nat → Nat → Nat} {gN : Nat} {I O D : List (List Int)} {N n : Nat} (h : Sta w0 w bx G B gN I O D N n) (i : Nat) (hi : i < N) :
    Calls Tryd.prog 50 #[.slice (some ⟨B 0 i, 0, none⟩) n n, .slice (some ⟨B 1 i, 0, none⟩) n n, .slice (some ⟨B 2 i, 0, none⟩) n n] w fun e w' => e = .returned (.bool (joinQ (rd_L2 I i) (rd_L2 O i) (rd_L2 D i) n)) ∧ Sta w0 w' bx G B gN (I.set i (joinP (rd_L2 I i) (rd_L2 O i) (rd_L2 D i) n)) O D N n ∧ Kept w w' (fun b => b = B 0 i) := by
  have ho := h.b.st.own 1 i (by decide) hi
  have hii := h.b.st.own 0 i (by decide) hi
  have hd := h.b.st.own 2 i (by decide) hi
  have e1 : rd_L2 (V3 I O D 1) i = rd_L2 O i := rfl
  have e0 : rd_L2 (V3 I O D 0) i = rd_L2 I i := rfl
  have e2 : rd_L2 (V3 I O D 2) i = rd_L2 D i := rfl
  rw [e1] at ho
  rw [e0] at hii
  rw [e2] at hd
  have hne : B 1 i ≠ B 0 i := fun e => absurd (h.b.st.inj 1 i 0 i (by decide) hi (by decide) hi e).1 (by decide)
  have hne2 : B 2 i ≠ B 0 i := fun e => absurd (h.b.st.inj 2 i 0 i (by decide) hi (by decide) hi e).1 (by decide)
  refine (join_n w0.heap.size (fun b => b = B 0 i) (B 0 i) n n _ _ n _ _ n _ w (R_len hii) (R_len ho) (R_len hd) hii (fun W hg => C_grown ho hg hne) (fun W hg => C_grown hd hg hne2)).mono ?_
  rintro e w' ⟨rfl, hr, hg⟩
  have hkp := grown_kept hg
  have hs := h.b.st.row 0 i (by decide) hi hkp hr
  rw [upd0] at hs
  refine ⟨rfl, ⟨⟨hs, ?_, blk_kept h.b.box hkp (box_ne h.b 0 i (by decide) hi)⟩, ?_, h.apart⟩, hkp⟩
  · exact h.b.low.grown hg h.b.low.size (fun k e => by cases e; exact Kd.R_base hii _ rfl)
  · exact Kd.R_kept h.none_ hkp (fun b e1 e2 => h.apart 0 i (by decide) hi (e2.symm.trans e1))
theorem Sta.join_outB {w0 w : World} {bx : Array Value} {G : Nat → Nat} {B : Nat → Nat → Nat} {gN : Nat} {I O D : List (List Int)} {N n : Nat} (h : Sta w0 w bx G B gN I O D N n) (i k : Nat) (hi : i < N) (hk : k < N) (b : Bool) (hb : joinQ (rd_L2 O i) (rd_L2 I k) (zerosG n) n = b) :
    Calls Tryd.prog 50 #[.slice (some ⟨B 1 i, 0, none⟩) n n, .slice (some ⟨B 0 k, 0, none⟩) n n, .slice (some ⟨gN, 0, none⟩) n n] w fun e w' => e = .returned (.bool b) ∧ Sta w0 w' bx G B gN I (O.set i (joinP (rd_L2 O i) (rd_L2 I k) (zerosG n) n)) D N n ∧ Kept w w' (fun b => b = B 1 i) := by
  subst hb
  exact h.join_out i k hi hk
theorem Sta.join_intoB {w0 w : World} {bx : Array Value} {G : Nat → Nat} {B : Nat → Nat → Nat} {gN : Nat} {I O D : List (List Int)} {N n : Nat} (h : Sta w0 w bx G B gN I O D N n) (i : Nat) (hi : i < N) (b : Bool) (hb : joinQ (rd_L2 I i) (rd_L2 O i) (rd_L2 D i) n = b) :
    Calls Tryd.prog 50 #[.slice (some ⟨B 0 i, 0, none⟩) n n, .slice (some ⟨B 1 i, 0, none⟩) n n, .slice (some ⟨B 2 i, 0, none⟩) n n] w fun e w' => e = .returned (.bool b) ∧ Sta w0 w' bx G B gN (I.set i (joinP (rd_L2 I i) (rd_L2 O i) (rd_L2 D i) n)) O D N n ∧ Kept w w' (fun b => b = B 0 i) := by
  subst hb
  exact h.join_into i hi
/-- A row of rows of the call's own: one of them. -/
theorem row_get {W : World} {base n cap : Nat} {ok : Nat → Prop} {ad : Addr} {rows : List (List Int)} (h : Kd.R (Kd.slice 3 (Kd.int .i64)) 22 W base ok (.slice (some ad) n cap) rows) (i : Int) (h0 : 0 ≤ i) (h1 : i < n) :
    ∃ A c, W.cell? (ad.add i.toNat) = some (.slice A (rd_L2 rows i).length c) ∧ Kd.R (Kd.int .i64) 3 W base ok (.slice A (rd_L2 rows i).length c) (rd_L2 rows i) := by
  obtain ⟨c, hc, ⟨v, rfl, hr⟩, hcell⟩ := Kd.R_get h ([] : List Int) i h0 h1
  obtain ⟨A, c, he, _⟩ := Kd.R_reads hr
  subst he
  have := hcell 0 _ rfl
  rw [show (Kd.slice 3 (Kd.int .i64)).sz = 1 from rfl, Nat.mul_one, Nat.add_zero] at this
  exact ⟨A, c, this, Kd.R_mono hr (fun k hk => hk.1)⟩
theorem wp_scope_jumps3 {P : Program} {a : Act} {w : World} {Q : Exit → Act → World → Prop} {c rest : Code} (l : Nat) (J : Nat → Act → World → Prop) (hf : findLabel c l = some rest)
    (pass : ∀ m a w, J m a w → rest.wp P (Exit.jump l (fun a' w' => ∃ m', m' < m ∧ J m' a' w') Q) a w)
    (first : (∀ m a w, J m a w → rest.wp P (Exit.jump l (fun a w => ∃ m, J m a w) Q) a w) → c.wp P (Exit.jump l (fun a w => ∃ m, J m a w) Q) a w) : (Code.scope c).wp P Q a w := by
  refine wp_scope_jumps2 l J hf (first fun m a w hJ => Code.wp_mono (fun e a' w' hq => ?_) (pass m a w hJ)) pass
  cases e with
  | goto l' =>
    obtain ⟨hl, m', _, hJ'⟩ := hq
    exact ⟨hl, m', hJ'⟩
  | _ => exact hq
end Go.Proofs.YtanhnfhpajaolaaDoor.Fo
/- live.Live: the rows that it makes. -/
namespace Go.Proofs.YtanhnfhpajaolaaDoor.Fo
open Go Go.RowKit Go.Proofs.YtanhnfhpajaolaaDoorW.PrintWords Go.Proofs.YtanhnfhpajaolaaDoorW.PrintLast Go.Proofs.YtanhnfhpajaolaaDoorW.PrintMore Go.Proofs.YtanhnfhpajaolaaDoor.F Go.Proofs.YtanhnfhpajaolaaDoor.Cf Go.Proofs.YtanhnfhpajaolaaDoor.Sc
set_option linter.unusedVariables false
set_option linter.unusedSimpArgs false
theorem info93 : (Tryd.prog.info? 93).map (fun i => (i.zero, i.size, i.bytes)) = some (some (.slice none 0 0), 1, 24) := by kernel_rfl
def nils (N : Nat) : Array Value := madeCells (Value.slice none 0 0).cells N
theorem nils_size (N : Nat) : (nils N).size = N := by simp [nils, size_madeCells]
theorem nils_get (N i : Nat) (h : i < N) : (nils N)[i]? = some (.slice none 0 0) := by
  have hs : i < (nils N).size := by rw [nils_size]; exact h
  rw [Array.getElem?_eq_getElem hs]
  simp [nils, madeCells, Value.cells, Nat.mod_one]
theorem make92 (N : Nat) (hN : N ≤ 1099511627776) : ∀ W : World, (Instr.makeSlice 92 (.int .i64 N) (.int .i64 N)).run Tryd.prog W = .ok (.slice (some ⟨W.heap.size, 0, none⟩) N N) (W.alloc (.cells (nils N) 93)) := by
  obtain ⟨i0, hi, hzz⟩ := Option.map_eq_some_iff.1 info93
  simp only [Prod.mk.injEq] at hzz
  obtain ⟨hz0, hz1, hz2⟩ := hzz
  intro W
  have hr := run_make (P := Tryd.prog) W 92 93 i0 _ Tryd.underlying92 hi hz0 .i64 .i64 (N : Int) (N : Int) (by omega) (by omega) (by rw [hz2]; omega) (by omega)
  rw [hz1, Nat.mul_one] at hr
  simpa [nils] using hr
theorem make31 (N : Nat) (hN : N ≤ 1099511627776) : ∀ W : World, (Instr.makeSlice 31 (.int .i64 N) (.int .i64 N)).run Tryd.prog W = .ok (.slice (some ⟨W.heap.size, 0, none⟩) N N) (W.alloc (.cells (nils N) 22)) := by
  obtain ⟨i0, hi, hzz⟩ := Option.map_eq_some_iff.1 info22
  simp only [Prod.mk.injEq] at hzz
  obtain ⟨hz0, hz1, hz2⟩ := hzz
  intro W
  have hr := run_make (P := Tryd.prog) W 31 22 i0 _ Tryd.underlying31 hi hz0 .i64 .i64 (N : Int) (N : Int) (by omega) (by omega) (by rw [hz2]; omega) (by omega)
  rw [hz1, Nat.mul_one] at hr
  simpa [nils] using hr
theorem bl3 (W : World) (o1 o2 o3 : Obj) : (((W.alloc o1).alloc o2).alloc o3).drew.heap[W.heap.size + 1 + 1]? = some o3 := by
  have := blk_new ((W.alloc o1).alloc o2) o3
  rw [size_al, size_al] at this
  exact this
theorem bl2 (W : World) (o1 o2 o3 : Obj) : (((W.alloc o1).alloc o2).alloc o3).drew.heap[W.heap.size + 1]? = some o2 := by
  have := blk_below (blk_new (W.alloc o1) o2) (below_alloc (Below.refl _ _) o3)
  rw [size_al] at this
  exact this
theorem bl1 (W : World) (o1 o2 o3 : Obj) : (((W.alloc o1).alloc o2).alloc o3).drew.heap[W.heap.size]? = some o1 := by
  have := blk_below (blk_below (blk_new W o1) (below_alloc (Below.refl _ _) o2)) (below_alloc (Below.refl _ _) o3)
  exact this
def Made92 (N : Nat) (W1 wx : World) (s6 s7 s8 : Value) : Prop := ∃ G : Nat → Nat, s6 = .slice (some ⟨G 0, 0, none⟩) N N ∧ s7 = .slice (some ⟨G 1, 0, none⟩) N N ∧ s8 = .slice (some ⟨G 2, 0, none⟩) N N ∧ (∀ a b, a < 3 → b < 3 → G a = G b → a = b) ∧ (∀ a, a < 3 → wx.heap[G a]? = some (.cells (nils N) 93 (0, 0))) ∧ (∀ a, a < 3 → W1.heap.size ≤ G a) ∧ Below W1.heap.size W1 wx
theorem made92 (N : Nat) (W1 : World) (p : Nat → Nat) (hp : ∀ a b, a < 3 → b < 3 → p a = p b → a = b) (hl : ∀ a, a < 3 → p a < 3) {a0 a1 a2 : Nat} (h0 : W1.heap.size + p 0 = a0) (h1 : W1.heap.size + p 1 = a1) (h2 : W1.heap.size + p 2 = a2) : Made92 N W1 (((W1.alloc (.cells (nils N) 93)).alloc (.cells (nils N) 93)).alloc (.cells (nils N) 93)).drew (.slice (some ⟨a0, 0, none⟩) N N) (.slice (some ⟨a1, 0, none⟩) N N) (.slice (some ⟨a2, 0, none⟩) N N) := by
  subst h0
  subst h1
  subst h2
  refine ⟨fun a => W1.heap.size + p a, rfl, rfl, rfl, fun a b ha hb h => hp a b ha hb (by simpa using h), fun a ha => ?_, fun a _ => Nat.le_add_right _ _, below_drew (below_alloc (below_alloc (below_alloc (Below.refl _ _) _) _) _)⟩
  have := hl a ha
  have hc : p a = 0 ∨ p a = 1 ∨ p a = 2 := by omega
  simp only
  rcases hc with h | h | h
  · rw [h]; exact bl1 W1 _ _ _
  · rw [h]; exact bl2 W1 _ _ _
  · rw [h]; exact bl3 W1 _ _ _
theorem pm012 (N : Nat) (W1 : World) : Made92 N W1 (((W1.alloc (.cells (nils N) 93)).alloc (.cells (nils N) 93)).alloc (.cells (nils N) 93)).drew (.slice (some ⟨W1.heap.size, 0, none⟩) N N) (.slice (some ⟨W1.heap.size + 1, 0, none⟩) N N) (.slice (some ⟨W1.heap.size + 1 + 1, 0, none⟩) N N) :=
  made92 N W1 (fun a => a) (fun a b _ _ h => h) (fun a h => h) rfl rfl rfl
theorem pm021 (N : Nat) (W1 : World) : Made92 N W1 (((W1.alloc (.cells (nils N) 93)).alloc (.cells (nils N) 93)).alloc (.cells (nils N) 93)).drew (.slice (some ⟨W1.heap.size, 0, none⟩) N N) (.slice (some ⟨W1.heap.size + 1 + 1, 0, none⟩) N N) (.slice (some ⟨W1.heap.size + 1, 0, none⟩) N N) :=
  made92 N W1 (fun a => if a = 0 then 0 else if a = 1 then 2 else 1) (fun a b ha hb h => by rcases lt3 ha with rfl | rfl | rfl <;> rcases lt3 hb with rfl | rfl | rfl <;> simp at h ⊢) (fun a ha => by rcases lt3 ha with rfl | rfl | rfl <;> decide) rfl rfl rfl
theorem pm102 (N : Nat) (W1 : World) : Made92 N W1 (((W1.alloc (.cells (nils N) 93)).alloc (.cells (nils N) 93)).alloc (.cells (nils N) 93)).drew (.slice (some ⟨W1.heap.size + 1, 0, none⟩) N N) (.slice (some ⟨W1.heap.size, 0, none⟩) N N) (.slice (some ⟨W1.heap.size + 1 + 1, 0, none⟩) N N) :=
  made92 N W1 (fun a => if a = 0 then 1 else if a = 1 then 0 else 2) (fun a b ha hb h => by rcases lt3 ha with rfl | rfl | rfl <;> rcases lt3 hb with rfl | rfl | rfl <;> simp at h ⊢) (fun a ha => by rcases lt3 ha with rfl | rfl | rfl <;> decide) rfl rfl rfl
theorem pm120 (N : Nat) (W1 : World) : Made92 N W1 (((W1.alloc (.cells (nils N) 93)).alloc (.cells (nils N) 93)).alloc (.cells (nils N) 93)).drew (.slice (some ⟨W1.heap.size + 1, 0, none⟩) N N) (.slice (some ⟨W1.heap.size + 1 + 1, 0, none⟩) N N) (.slice (some ⟨W1.heap.size, 0, none⟩) N N) :=
  made92 N W1 (fun a => if a = 0 then 1 else if a = 1 then 2 else 0) (fun a b ha hb h => by rcases lt3 ha with rfl | rfl | rfl <;> rcases lt3 hb with rfl | rfl | rfl <;> simp at h ⊢) (fun a ha => by rcases lt3 ha with rfl | rfl | rfl <;> decide) rfl rfl rfl
theorem pm201 (N : Nat) (W1 : World) : Made92 N W1 (((W1.alloc (.cells (nils N) 93)).alloc (.cells (nils N) 93)).alloc (.cells (nils N) 93)).drew (.slice (some ⟨W1.heap.size + 1 + 1, 0, none⟩) N N) (.slice (some ⟨W1.heap.size, 0, none⟩) N N) (.slice (some ⟨W1.heap.size + 1, 0, none⟩) N N) :=
  made92 N W1 (fun a => if a = 0 then 2 else if a = 1 then 0 else 1) (fun a b ha hb h => by rcases lt3 ha with rfl | rfl | rfl <;> rcases lt3 hb with rfl | rfl | rfl <;> simp at h ⊢) (fun a ha => by rcases lt3 ha with rfl | rfl | rfl <;> decide) rfl rfl rfl
theorem pm210 (N : Nat) (W1 : World) : Made92 N W1 (((W1.alloc (.cells (nils N) 93)).alloc (.cells (nils N) 93)).alloc (.cells (nils N) 93)).drew (.slice (some ⟨W1.heap.size + 1 + 1, 0, none⟩) N N) (.slice (some ⟨W1.heap.size + 1, 0, none⟩) N N) (.slice (some ⟨W1.heap.size, 0, none⟩) N N) :=
  made92 N W1 (fun a => if a = 0 then 2 else if a = 1 then 1 else 0) (fun a b ha hb h => by rcases lt3 ha with rfl | rfl | rfl <;> rcases lt3 hb with rfl | rfl | rfl <;> simp at h ⊢) (fun a ha => by rcases lt3 ha with rfl | rfl | rfl <;> decide) rfl rfl rfl
/-- Nothing told yet. -/
theorem sts_zero {base N n : Nat} {w : World} {G : Nat → Nat} (hG : ∀ a b, a < 3 → b < 3 → G a = G b → a = b) (hc : ∀ a, a < 3 → w.heap[G a]? = some (.cells (nils N) 93 (0, 0))) : Sts base w G (fun _ _ => 0) (V3 [] [] []) N n (fun _ => 0) where
  outer a ha := ⟨nils N, hc a ha, nils_size N, fun i hi => absurd hi (Nat.not_lt_zero i)⟩
  len a ha := by rcases lt3 ha with rfl | rfl | rfl <;> rfl
  own a i _ hi := absurd hi (Nat.not_lt_zero i)
  inj a i b j _ hi := absurd hi (Nat.not_lt_zero i)
  injG := hG
end Go.Proofs.YtanhnfhpajaolaaDoor.Fo
/- live.Live: one round of its first loop tells a set of each row. -/
namespace Go.Proofs.YtanhnfhpajaolaaDoor.Fo
open Go Go.RowKit Go.Proofs.YtanhnfhpajaolaaDoorW.PrintWords Go.Proofs.YtanhnfhpajaolaaDoorW.PrintLast Go.Proofs.YtanhnfhpajaolaaDoorW.PrintMore Go.Proofs.YtanhnfhpajaolaaDoor.F Go.Proofs.YtanhnfhpajaolaaDoor.Cf Go.Proofs.YtanhnfhpajaolaaDoor.Sc
set_option linter.unusedVariables false
set_option linter.unusedSimpArgs false
theorem hty47 {t : Nat} (h : t ≠ 47) : ∀ q, q ∈ 47 :: (Kd.int .u64).E → q ≠ t := by
  intro q hq
  have : q = 47 := by simpa [Kd.int, Kd.scalar] using hq
  omega
theorem size_set (w : World) (p : Addr) (u : Value) : (w.setCell p u).heap.size = w.heap.size := by simp [World.setCell]
theorem Sts.three {base : Nat} {w : World} {G : Nat → Nat} {B : Nat → Nat → Nat} {I O D : List (List Int)} {N n k : Nat} (h : Sts base w G B (V3 I O D) N n (fun _ => k)) (hk : k < N) {gA gD : Nat} {s0 s2 : List Int}
    (hra : Kd.R (Kd.int .u64) 47 w base (fun b => b = gA) (.slice (some ⟨gA, 0, none⟩) n n) s0) (hrd : Kd.R (Kd.int .u64) 47 w base (fun b => b = gD) (.slice (some ⟨gD, 0, none⟩) n n) s2) (hAD : gA ≠ gD)
    (hA : ∀ b i, b < 3 → i < k → B b i ≠ gA) (hD : ∀ b i, b < 3 → i < k → B b i ≠ gD) (hn : n ≤ 35184372088832) {Z : Array Value} (hZ : Z.toList = encs (Value.int .u64) (List.replicate n 0)) (hbase : base ≤ w.heap.size) :
    ∃ B', Sts base ((((w.setCell ⟨G 0, k, none⟩ (.slice (some ⟨gA, 0, none⟩) n n)).setCell ⟨G 2, k, none⟩ (.slice (some ⟨gD, 0, none⟩) n n)).alloc (.cells Z 47)).setCell ⟨G 1, k, none⟩ (.slice (some ⟨w.heap.size, 0, none⟩) n n)) G B' (V3 (I ++ [s0]) (O ++ [zerosG n]) (D ++ [s2])) N n (fun _ => k + 1) := by
  obtain ⟨cs0, ho0, _⟩ := h.outer 0 (by decide)
  have hltA := Kd.R_lt hra gA rfl
  have hltD := Kd.R_lt hrd gD rfl
  have h1 := h.put 0 gA (by decide) hk hra (fun b i hb hi => hA b i hb hi)
  have hrd1 := Kd.R_set hrd ho0 (hty47 (by decide)) k (.slice (some ⟨gA, 0, none⟩) n n)
  obtain ⟨cs2, ho2, _⟩ := h1.outer 2 (by decide)
  have h2 := h1.put 2 gD (by decide) hk hrd1 (fun b i hb hi => by
    by_cases e : b = 0 ∧ i = k
    · rw [if_pos e]; exact hAD
    · rw [if_neg e]
      refine hD b i hb ?_
      split at hi
      · rename_i e0
        have : i ≠ k := fun e1 => e ⟨e0, e1⟩
        omega
      · exact hi)
  rw [show (if (2 : Nat) = 0 then k + 1 else k) = k from rfl] at h2
  have h3 := h2.below (below_alloc (Below.refl _ _) (.cells Z 47))
  have hz := own_zeros n hn hZ base ((w.setCell ⟨G 0, k, none⟩ (.slice (some ⟨gA, 0, none⟩) n n)).setCell ⟨G 2, k, none⟩ (.slice (some ⟨gD, 0, none⟩) n n)) (by rw [size_set, size_set]; exact hbase)
  rw [size_set, size_set] at hz
  have h4 := h3.put 1 w.heap.size (by decide) hk hz (fun b i hb hi => by
    have hlt := h2.lt b i hb hi
    rw [size_set, size_set] at hlt
    exact Nat.ne_of_lt hlt)
  rw [show (if (1 : Nat) = 2 then k + 1 else if (1 : Nat) = 0 then k + 1 else k) = k from rfl] at h4
  refine ⟨_, h4.congr (fun a ha => ?_) (fun a ha => ?_)⟩
  · rcases lt3 ha with rfl | rfl | rfl <;> rfl
  · rcases lt3 ha with rfl | rfl | rfl <;> rfl
def blank0 (g : S28) : List (List Int) := g.f5.map fun _ => zerosG (sizeN g)
theorem take_map {α : Type} (f : S43 → α) (l : List S43) {k : Nat} (h : k < l.length) : (l.map f).take (k + 1) = (l.map f).take k ++ [f l[k]] := by
  rw [List.take_succ_eq_append_getElem (by rw [List.length_map]; exact h)]
  simp
theorem take_into0 (g : S28) {k : Nat} (h : k < g.f5.length) : (into0 g).take (k + 1) = (into0 g).take k ++ [(blkG g.f5[k] (sizeN g)).1] := take_map _ _ h
theorem take_does0 (g : S28) {k : Nat} (h : k < g.f5.length) : (does0 g).take (k + 1) = (does0 g).take k ++ [(blkG g.f5[k] (sizeN g)).2] := take_map _ _ h
theorem take_blank0 (g : S28) {k : Nat} (h : k < g.f5.length) : (blank0 g).take (k + 1) = (blank0 g).take k ++ [zerosG (sizeN g)] := take_map _ _ h
end Go.Proofs.YtanhnfhpajaolaaDoor.Fo
-- printed by px2.py, a program of this session, by way of the kit's print; Lean checks it
namespace Go.Proofs.YtanhnfhpajaolaaDoor.F
open Go.RowKit Go.Proofs.YtanhnfhpajaolaaDoorW.PrintWords Go.Proofs.YtanhnfhpajaolaaDoorW.PrintLast Go.Proofs.YtanhnfhpajaolaaDoorW.PrintMore
attribute [local go_sem] max2_int min2_int max_two min_two max_three min_three max_four min_four   -- for this text's walks alone
set_option linter.unusedVariables false
set_option linter.unusedSimpArgs false

/-! ### live_set_list: function 51 -/
def live_set_list.l0 : Nat → List Int → List Int → Int → Int → Option (List Int)
  | 0, _, _, _, _ => none
  | k + 1, x0, x5, x7, x8 => if x8 < x7 then ((live_set_has.f x0 x8).bind fun t244 => (if t244 = true then (if x5.length < 17592186044416 then (live_set_list.l0 k x0 (x5 ++ [x8]) x7 (wrap64 (x8 + 1))) else (none)) else (live_set_list.l0 k x0 x5 x7 (wrap64 (x8 + 1))))) else (some x5)
def live_set_list.f (k : Nat) (l0 : List Int) (a1 : Int) : Option (List Int) := live_set_list.l0 k l0 ([] : List Int) a1 0
theorem live_set_list.mono_l : ∀ k, (∀ y0 y1 y2 y3, LeO (live_set_list.l0 k y0 y1 y2 y3) (live_set_list.l0 (k + 1) y0 y1 y2 y3))
  | 0 => fun _ _ _ _ r h => by simp [live_set_list.l0] at h
  | k + 1 => by
    have ih0 := live_set_list.mono_l k
    · intro y0 y1 y2 y3
      unfold live_set_list.l0
      repeat' first
      | (with_reducible exact ih0 _ _ _ _)
      | (with_reducible exact LeO.refl _)
      | (with_reducible exact LeO.none _)
      | (with_reducible refine LeO.ite ?_ ?_)
      | (with_reducible refine LeO.bind ?_ (fun _ => ?_))
      | exact ih0 _ _ _ _
      | exact LeO.none _
      | refine LeO.ite ?_ ?_
      | refine LeO.bind ?_ (fun _ => ?_)
theorem live_set_list.mono : ∀ a0 a1 k, LeO (live_set_list.f k a0 a1) (live_set_list.f (k + 1) a0 a1) := by
  intro a0 a1 k
  have ih0 := live_set_list.mono_l k
  unfold live_set_list.f
  repeat' first
      | (with_reducible exact ih0 _ _ _ _)
      | (with_reducible exact LeO.refl _)
      | (with_reducible exact LeO.none _)
      | (with_reducible refine LeO.ite ?_ ?_)
      | (with_reducible refine LeO.bind ?_ (fun _ => ?_))
      | exact ih0 _ _ _ _
      | exact LeO.none _
      | refine LeO.ite ?_ ?_
      | refine LeO.bind ?_ (fun _ => ?_)
set_option maxHeartbeats 8000000 in
set_option maxRecDepth 100000 in
theorem live_set_list.calls (k : Nat) (A0 : Option Addr) (c0 : Nat) (l0 : List Int) (a1 : Int) (r : List Int) (w : World) (hr0 : Kd.C (Kd.int .u64) w A0 l0.length l0) (hc0 : l0.length ≤ c0) (h : live_set_list.f k l0 a1 = some r) :
    Calls Tryd.prog 51 #[.slice A0 l0.length c0, .int .i64 a1] w fun e w' => ∃ v0_ : Value, e = .returned (v0_) ∧ Kd.R (Kd.int .i64) 3 w' w.heap.size (fun _ => True) v0_ r ∧ Below w.heap.size w w' := by
 have HR0 := Aside0.mk hr0
 have HC0 := Aside0.mk hc0
 clear hr0 hc0
 have HB := Aside0.mk (Below.refl w.heap.size w)
 have H : (live_set_list.l0 k l0 ([] : List Int) a1 0) = some r := h
 clear h
 have H' := Aside0.mk H
 clear H
 go_enter Tryd.func51, Tryd.ntmps51
 go_wp2
 go_loopg [5, 8] k (fun kq v5 v8 w' => ∃ (x5_1 : List Int) (x8_1 : Int), v8 = .int .i64 x8_1 ∧ Aside0 (live_set_list.l0 kq l0 x5_1 a1 x8_1 = some r) ∧ Aside0 (kq ≤ k) ∧ Aside0 (Kd.R (Kd.int .i64) 3 w' w.heap.size (fun _ => True) v5 x5_1) ∧ Aside0 (Below w.heap.size w w'))
 case atStart => exact ⟨(([] : List Int)), (0), (by first | rfl | (simp; done) | (simp [*]; done)), H', ⟨Nat.le_refl _⟩, ⟨by first | exact Kd.R_nil _ _ _ _ _ | exact Kd.N_nil _ _ _ _ _ | exact Kd.V_nil _ _ _ _ _ | exact Kd.Q_nil _ _ _ _ _ | exact Kd.S_nil _ _ _ _ _⟩, ⟨by repeat (first | (with_reducible first | exact HB.out | apply below_alloc | apply pw_below_drewN | apply below_drew1) | exact HB.out)⟩⟩
 case round =>
  clear H'
  try clear p2
  obtain ⟨x5_1, x8_1, rfl, HA, HK1, HO_5, HB⟩ := hrel
  cases gk with
  | zero => exact absurd HA.out (by simp [live_set_list.l0])
  | succ k1 =>
   have H := HA.out
   clear HA
   simp only [live_set_list.l0] at H
   by_cases c3 : x8_1 < a1
   ·
    rw [if_pos c3] at H
    have c3b0 : decide (x8_1 < a1) = true := decide_eq_true c3
    clear c3
    replace H := Option.bind_eq_some_iff.mp H
    obtain ⟨t244, A40, H⟩ := H
    replace H : (if t244 = true then (if x5_1.length < 17592186044416 then (live_set_list.l0 k1 l0 (x5_1 ++ [x8_1]) a1 (wrap64 (x8_1 + 1))) else (none)) else (live_set_list.l0 k1 l0 x5_1 a1 (wrap64 (x8_1 + 1)))) = some r := H
    have A4 := Aside0.mk A40
    clear A40
    have HF5 := Aside0.mk H
    clear H
    go_upto_if 13 with (first | ((with_reducible refine gate_callee (f := 78) rfl ?_); refine goesL_ (some 13) rfl rfl Tryd.func78 (by kernel_rfl) rfl #[.slice A0 l0.length c0, .int .i64 x8_1] rfl (by (try simp only [List.map_toArray, List.map_cons, List.map_nil]); first | done | rfl | (simp only [List.length_drop, List.length_take]; rfl)) ?_; (with_reducible refine (live_set_has.calls _ _ l0 x8_1 t244 _ ?side1 ?side2 A4.out).mono ?_); (case side1 => repeat (first | exact (Kd.C_below HR0.out HB.out) | (with_reducible refine Kd.C_alloc ?_ _) | (with_reducible refine Kd.C_drewN ?_ _) | (with_reducible refine Kd.C_drew ?_))); (case side2 => exact HC0.out); rintro e w' ⟨rfl, ⟨nd, rfl⟩⟩; refine ⟨_, rfl, ?_⟩))
    (try simp only [Act.put, List.setIfInBounds_toArray, List.set_cons_zero, List.set_cons_succ])
    have H := HF5.out
    clear HF5
    by_cases c6 : t244 = true
    ·
     subst c6
     have H1 : (if x5_1.length < 17592186044416 then (live_set_list.l0 k1 l0 (x5_1 ++ [x8_1]) a1 (wrap64 (x8_1 + 1))) else (none)) = some r := by rw [if_pos rfl] at H; exact H
     clear H
     have H := H1
     clear H1
     by_cases c7 : x5_1.length < 17592186044416
     ·
      rw [if_pos c7] at H
      have LMc7 := Aside0.mk c7
      clear c7
      obtain ⟨y245, hy245⟩ : ∃ y_ : List Int, y_ = (x5_1 ++ [x8_1]) := ⟨_, rfl⟩
      replace H : (live_set_list.l0 k1 l0 y245 a1 (wrap64 (x8_1 + 1))) = some r := by first | (rw [hy245]; with_reducible exact H) | (have H2_ := (Option.bind_some _ _).symm.trans H; rw [hy245]; with_reducible exact H2_) | (have H2_ := (Option.bind_some _ _).symm.trans H; with_reducible exact H2_) | with_reducible exact H | (rw [hy245]; exact H) | exact H
      have Ny245 := Aside0.mk hy245
      clear hy245
      have H' := Aside0.mk H
      clear H
      go_wp2_with (first | ((with_reducible refine gate_builtin (b := .append) (xs := #[.tmp 14, .tmp 16]) rfl ?_); at_builtin; refine Kd.R_append (Kd.int .i64) (w0 := w) w.heap.size rfl (.tmp 14) (.tmp 16) 22 3 (.int .i64 0) 8 rfl Tryd.underlying22 info3 rfl (by decide) (by omega) u5 x5_1 x8_1 [.int .i64 x8_1] (fun _ => True) (fun _ => False) rfl rfl ?aP (fun _ hk => hk.elim) ?aF ?aO ?aB ?aS ?aL ?_; (case aP => exact rfl); (case aB => exact (by repeat (first | (with_reducible first | exact HB.out | apply below_alloc | apply pw_below_drewN | apply below_drew1) | exact HB.out))); (case aF => exact (fun _ _ => trivial)); (case aO => exact (by (with_reducible repeat (first | apply Kd.R_alloc | apply Kd.R_drewN | apply Kd.R_drew)); exact HO_5.out)); (case aS => exact (below_size (by repeat (first | (with_reducible first | exact HB.out | apply below_alloc | apply pw_below_drewN | apply below_drew1) | exact HB.out)))); (case aL => have := LMc7.out; omega); intro v246 w8 ho hb hg hat; rw [← Ny245.out] at ho; have n0_ := Aside0.mk (hb); have n1_ := Aside0.mk (ho); clear HB; clear HO_5; have HB := n0_; have HO247 := n1_; clear n0_ n1_; clear ho hb hg hat))
      go_roundg k1
      case measure => have := HK1.out; omega
      case rel => exact ⟨(y245), (wrap64 (x8_1 + 1)), (by first | rfl | (simp; done) | (simp [*]; done)), H', ⟨by have := HK1.out; omega⟩, ⟨by (with_reducible repeat (first | apply Kd.R_alloc | apply Kd.R_drewN | apply Kd.R_drew)); exact HO247.out⟩, ⟨by repeat (first | (with_reducible first | exact HB.out | apply below_alloc | apply pw_below_drewN | apply below_drew1) | exact HB.out)⟩⟩
     ·
      rw [if_neg c7] at H
      exact absurd H (by simp)
    ·
     replace c6 := Bool.eq_false_iff.mpr c6
     subst c6
     have H1 : (live_set_list.l0 k1 l0 x5_1 a1 (wrap64 (x8_1 + 1))) = some r := by rw [if_neg (show ¬ (false = true) by decide)] at H; exact H
     clear H
     have H := H1
     clear H1
     have H' := Aside0.mk H
     clear H
     go_wp2
     go_roundg k1
     case measure => have := HK1.out; omega
     case rel => exact ⟨(x5_1), (wrap64 (x8_1 + 1)), (by first | rfl | (simp; done) | (simp [*]; done)), H', ⟨by have := HK1.out; omega⟩, ⟨by (with_reducible repeat (first | apply Kd.R_alloc | apply Kd.R_drewN | apply Kd.R_drew)); exact HO_5.out⟩, ⟨by repeat (first | (with_reducible first | exact HB.out | apply below_alloc | apply pw_below_drewN | apply below_drew1) | exact HB.out)⟩⟩
   ·
    rw [if_neg c3] at H
    have c3b0 : decide (x8_1 < a1) = false := decide_eq_false c3
    clear c3
    obtain rfl := Option.some.inj H
    go_wp2
    go_ret
    exact ⟨_, by first | rfl | (simp <;> rfl) | (simp [*] <;> rfl), by (with_reducible repeat (first | apply Kd.R_alloc | apply Kd.R_drewN | apply Kd.R_drew)); exact HO_5.out, by repeat (first | (with_reducible first | exact HB.out | apply below_alloc | apply pw_below_drewN | apply below_drew1) | exact HB.out)⟩

end Go.Proofs.YtanhnfhpajaolaaDoor.F
/- live.Live: what holds at its label; from there on. -/
namespace Go.Proofs.YtanhnfhpajaolaaDoor.Fo
open Go Go.RowKit Go.Proofs.YtanhnfhpajaolaaDoorW.PrintWords Go.Proofs.YtanhnfhpajaolaaDoorW.PrintLast Go.Proofs.YtanhnfhpajaolaaDoorW.PrintMore Go.Proofs.YtanhnfhpajaolaaDoor.F Go.Proofs.YtanhnfhpajaolaaDoor.Cf Go.Proofs.YtanhnfhpajaolaaDoor.Sc
set_option linter.unusedVariables false
set_option linter.unusedSimpArgs false
theorem list_fn (l : List Value) : l = (List.range l.length).map fun i => l.getD i undef := by
  apply List.ext_getElem
  · simp
  · intro i h1 h2
    simp [List.getD_eq_getElem?_getD, h1]
set_option maxHeartbeats 4000000 in
set_option maxRecDepth 100000 in
theorem lj_frame (l : List Value) (p1 p5 p6 p7 p8 p17 : Value) (hsz : l.length = 204) (h1 : l.getD 1 undef = p1) (h5 : l.getD 5 undef = p5) (h6 : l.getD 6 undef = p6) (h7 : l.getD 7 undef = p7) (h8 : l.getD 8 undef = p8) (h17 : l.getD 17 undef = p17) :
    ∃ uu : Nat → Value, ({ tmps := l.toArray, defers := [] } : Act) = { tmps := (uu 0 :: p1 :: uu 2 :: uu 3 :: uu 4 :: p5 :: p6 :: p7 :: p8 :: uu 9 :: uu 10 :: uu 11 :: uu 12 :: uu 13 :: uu 14 :: uu 15 :: uu 16 :: p17 :: uu 18 :: uu 19 :: uu 20 :: uu 21 :: uu 22 :: uu 23 :: uu 24 :: uu 25 :: uu 26 :: uu 27 :: uu 28 :: uu 29 :: uu 30 :: uu 31 :: uu 32 :: uu 33 :: uu 34 :: uu 35 :: uu 36 :: uu 37 :: uu 38 :: uu 39 :: uu 40 :: uu 41 :: uu 42 :: uu 43 :: uu 44 :: uu 45 :: uu 46 :: uu 47 :: uu 48 :: uu 49 :: uu 50 :: uu 51 :: uu 52 :: uu 53 :: uu 54 :: uu 55 :: uu 56 :: uu 57 :: uu 58 :: uu 59 :: uu 60 :: uu 61 :: uu 62 :: uu 63 :: uu 64 :: uu 65 :: uu 66 :: uu 67 :: uu 68 :: uu 69 :: uu 70 :: uu 71 :: uu 72 :: uu 73 :: uu 74 :: uu 75 :: uu 76 :: uu 77 :: uu 78 :: uu 79 :: uu 80 :: uu 81 :: uu 82 :: uu 83 :: uu 84 :: uu 85 :: uu 86 :: uu 87 :: uu 88 :: uu 89 :: uu 90 :: uu 91 :: uu 92 :: uu 93 :: uu 94 :: uu 95 :: uu 96 :: uu 97 :: uu 98 :: uu 99 :: uu 100 :: uu 101 :: uu 102 :: uu 103 :: uu 104 :: uu 105 :: uu 106 :: uu 107 :: uu 108 :: uu 109 :: uu 110 :: uu 111 :: uu 112 :: uu 113 :: uu 114 :: uu 115 :: uu 116 :: uu 117 :: uu 118 :: uu 119 :: uu 120 :: uu 121 :: uu 122 :: uu 123 :: uu 124 :: uu 125 :: uu 126 :: uu 127 :: uu 128 :: uu 129 :: uu 130 :: uu 131 :: uu 132 :: uu 133 :: uu 134 :: uu 135 :: uu 136 :: uu 137 :: uu 138 :: uu 139 :: uu 140 :: uu 141 :: uu 142 :: uu 143 :: uu 144 :: uu 145 :: uu 146 :: uu 147 :: uu 148 :: uu 149 :: uu 150 :: uu 151 :: uu 152 :: uu 153 :: uu 154 :: uu 155 :: uu 156 :: uu 157 :: uu 158 :: uu 159 :: uu 160 :: uu 161 :: uu 162 :: uu 163 :: uu 164 :: uu 165 :: uu 166 :: uu 167 :: uu 168 :: uu 169 :: uu 170 :: uu 171 :: uu 172 :: uu 173 :: uu 174 :: uu 175 :: uu 176 :: uu 177 :: uu 178 :: uu 179 :: uu 180 :: uu 181 :: uu 182 :: uu 183 :: uu 184 :: uu 185 :: uu 186 :: uu 187 :: uu 188 :: uu 189 :: uu 190 :: uu 191 :: uu 192 :: uu 193 :: uu 194 :: uu 195 :: uu 196 :: uu 197 :: uu 198 :: uu 199 :: uu 200 :: uu 201 :: uu 202 :: uu 203 :: []).toArray, defers := [] } := by
  have e : l = (List.range 204).map fun i => l.getD i undef := by
    have := list_fn l
    rw [hsz] at this
    exact this
  obtain ⟨uu, hu⟩ : ∃ uu : Nat → Value, uu = fun i => l.getD i undef := ⟨_, rfl⟩
  have q1 : uu 1 = p1 := by rw [hu]; exact h1
  have q5 : uu 5 = p5 := by rw [hu]; exact h5
  have q6 : uu 6 = p6 := by rw [hu]; exact h6
  have q7 : uu 7 = p7 := by rw [hu]; exact h7
  have q8 : uu 8 = p8 := by rw [hu]; exact h8
  have q17 : uu 17 = p17 := by rw [hu]; exact h17
  rw [← hu] at e
  refine ⟨uu, ?_⟩
  rw [← q1, ← q5, ← q6, ← q7, ← q8, ← q17, e]
  rfl
def scopeOf (f : Func) : Code := match f.body with
  | some (.seq _ (.scope c)) => c
  | _ => .skip
def restOf (f : Func) (l : Nat) : Code := (findLabel (scopeOf f) l).getD .skip
def tailOf (f : Func) (l : Nat) : Code := match restOf f l with
  | .seq _ b => b
  | c => c
set_option maxRecDepth 100000 in
/-- What holds at live.Live's label; m: how many passes may be left. -/
def LJ (w : World) (g : S28) (bx : Array Value) (res : List (List Int) × List (List Int)) (m : Nat) (a' : Act) (w' : World) : Prop :=
  ∃ (G : Nat → Nat) (B : Nat → Nat → Nat) (gN : Nat) (s : List (List Int) × List (List Int)), Aside0 (loopJ g.f5 (does0 g) (zerosG (sizeN g)) m s = some res) ∧ Aside0 (Sta w w' bx G B gN s.1 s.2 (does0 g) g.f5.length (sizeN g)) ∧ ∃ uu : Nat → Value, a' = { tmps := (uu 0 :: (.pointer (some ⟨w.heap.size, 0, none⟩) : Value) :: uu 2 :: uu 3 :: uu 4 :: (.int .i64 (sizeN g : Nat) : Value) :: (.slice (some ⟨G 0, 0, none⟩) g.f5.length g.f5.length : Value) :: (.slice (some ⟨G 1, 0, none⟩) g.f5.length g.f5.length : Value) :: (.slice (some ⟨G 2, 0, none⟩) g.f5.length g.f5.length : Value) :: uu 9 :: uu 10 :: uu 11 :: uu 12 :: uu 13 :: uu 14 :: uu 15 :: uu 16 :: (.slice (some ⟨gN, 0, none⟩) (sizeN g) (sizeN g) : Value) :: uu 18 :: uu 19 :: uu 20 :: uu 21 :: uu 22 :: uu 23 :: uu 24 :: uu 25 :: uu 26 :: uu 27 :: uu 28 :: uu 29 :: uu 30 :: uu 31 :: uu 32 :: uu 33 :: uu 34 :: uu 35 :: uu 36 :: uu 37 :: uu 38 :: uu 39 :: uu 40 :: uu 41 :: uu 42 :: uu 43 :: uu 44 :: uu 45 :: uu 46 :: uu 47 :: uu 48 :: uu 49 :: uu 50 :: uu 51 :: uu 52 :: uu 53 :: uu 54 :: uu 55 :: uu 56 :: uu 57 :: uu 58 :: uu 59 :: uu 60 :: uu 61 :: uu 62 :: uu 63 :: uu 64 :: uu 65 :: uu 66 :: uu 67 :: uu 68 :: uu 69 :: uu 70 :: uu 71 :: uu 72 :: uu 73 :: uu 74 :: uu 75 :: uu 76 :: uu 77 :: uu 78 :: uu 79 :: uu 80 :: uu 81 :: uu 82 :: uu 83 :: uu 84 :: uu 85 :: uu 86 :: uu 87 :: uu 88 :: uu 89 :: uu 90 :: uu 91 :: uu 92 :: uu 93 :: uu 94 :: uu 95 :: uu 96 :: uu 97 :: uu 98 :: uu 99 :: uu 100 :: uu 101 :: uu 102 :: uu 103 :: uu 104 :: uu 105 :: uu 106 :: uu 107 :: uu 108 :: uu 109 :: uu 110 :: uu 111 :: uu 112 :: uu 113 :: uu 114 :: uu 115 :: uu 116 :: uu 117 :: uu 118 :: uu 119 :: uu 120 :: uu 121 :: uu 122 :: uu 123 :: uu 124 :: uu 125 :: uu 126 :: uu 127 :: uu 128 :: uu 129 :: uu 130 :: uu 131 :: uu 132 :: uu 133 :: uu 134 :: uu 135 :: uu 136 :: uu 137 :: uu 138 :: uu 139 :: uu 140 :: uu 141 :: uu 142 :: uu 143 :: uu 144 :: uu 145 :: uu 146 :: uu 147 :: uu 148 :: uu 149 :: uu 150 :: uu 151 :: uu 152 :: uu 153 :: uu 154 :: uu 155 :: uu 156 :: uu 157 :: uu 158 :: uu 159 :: uu 160 :: uu 161 :: uu 162 :: uu 163 :: uu 164 :: uu 165 :: uu 166 :: uu 167 :: uu 168 :: uu 169 :: uu 170 :: uu 171 :: uu 172 :: uu 173 :: uu 174 :: uu 175 :: uu 176 :: uu 177 :: uu 178 :: uu 179 :: uu 180 :: uu 181 :: uu 182 :: uu 183 :: uu 184 :: uu 185 :: uu 186 :: uu 187 :: uu 188 :: uu 189 :: uu 190 :: uu 191 :: uu 192 :: uu 193 :: uu 194 :: uu 195 :: uu 196 :: uu 197 :: uu 198 :: uu 199 :: uu 200 :: uu 201 :: uu 202 :: uu 203 :: []).toArray, defers := [] }
/-- What live.Live hands back. -/
def LQ (w : World) (r : List (List Int) × List (List Int)) (e : Ending) (w' : World) : Prop := ∃ va vb, e = .returned (.tuple #[va, vb, .int .i64 0]) ∧ Kd.S (Kd.slice 3 (Kd.int .i64)) 22 w' w.heap.size (fun k => some k ≠ vb.ownBlock) va r.1 ∧ Kd.S (Kd.slice 3 (Kd.int .i64)) 22 w' w.heap.size (fun k => some k ≠ va.ownBlock) vb r.2 ∧ Below w.heap.size w w'
end Go.Proofs.YtanhnfhpajaolaaDoor.Fo
