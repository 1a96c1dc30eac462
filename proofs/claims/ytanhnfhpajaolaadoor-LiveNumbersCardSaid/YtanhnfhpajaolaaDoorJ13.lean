/- Texts of this proof, joined in build order: Lv, Lf, Fxf19, Fxf17. -/
import Derived.Test.YtanhnfhpajaolaaDoorJ07
import Derived.Test.YtanhnfhpajaolaaDoorJ10
import Derived.Test.YtanhnfhpajaolaaDoorJ12
import Derived.Scope
import Derived.ScopeJumps
import Derived.Test.YtanhnfhpajaolaaDoorJ00
import Derived.Test.YtanhnfhpajaolaaDoorJ01
/- live.Live. -/
namespace Go.Proofs.YtanhnfhpajaolaaDoor.Fo
open Go Go.RowKit Go.Proofs.YtanhnfhpajaolaaDoorW.PrintWords Go.Proofs.YtanhnfhpajaolaaDoorW.PrintLast Go.Proofs.YtanhnfhpajaolaaDoorW.PrintMore Go.Proofs.YtanhnfhpajaolaaDoor.F Go.Proofs.YtanhnfhpajaolaaDoor.Cf Go.Proofs.YtanhnfhpajaolaaDoor.Sc
set_option linter.unusedVariables false
set_option linter.unusedSimpArgs false
def phiX (f0 : Int) (row : List Int) (m : Nat) (l : List Int) (o : List (List Int)) : List (List Int) := if f0 = 1 then phiA row m l o else o
set_option maxHeartbeats 40000000 in
set_option maxRecDepth 100000 in
theorem live_bad (g : S28) (A1 A3 A4 A5 : Option Addr) (c1 c3 c4 c5 : Nat) (w : World)
    (hg : Kd.C k181 w (some ⟨2, 0, none⟩) 11 formsT) (hr1 : Kd.C (Kd.int .i64) w A1 g.f1.length g.f1) (hc1 : g.f1.length ≤ c1) (hr3 : Kd.C (Kd.int .u8) w A3 g.f3.length g.f3) (hc3 : g.f3.length ≤ c3) (hr4 : Kd.C k113 w A4 g.f4.length g.f4) (hc4 : g.f4.length ≤ c4) (hr5 : Kd.C k43 w A5 g.f5.length g.f5) (hc5 : g.f5.length ≤ c5) (hs : sizesA g) (hal : aloneG g = false) :
    Calls Tryd.prog 15 #[.agg #[.string g.f0, .slice A1 g.f1.length c1, .int .u8 g.f2, .slice A3 g.f3.length c3, .slice A4 g.f4.length c4, .slice A5 g.f5.length c5]] w fun e w' => e = .returned (.tuple #[.slice none 0 0, .slice none 0 0, .int .i64 4]) ∧ Below w.heap.size w w' := by
  have HG := Aside0.mk hg
  have HR1 := Aside0.mk hr1
  have HC1 := Aside0.mk hc1
  have HR3 := Aside0.mk hr3
  have HC3 := Aside0.mk hc3
  have HR4 := Aside0.mk hr4
  have HC4 := Aside0.mk hc4
  have HR5 := Aside0.mk hr5
  have HC5 := Aside0.mk hc5
  have HS := Aside0.mk hs
  have HAL := Aside0.mk hal
  clear hg hr1 hc1 hr3 hc3 hr4 hc4 hr5 hc5 hs hal
  have HW1 := Aside0.mk (below_alloc (Below.refl w.heap.size w) (.cells (#[.string g.f0, .slice A1 g.f1.length c1, .int .u8 g.f2, .slice A3 g.f3.length c3, .slice A4 g.f4.length c4, .slice A5 g.f5.length c5] : Array Value) 28))
  have hbc : ∀ j : Nat, (w.alloc (.cells (#[.string g.f0, .slice A1 g.f1.length c1, .int .u8 g.f2, .slice A3 g.f3.length c3, .slice A4 g.f4.length c4, .slice A5 g.f5.length c5] : Array Value) 28)).cell? ⟨w.heap.size, j, none⟩ = (#[.string g.f0, .slice A1 g.f1.length c1, .int .u8 g.f2, .slice A3 g.f3.length c3, .slice A4 g.f4.length c4, .slice A5 g.f5.length c5] : Array Value)[j]? := fun j => blk_cell (blk_new w _) j
  go_enter Tryd.func15, Tryd.ntmps15
  go_wp2
  go_step3
  go_wp2_with (go_at_call 46; refine (alone_calls g A1 A3 A4 A5 c1 c3 c4 c5 _ (Kd.C_below HG.out HW1.out) (Kd.C_below HR1.out HW1.out) HC1.out (Kd.C_below HR3.out HW1.out) HC3.out (Kd.C_below HR4.out HW1.out) HC4.out (Kd.C_below HR5.out HW1.out) HC5.out HS.out false HAL.out).mono ?_; rintro e w3 ⟨rfl, hb3⟩; have HB3 := Aside0.mk hb3; clear hb3)
  rw [Exit.noGoto_ret]
  go_ret3
  exact ⟨rfl, below_step HW1.out HB3.out⟩
set_option maxHeartbeats 40000000 in
set_option maxRecDepth 100000 in
theorem live_ok (f : Nat) (g : S28) (A1 A3 A4 A5 : Option Addr) (c1 c3 c4 c5 : Nat) (w : World)
    (hg : Kd.C k181 w (some ⟨2, 0, none⟩) 11 formsT) (hr1 : Kd.C (Kd.int .i64) w A1 g.f1.length g.f1) (hc1 : g.f1.length ≤ c1) (hr3 : Kd.C (Kd.int .u8) w A3 g.f3.length g.f3) (hc3 : g.f3.length ≤ c3) (hr4 : Kd.C k113 w A4 g.f4.length g.f4) (hc4 : g.f4.length ≤ c4) (hr5 : Kd.C k43 w A5 g.f5.length g.f5) (hc5 : g.f5.length ≤ c5) (hs : sizesA g) (hv : g.f3.length ≤ 8796093022208) (hal : aloneG g = true) (r : List (List Int) × List (List Int)) (h : liveG f g = some r) :
    Calls Tryd.prog 15 #[.agg #[.string g.f0, .slice A1 g.f1.length c1, .int .u8 g.f2, .slice A3 g.f3.length c3, .slice A4 g.f4.length c4, .slice A5 g.f5.length c5]] w (LQ w r) := by
  have HG := Aside0.mk hg
  have HR1 := Aside0.mk hr1
  have HC1 := Aside0.mk hc1
  have HR3 := Aside0.mk hr3
  have HC3 := Aside0.mk hc3
  have HR4 := Aside0.mk hr4
  have HC4 := Aside0.mk hc4
  have HR5 := Aside0.mk hr5
  have HC5 := Aside0.mk hc5
  have HS := Aside0.mk hs
  have HAL := Aside0.mk hal
  have HGO := Aside0.mk (good_of hal)
  have hN : g.f5.length ≤ 1099511627776 := hs.2.1
  have hn0 : sizeN g ≤ 4398046511105 := by unfold sizeN; omega
  have hsz : sizeN g = g.f3.length / 64 + 1 := rfl
  have HSZ := Aside0.mk hsz
  obtain ⟨res, hres, hr⟩ : ∃ res, loopJ g.f5 (does0 g) (zerosG (sizeN g)) f (into0 g, out0 g) = some res ∧ (res.1.map (listG g.f3.length), res.2.map (listG g.f3.length)) = r := by
    unfold liveG at h
    obtain ⟨x, hx, hx2⟩ := Option.map_eq_some_iff.1 h
    exact ⟨x, hx, hx2⟩
  subst hr
  have HRES := Aside0.mk hres
  have HH := Aside0.mk h
  clear hg hr1 hc1 hr3 hc3 hr4 hc4 hr5 hc5 hs hal h hres hsz
  have HW1 := Aside0.mk (below_alloc (Below.refl w.heap.size w) (.cells (#[.string g.f0, .slice A1 g.f1.length c1, .int .u8 g.f2, .slice A3 g.f3.length c3, .slice A4 g.f4.length c4, .slice A5 g.f5.length c5] : Array Value) 28))
  have HK1 := Aside0.mk (blk_new w (.cells (#[.string g.f0, .slice A1 g.f1.length c1, .int .u8 g.f2, .slice A3 g.f3.length c3, .slice A4 g.f4.length c4, .slice A5 g.f5.length c5] : Array Value) 28))
  have hbc : ∀ j : Nat, (w.alloc (.cells #[.string g.f0, .slice A1 g.f1.length c1, .int .u8 g.f2, .slice A3 g.f3.length c3, .slice A4 g.f4.length c4, .slice A5 g.f5.length c5] 28)).cell? ⟨w.heap.size, j, none⟩ = (#[.string g.f0, .slice A1 g.f1.length c1, .int .u8 g.f2, .slice A3 g.f3.length c3, .slice A4 g.f4.length c4, .slice A5 g.f5.length c5] : Array Value)[j]? := fun j => blk_cell (blk_new w _) j
  go_enter Tryd.func15, Tryd.ntmps15
  go_wp2
  refine wp_scope_jumps2 0 (LJ w g (#[.string g.f0, .slice A1 g.f1.length c1, .int .u8 g.f2, .slice A3 g.f3.length c3, .slice A4 g.f4.length c4, .slice A5 g.f5.length c5] : Array Value) res) rfl ?first ?pass
  case pass =>
    intro m a' w' hJ
    exact wp_seq (wp_skip (live_pass g A1 A3 A4 A5 c1 c3 c4 c5 w HG.out HR1.out HC1.out HR3.out HC3.out HR4.out HC4.out HR5.out HC5.out HS.out hv HAL.out res m a' w' hJ))
  case first =>
    go_upto_region 4 with (go_at_call 46; refine (alone_calls g A1 A3 A4 A5 c1 c3 c4 c5 _ (Kd.C_below HG.out HW1.out) (Kd.C_below HR1.out HW1.out) HC1.out (Kd.C_below HR3.out HW1.out) HC3.out (Kd.C_below HR4.out HW1.out) HC4.out (Kd.C_below HR5.out HW1.out) HC5.out HS.out true HAL.out).mono ?_; rintro e w3 ⟨rfl, hb3⟩; have HB3 := Aside0.mk hb3; have HK3 := Aside0.mk (blk_below HK1.out hb3); have hbc3 : ∀ j : Nat, w3.cell? ⟨w.heap.size, j, none⟩ = (#[.string g.f0, .slice A1 g.f1.length c1, .int .u8 g.f2, .slice A3 g.f3.length c3, .slice A4 g.f4.length c4, .slice A5 g.f5.length c5] : Array Value)[j]? := (fun j => blk_cell (blk_below HK1.out hb3) j); clear hb3 hbc)
    have hnz : (g.f3.length : Int) / 64 + 1 = (sizeN g : Int) := by have := HSZ.out; omega
    simp only [hnz]
    clear hnz
    have h30 : w.heap.size < w3.heap.size := by have := HB3.out.size; rw [size_al] at this; omega
    have hba : ∀ (o : Obj) (j : Nat), (w3.alloc o).cell? ⟨w.heap.size, j, none⟩ = (#[.string g.f0, .slice A1 g.f1.length c1, .int .u8 g.f2, .slice A3 g.f3.length c3, .slice A4 g.f4.length c4, .slice A5 g.f5.length c5] : Array Value)[j]? := fun o j => by rw [← hbc3 j]; exact (below_alloc (Below.refl w3.heap.size w3) o).cell (p := ⟨w.heap.size, j, none⟩) h30
    have hbb : ∀ (o o' : Obj) (j : Nat), ((w3.alloc o).alloc o').cell? ⟨w.heap.size, j, none⟩ = (#[.string g.f0, .slice A1 g.f1.length c1, .int .u8 g.f2, .slice A3 g.f3.length c3, .slice A4 g.f4.length c4, .slice A5 g.f5.length c5] : Array Value)[j]? := fun o o' j => by rw [← hba o j]; exact (below_alloc (Below.refl (w3.alloc o).heap.size (w3.alloc o)) o').cell (p := ⟨w.heap.size, j, none⟩) (by rw [size_al]; show w.heap.size < _; omega)
    have hmk := make92 g.f5.length hN
    go_cut [6, 7, 8] (fun s6 s7 s8 wx => Made92 g.f5.length w3 wx s6 s7 s8)
    case first =>
      have hq := hbc3 5
      go_region_held3 (fun w' => w'.cell? ⟨w.heap.size, 5, none⟩ = some (.slice A5 g.f5.length c5)) (go_keep) (fail)
      all_goals
        go_wp2_with (fail)
        go_meet
        first
          | (with_reducible exact pm012 _ _)
          | (with_reducible exact pm021 _ _)
          | (with_reducible exact pm102 _ _)
          | (with_reducible exact pm120 _ _)
          | (with_reducible exact pm201 _ _)
          | (with_reducible exact pm210 _ _)
    case rest =>
      obtain ⟨G, rfl, rfl, rfl, hGi, hGc, hGg, hb⟩ := hcut
      have HST := Aside0.mk (sts_zero (base := w.heap.size) (n := sizeN g) hGi hGc)
      have HW := Aside0.mk (below_step (below_step HW1.out HB3.out) hb)
      have HK := Aside0.mk (blk_below HK3.out hb)
      have hbcc : ∀ j : Nat, wc.cell? ⟨w.heap.size, j, none⟩ = (#[.string g.f0, .slice A1 g.f1.length c1, .int .u8 g.f2, .slice A3 g.f3.length c3, .slice A4 g.f4.length c4, .slice A5 g.f5.length c5] : Array Value)[j]? := fun j => blk_cell (blk_below HK3.out hb) j
      have HGG := Aside0.mk (show ∀ a, a < 3 → w.heap.size < G a from fun a ha => Nat.lt_of_lt_of_le h30 (hGg a ha))
      clear hGi hGc hGg hb hba hbb hbc3 hmk h30
      go_wp2
      clear hbcc
      go_loopw [48] (fun v48 wr => ∃ k : Nat, k ≤ g.f5.length ∧ v48 = .int .i64 k ∧ ∃ B : Nat → Nat → Nat, Aside0 (Sts w.heap.size wr G B (V3 ((into0 g).take k) ((blank0 g).take k) ((does0 g).take k)) g.f5.length (sizeN g) (fun _ => k)) ∧ Aside0 (Below w.heap.size w wr) ∧ Aside0 (wr.heap[w.heap.size]? = some (.cells (#[.string g.f0, .slice A1 g.f1.length c1, .int .u8 g.f2, .slice A3 g.f3.length c3, .slice A4 g.f4.length c4, .slice A5 g.f5.length c5] : Array Value) 28 (0, 0)))) (fun v48 _ => g.f5.length - (intOf v48).toNat)
      case atStart => exact ⟨0, Nat.zero_le _, rfl, _, ⟨by rw [List.take_zero, List.take_zero, List.take_zero]; exact HST.out⟩, HW, HK⟩
      case round =>
        clear HST HW HK
        obtain ⟨k, hk, rfl, B, HST, HW, HK⟩ := hrel
        by_cases hlt : k < g.f5.length
        · obtain ⟨ad, Ab, cb, rfl, hx0, hx1, hx2, hx3, hx4, hx5, hcb, hrb⟩ := at_T43 HR5.out (k : Int) (by omega) (by omega)
          simp only [Int.toNat_natCast] at hx0 hx1 hx2 hx3 hx4 hx5
          replace hx0 := pw_cell_below HW.out hx0
          replace hx1 := pw_cell_below HW.out hx1
          replace hx2 := pw_cell_below HW.out hx2
          replace hx3 := pw_cell_below HW.out hx3
          replace hx4 := pw_cell_below HW.out hx4
          replace hx5 := pw_cell_below HW.out hx5
          have HRB := Aside0.mk hrb
          have HCB := Aside0.mk hcb
          have HSI := Aside0.mk (take_into0 g hlt)
          have HSD := Aside0.mk (take_does0 g hlt)
          have HSO := Aside0.mk (take_blank0 g hlt)
          have HOB := Aside0.mk (HGO.out.blk k hlt)
          have HSB := Aside0.mk (HS.out.2.2 _ (rd43_mem hlt))
          rw [← rd43_get _ hlt] at HSI HSD HOB
          clear hrb hcb
          generalize rd_T43 g.f5 (k : Int) = b at *
          have HBKB := Aside0.mk (blk_new wr (.cells #[.slice Ab b.f0.length cb, .int .u8 b.f1.f0, .int .i64 b.f1.f1, .int .i64 b.f1.f2.f0, .int .i64 b.f1.f2.f1, .int .u8 b.f1.f3] 43))
          have HWB := Aside0.mk (below_alloc HW.out (.cells #[.slice Ab b.f0.length cb, .int .u8 b.f1.f0, .int .i64 b.f1.f1, .int .i64 b.f1.f2.f0, .int .i64 b.f1.f2.f1, .int .u8 b.f1.f3] 43))
          have HSTB := Aside0.mk (HST.out.below (below_alloc (Below.refl _ _) (.cells #[.slice Ab b.f0.length cb, .int .u8 b.f1.f0, .int .i64 b.f1.f1, .int .i64 b.f1.f2.f0, .int .i64 b.f1.f2.f1, .int .u8 b.f1.f3] 43)))
          have HKB := Aside0.mk (blk_below HK.out (below_alloc (Below.refl _ _) (.cells #[.slice Ab b.f0.length cb, .int .u8 b.f1.f0, .int .i64 b.f1.f1, .int .i64 b.f1.f2.f0, .int .i64 b.f1.f2.f1, .int .u8 b.f1.f3] 43)))
          go_upto_region 8 with (fail)
          generalize wr.alloc (.cells #[.slice Ab b.f0.length cb, .int .u8 b.f1.f0, .int .i64 b.f1.f1, .int .i64 b.f1.f2.f0, .int .i64 b.f1.f2.f1, .int .u8 b.f1.f3] 43) = wB at *
          clear HST HW HK hx0 hx1 hx2 hx3 hx4 hx5
          generalize wr.heap.size = nb at *
          have hbb : ∀ j : Nat, wB.cell? ⟨nb, j, none⟩ = (#[.slice Ab b.f0.length cb, .int .u8 b.f1.f0, .int .i64 b.f1.f1, .int .i64 b.f1.f2.f0, .int .i64 b.f1.f2.f1, .int .u8 b.f1.f3] : Array Value)[j]? := fun j => blk_cell HBKB.out j
          obtain ⟨Z, hZ, hmk⟩ := make47 (sizeN g) (by omega)
          have HZ := Aside0.mk hZ
          have HNN := Aside0.mk (show sizeN g ≤ 35184372088832 by omega)
          clear hZ
          go_wp2_with (go_at_call 47; refine (block_calls Ab cb b (sizeN g) g.f3.length g.f5.length HNN.out (by have := HSZ.out; omega) HOB.out HSB.out.1 HSB.out.2 _ (Kd.C_below HRB.out HWB.out) HCB.out).mono ?_; rintro e w5 ⟨gA, gD, rfl, hne, hra, hrd, hb5⟩; have HNE := Aside0.mk hne; have HRA := Aside0.mk hra; have HRD := Aside0.mk hrd; have HB5 := Aside0.mk hb5; have HST5 := Aside0.mk (HSTB.out.below hb5); obtain ⟨cs0, ho0, hs0, _⟩ := HST5.out.outer 0 (by decide); obtain ⟨cs1, ho1, hs1, _⟩ := HST5.out.outer 1 (by decide); obtain ⟨cs2, ho2, hs2, _⟩ := HST5.out.outer 2 (by decide); have HO0 := Aside0.mk ho0; have HO1 := Aside0.mk ho1; have HO2 := Aside0.mk ho2; have hq0 := (blk_cell ho0 k).trans (Array.getElem?_eq_getElem (show k < cs0.size by omega)); have hq0f := blk_frozen ho0 k; have hg1 : (w5.setCell ⟨G 0, k, none⟩ (.slice (some ⟨gA, 0, none⟩) (sizeN g) (sizeN g))).heap[G 2]? = some (.cells cs2 93 (0, 0)) := (Below.heap_setCell w5 _ _ _ (fun e => absurd (HST5.out.injG _ _ (by decide) (by decide) e) (by decide))).trans ho2; have hq1 := (blk_cell hg1 k).trans (Array.getElem?_eq_getElem (show k < cs2.size by omega)); have hq1f := blk_frozen hg1 k; have hg2 : (((w5.setCell ⟨G 0, k, none⟩ (.slice (some ⟨gA, 0, none⟩) (sizeN g) (sizeN g))).setCell ⟨G 2, k, none⟩ (.slice (some ⟨gD, 0, none⟩) (sizeN g) (sizeN g))).alloc (.cells Z 47)).heap[G 1]? = some (.cells cs1 93 (0, 0)) := blk_below ((Below.heap_setCell (w5.setCell ⟨G 0, k, none⟩ (.slice (some ⟨gA, 0, none⟩) (sizeN g) (sizeN g))) _ _ _ (fun e => absurd (HST5.out.injG _ _ (by decide) (by decide) e) (by decide))).trans ((Below.heap_setCell w5 _ _ _ (fun e => absurd (HST5.out.injG _ _ (by decide) (by decide) e) (by decide))).trans ho1)) (below_alloc (Below.refl _ _) _); have hq2 := (blk_cell hg2 k).trans (Array.getElem?_eq_getElem (show k < cs1.size by omega)); have hq2f := blk_frozen hg2 k; clear hg1 hg2; clear hne hra hrd hb5 ho0 ho1 ho2 hbb)
          obtain ⟨B', hB'⟩ := HST5.out.three hlt (Kd.R_lower HRA.out HWB.out.size) (Kd.R_lower HRD.out HWB.out.size) HNE.out (fun b i hb hi => Nat.ne_of_lt (Nat.lt_of_lt_of_le (HSTB.out.lt b i hb hi) (Kd.R_base HRA.out _ rfl))) (fun b i hb hi => Nat.ne_of_lt (Nat.lt_of_lt_of_le (HSTB.out.lt b i hb hi) (Kd.R_base HRD.out _ rfl))) HNN.out HZ.out (Nat.le_trans HWB.out.size HB5.out.size)
          have HBN := Aside0.mk hB'
          have hw5 := below_step HWB.out HB5.out
          have hw6 := ((((hw5.setCell (p := ⟨G 0, k, none⟩) (Nat.le_of_lt (HGG.out 0 (by decide))) (.slice (some ⟨gA, 0, none⟩) (sizeN g) (sizeN g))).setCell (p := ⟨G 2, k, none⟩) (Nat.le_of_lt (HGG.out 2 (by decide))) (.slice (some ⟨gD, 0, none⟩) (sizeN g) (sizeN g))).alloc (by rw [size_set, size_set]; exact hw5.size) (.cells Z 47)).setCell (p := ⟨G 1, k, none⟩) (Nat.le_of_lt (HGG.out 1 (by decide))) (.slice (some ⟨w5.heap.size, 0, none⟩) (sizeN g) (sizeN g)))
          have HW6 := Aside0.mk hw6
          have hk6 := blk_below HKB.out HB5.out
          have hk7 := (Below.heap_setCell w5 ⟨G 0, k, none⟩ (.slice (some ⟨gA, 0, none⟩) (sizeN g) (sizeN g)) w.heap.size (Nat.ne_of_lt (HGG.out 0 (by decide)))).trans hk6
          have hk8 := (Below.heap_setCell (w5.setCell ⟨G 0, k, none⟩ (.slice (some ⟨gA, 0, none⟩) (sizeN g) (sizeN g))) ⟨G 2, k, none⟩ (.slice (some ⟨gD, 0, none⟩) (sizeN g) (sizeN g)) w.heap.size (Nat.ne_of_lt (HGG.out 2 (by decide)))).trans hk7
          have hk9 := (Below.heap_setCell (((w5.setCell ⟨G 0, k, none⟩ (.slice (some ⟨gA, 0, none⟩) (sizeN g) (sizeN g))).setCell ⟨G 2, k, none⟩ (.slice (some ⟨gD, 0, none⟩) (sizeN g) (sizeN g))).alloc (.cells Z 47)) ⟨G 1, k, none⟩ (.slice (some ⟨w5.heap.size, 0, none⟩) (sizeN g) (sizeN g)) w.heap.size (Nat.ne_of_lt (HGG.out 1 (by decide)))).trans (blk_below hk8 (below_alloc (Below.refl _ _) (.cells Z 47)))
          have HK9 := Aside0.mk hk9
          clear hB' hw5 hw6 hk6 hk7 hk8 hk9 hq0 hq0f hq1 hq1f hq2 hq2f
          go_roundw
          case rel => exact ⟨k + 1, by omega, by go_num, B', ⟨by rw [HSI.out, HSD.out, HSO.out]; exact HBN.out⟩, HW6, HK9⟩
          case measure => simp [intOf]; omega
        · obtain rfl : k = g.f5.length := by omega
          have hl1 : (into0 g).take g.f5.length = into0 g := List.take_of_length_le (by simp [into0])
          have hl2 : (blank0 g).take g.f5.length = blank0 g := List.take_of_length_le (by simp [blank0])
          have hl3 : (does0 g).take g.f5.length = does0 g := List.take_of_length_le (by simp [does0])
          have hst := HST.out
          rw [hl1, hl2, hl3] at hst
          have HSTB := Aside0.mk (show Stb w wr (#[.string g.f0, .slice A1 g.f1.length c1, .int .u8 g.f2, .slice A3 g.f3.length c3, .slice A4 g.f4.length c4, .slice A5 g.f5.length c5] : Array Value) G B (into0 g) (blank0 g) (does0 g) g.f5.length (sizeN g) from ⟨hst, HW.out, HK.out⟩)
          clear hl1 hl2 hl3 hst HST
          have hbcr : ∀ j : Nat, wr.cell? ⟨w.heap.size, j, none⟩ = (#[.string g.f0, .slice A1 g.f1.length c1, .int .u8 g.f2, .slice A3 g.f3.length c3, .slice A4 g.f4.length c4, .slice A5 g.f5.length c5] : Array Value)[j]? := fun j => blk_cell HK.out j
          go_wp2_with (go_at_call 20; refine (ahead_calls g.f0 A1 c1 g.f1 g.f2 A3 c3 g.f3 A4 c4 g.f4 A5 c5 g.f5 _ (Kd.C_below HR1.out HW.out) HC1.out (Kd.C_below HR3.out HW.out) HC3.out (Kd.C_below HR4.out HW.out) HC4.out (Kd.C_below HR5.out HW.out) HC5.out (by omega)).mono ?_; rintro e w7 ⟨va, rfl, hsa, hb7⟩; have HSTA := Aside0.mk (HSTB.out.below hb7); have HLT := Aside0.mk (fun i hi => HSTB.out.st.lt 1 i (by decide) hi : ∀ i, i < g.f5.length → B 1 i < wr.heap.size); obtain ⟨Ar, cr, hva, hcr, _⟩ := Kd.S_reads hsa; rw [aheadL_len] at hva hcr; subst hva; have HRR := Aside0.mk (Kd.R_mono (Kd.R_bound (Kd.S_R hsa)) (fun k hk => hk.2.1)); have HLA := Aside0.mk (aheadL_len g.f5); clear hsa hb7 hbcr)
          have HOK0 := Aside0.mk (show okL (sizeN g) g.f5.length (blank0 g) from blank_ok g)
          have HPA := Aside0.mk (show phiAll (aheadL g.f5) g.f5 (blank0 g) = out0 g from rfl)
          clear HW HK HSTB hcr
          generalize wr.heap.size = nA at *
          go_loopw [74] (fun v74 w1 => ∃ k : Nat, k ≤ g.f5.length ∧ v74 = .int .i64 k ∧ ∃ o : List (List Int), Aside0 (phiAll ((aheadL g.f5).drop k) (g.f5.drop k) o = out0 g) ∧ Aside0 (Stb w w1 (#[.string g.f0, .slice A1 g.f1.length c1, .int .u8 g.f2, .slice A3 g.f3.length c3, .slice A4 g.f4.length c4, .slice A5 g.f5.length c5] : Array Value) G B (into0 g) o (does0 g) g.f5.length (sizeN g)) ∧ Aside0 (Kd.R (Kd.slice 3 (Kd.int .i64)) 22 w1 nA (fun b => nA ≤ b) (.slice Ar g.f5.length cr) (aheadL g.f5)) ∧ Aside0 (okL (sizeN g) g.f5.length o)) (fun v74 _ => g.f5.length - (intOf v74).toNat)
          case atStart => exact ⟨0, Nat.zero_le _, rfl, _, ⟨by rw [List.drop_zero, List.drop_zero]; exact HPA.out⟩, HSTA, HRR, HOK0⟩
          case round =>
            clear HPA HSTA HRR HOK0
            obtain ⟨k, hk, rfl, o, HPA, HSTA, HRR, HOK⟩ := hrel
            by_cases hlt : k < g.f5.length
            · obtain ⟨ad, Ab, cb, hA5, hx0, _, _, _, _, _, hcb, hrb⟩ := at_T43 HR5.out (k : Int) (by omega) (by omega)
              subst hA5
              simp only [Int.toNat_natCast] at hx0
              replace hx0 := pw_cell_below HSTA.out.low hx0
              have hrl := HLA.out
              obtain ⟨adr, cr', hAr⟩ : ∃ adr cr', Value.slice Ar g.f5.length cr = .slice (some adr) g.f5.length cr' := by
                obtain ⟨adr, A0, c0, hh, _⟩ := at_L2 (Kd.R_reads' HRR.out).2.2 (k : Int) (by omega) (by omega)
                exact ⟨adr, cr, by rw [hh]⟩
              injection hAr with hAr1 _ hAr2
              subst hAr1
              subst hAr2
              obtain ⟨Ak, ck, hrk, hrr⟩ := row_get HRR.out (k : Int) (by omega) (by omega)
              simp only [Int.toNat_natCast] at hrk
              have hpa := HPA.out
              rw [List.drop_eq_getElem_cons (show k < (aheadL g.f5).length by omega), List.drop_eq_getElem_cons hlt, phiAll] at hpa
              have hph := HGO.out.phi k (by omega) hlt
              have hob := HGO.out.blk k hlt
              have hsb := HS.out.2.2 _ (rd43_mem hlt)
              rw [← rd43_get _ hlt] at hpa hph hob
              rw [← rdL2_get (show k < (aheadL g.f5).length by omega)] at hpa hph
              have hrw := (aheadL_row g.f5 k (by omega)).2
              rw [← rdL2_get (show k < (aheadL g.f5).length by omega)] at hrw
              generalize rd_T43 g.f5 (k : Int) = b at *
              generalize rd_L2 (aheadL g.f5) (k : Int) = row at *
              have HRB := Aside0.mk hrb
              have HCB := Aside0.mk hcb
              have HROW := Aside0.mk hrr
              have HPH := Aside0.mk hph
              have HOB := Aside0.mk hob
              have HSB := Aside0.mk hsb.2
              have hbl : b.f0.length ≤ 1099511627776 := hsb.1
              obtain ⟨resB, hresB⟩ : ∃ resB, phiB row b.f0 o = resB := ⟨_, rfl⟩
              rw [hresB] at hpa
              have HPA := Aside0.mk hpa
              have HRES2 := Aside0.mk hresB
              have hbc : ∀ j : Nat, wr.cell? ⟨w.heap.size, j, none⟩ = (#[.string g.f0, .slice A1 g.f1.length c1, .int .u8 g.f2, .slice A3 g.f3.length c3, .slice A4 g.f4.length c4, .slice (some ad) g.f5.length c5] : Array Value)[j]? := fun j => HSTA.out.boxc j
              clear hrb hcb hrr hph hob hsb hpa hresB hrl
              go_wp2
              clear hbc hx0 hrk
              go_loopw [86] (fun v86 w1 => ∃ j : Nat, j ≤ b.f0.length ∧ v86 = .int .i64 j ∧ ∃ o : List (List Int), Aside0 (phiB row (b.f0.drop j) o = resB) ∧ Aside0 (Stb w w1 (#[.string g.f0, .slice A1 g.f1.length c1, .int .u8 g.f2, .slice A3 g.f3.length c3, .slice A4 g.f4.length c4, .slice (some ad) g.f5.length c5] : Array Value) G B (into0 g) o (does0 g) g.f5.length (sizeN g)) ∧ Aside0 (Kd.R (Kd.slice 3 (Kd.int .i64)) 22 w1 nA (fun b => nA ≤ b) (.slice (some adr) g.f5.length cr) (aheadL g.f5)) ∧ Aside0 (Kd.R (Kd.int .i64) 3 w1 nA (fun b => nA ≤ b) (.slice Ak row.length ck) row) ∧ Aside0 (okL (sizeN g) g.f5.length o)) (fun v86 _ => b.f0.length - (intOf v86).toNat)
              case atStart => exact ⟨0, Nat.zero_le _, rfl, _, ⟨by rw [List.drop_zero]; exact HRES2.out⟩, HSTA, HRR, HROW, HOK⟩
              case round =>
                clear HRES2 HSTA HRR HROW HOK
                obtain ⟨j, hj, rfl, o, HPB, HSTA, HRR, HROW, HOK⟩ := hrel
                by_cases hjl : j < b.f0.length
                · obtain ⟨ad4, Ax, cx, hAb, hx0, hx1, hx2, hx3, hx4, hx5, hcx, hrx⟩ := at_T49 HRB.out (j : Int) (by omega) (by omega)
                  subst hAb
                  simp only [Int.toNat_natCast] at hx0 hx1 hx2 hx3 hx4 hx5
                  replace hx0 := pw_cell_below HSTA.out.low hx0
                  replace hx1 := pw_cell_below HSTA.out.low hx1
                  replace hx2 := pw_cell_below HSTA.out.low hx2
                  replace hx3 := pw_cell_below HSTA.out.low hx3
                  replace hx4 := pw_cell_below HSTA.out.low hx4
                  replace hx5 := pw_cell_below HSTA.out.low hx5
                  have hpb := HPB.out
                  rw [List.drop_eq_getElem_cons hjl, phiB, ← rd49_get _ hjl] at hpb
                  have hox := HOB.out.1 _ (rd49_mem hjl)
                  have hpx := HPH.out.2 _ (rd49_mem hjl)
                  have hxl := HSB.out _ (rd49_mem hjl)
                  clear HPB
                  generalize rd_T49 b.f0 (j : Int) = x at *
                  have HRX := Aside0.mk hrx
                  have HCX := Aside0.mk hcx
                  have HOX := Aside0.mk hox
                  have HPX := Aside0.mk hpx
                  have HPB := Aside0.mk hpb
                  clear hrx hcx hox hpx hpb
                  have HBX := Aside0.mk (blk_new wr (.cells #[.int .u8 x.f0, .int .u8 x.f1, .int .i64 x.f2, .slice Ax x.f3.length cx, .int .u64 x.f4, .int .i64 x.f5] 49))
                  have HSTX := Aside0.mk (HSTA.out.below (below_alloc (Below.refl _ _) (.cells #[.int .u8 x.f0, .int .u8 x.f1, .int .i64 x.f2, .slice Ax x.f3.length cx, .int .u64 x.f4, .int .i64 x.f5] 49)))
                  have HRRX := Aside0.mk (Kd.R_alloc HRR.out (.cells #[.int .u8 x.f0, .int .u8 x.f1, .int .i64 x.f2, .slice Ax x.f3.length cx, .int .u64 x.f4, .int .i64 x.f5] 49))
                  have HROWX := Aside0.mk (Kd.R_alloc HROW.out (.cells #[.int .u8 x.f0, .int .u8 x.f1, .int .i64 x.f2, .slice Ax x.f3.length cx, .int .u64 x.f4, .int .i64 x.f5] 49))
                  go_upto_region 17 with (fail)
                  clear hx0 hx1 hx2 hx3 hx4 hx5 HSTA HRR HROW
                  generalize wr.alloc (.cells #[.int .u8 x.f0, .int .u8 x.f1, .int .i64 x.f2, .slice Ax x.f3.length cx, .int .u64 x.f4, .int .i64 x.f5] 49) = wX at *
                  generalize wr.heap.size = nx at *
                  have hbx : ∀ j : Nat, wX.cell? ⟨nx, j, none⟩ = (#[.int .u8 x.f0, .int .u8 x.f1, .int .i64 x.f2, .slice Ax x.f3.length cx, .int .u64 x.f4, .int .i64 x.f5] : Array Value)[j]? := fun j => blk_cell HBX.out j
                  obtain ⟨resA, hresA⟩ : ∃ resA, phiX x.f0 row 0 x.f3 o = resA := ⟨_, rfl⟩
                  have HRESA := Aside0.mk hresA
                  have hpb := HPB.out
                  rw [← phiX, hresA] at hpb
                  have HPB := Aside0.mk hpb
                  clear hresA hpb
                  go_wp2
                  clear hbx
                  go_loopw [93] (fun v93 w1 => ∃ m : Nat, m ≤ x.f3.length ∧ v93 = .int .i64 m ∧ ∃ o : List (List Int), Aside0 (phiX x.f0 row m (x.f3.drop m) o = resA) ∧ Aside0 (Stb w w1 (#[.string g.f0, .slice A1 g.f1.length c1, .int .u8 g.f2, .slice A3 g.f3.length c3, .slice A4 g.f4.length c4, .slice (some ad) g.f5.length c5] : Array Value) G B (into0 g) o (does0 g) g.f5.length (sizeN g)) ∧ Aside0 (Kd.R (Kd.slice 3 (Kd.int .i64)) 22 w1 nA (fun b => nA ≤ b) (.slice (some adr) g.f5.length cr) (aheadL g.f5)) ∧ Aside0 (Kd.R (Kd.int .i64) 3 w1 nA (fun b => nA ≤ b) (.slice Ak row.length ck) row) ∧ Aside0 (okL (sizeN g) g.f5.length o) ∧ Aside0 (w1.heap[nx]? = some (.cells #[.int .u8 x.f0, .int .u8 x.f1, .int .i64 x.f2, .slice Ax x.f3.length cx, .int .u64 x.f4, .int .i64 x.f5] 49 (0, 0)))) (fun v93 _ => x.f3.length - (intOf v93).toNat)
                  case atStart => exact ⟨0, Nat.zero_le _, rfl, _, ⟨by rw [List.drop_zero]; exact HRESA.out⟩, HSTX, HRRX, HROWX, HOK, HBX⟩
                  case round =>
                    clear HRESA HSTX HRRX HROWX HOK HBX
                    obtain ⟨m, hm, rfl, o, HPC, HSTA, HRR, HROW, HOK, HBX⟩ := hrel
                    by_cases hml : m < x.f3.length
                    · obtain ⟨adx, hAx, hv1⟩ := Kd.at_int HRX.out (m : Int) (by omega) (by omega)
                      subst hAx
                      simp only [Int.toNat_natCast] at hv1
                      replace hv1 := pw_cell_below HSTA.out.low hv1
                      have hvr := HOX.out.1 _ (List.getElem_mem hml)
                      rw [← rd_get _ hml] at hvr
                      have hpc := HPC.out
                      rw [List.drop_eq_getElem_cons hml, ← rd_get _ hml, phiX] at hpc
                      have hbx : ∀ j : Nat, wr.cell? ⟨nx, j, none⟩ = (#[.int .u8 x.f0, .int .u8 x.f1, .int .i64 x.f2, .slice (some adx) x.f3.length cx, .int .u64 x.f4, .int .i64 x.f5] : Array Value)[j]? := fun j => blk_cell HBX.out j
                      by_cases h1 : x.f0 = 1
                      · have hpx := HPX.out h1
                        have hmr : m < row.length := by omega
                        obtain ⟨adk, hAk, hvk⟩ := Kd.at_int (Kd.R_reads' HROW.out).2.2 (m : Int) (by omega) (by omega)
                        subst hAk
                        simp only [Int.toNat_natCast] at hvk
                        have hkr := rd_row HPH.out.1 m hmr
                        rw [if_pos h1, phiA] at hpc
                        obtain ⟨q, hq⟩ := Int.eq_ofNat_of_zero_le hkr.1
                        rw [hq] at hpc hvk hkr
                        have hql : q < g.f5.length := by omega
                        rw [Int.toNat_natCast] at hpc
                        have hcq := HSTA.out.st.cell 1 q (by decide) hql
                        have HPC2 := Aside0.mk (show phiX x.f0 row (m + 1) (x.f3.drop (m + 1)) (o.set q (putG (rd_L2 o (q : Int)) (rd x.f3 (m : Int)))) = resA by rw [phiX, if_pos h1]; exact hpc)
                        have HVR := Aside0.mk hvr
                        have HOK2 := Aside0.mk (okL_set HOK.out q (putG_okI (okL_rd HOK.out (q : Int) (by omega) (by omega)) (rd x.f3 (m : Int)) hvr.1))
                        have hb0 : wr.cell? ⟨nx, 0, none⟩ = some (.int .u8 1) := by have := hbx 0; rw [h1] at this; exact this
                        clear hpc hvr hpx HPC hq hkr h1 hbx
                        generalize rd x.f3 (m : Int) = v at *
                        go_wp2_with (go_at_call 48; refine (HSTA.out.put q hql v HVR.out.1 (by have := HVR.out.2; have := HSZ.out; omega) (by omega)).mono ?_; rintro e w8 ⟨rfl, hs8, hk8⟩; have HSTA8 := Aside0.mk hs8; have HK8 := Aside0.mk hk8; clear hs8 hk8 hb0 hv1 hvk hcq)
                        have hB := HLT.out q hql
                        go_roundw
                        case rel => exact ⟨m + 1, by omega, by go_num, _, HPC2, HSTA8, ⟨Kd.R_kept HRR.out HK8.out (fun b e1 e2 => by omega)⟩, ⟨Kd.R_kept HROW.out HK8.out (fun b e1 e2 => by omega)⟩, HOK2, ⟨blk_kept HBX.out HK8.out (fun e => Kd.R_ne (HSTA.out.st.own 1 q (by decide) hql) HBX.out (by decide) (by rw [e]; rfl))⟩⟩
                        case measure => (simp [intOf]; try omega)
                      · rw [if_neg h1] at hpc
                        have HPC2 := Aside0.mk (show phiX x.f0 row (m + 1) (x.f3.drop (m + 1)) o = resA by rw [phiX, if_neg h1]; exact hpc)
                        clear hpc HPC
                        go_wp2
                        go_roundw
                        case rel => exact ⟨m + 1, by omega, by go_num, o, HPC2, HSTA, HRR, HROW, HOK, HBX⟩
                        case measure => (simp [intOf]; try omega)
                    · obtain rfl : m = x.f3.length := by omega
                      have hpc := HPC.out
                      rw [List.drop_length, phiX, phiA, ite_self] at hpc
                      subst hpc
                      clear HPC
                      go_wp2
                      go_roundw
                      case rel => exact ⟨j + 1, by omega, by go_num, o, HPB, HSTA, HRR, HROW, HOK⟩
                      case measure => (simp [intOf]; try omega)
                · obtain rfl : j = b.f0.length := by omega
                  have hpb := HPB.out
                  rw [List.drop_length, phiB] at hpb
                  subst hpb
                  clear HPB
                  go_wp2
                  go_roundw
                  case rel => exact ⟨k + 1, by omega, by go_num, o, HPA, HSTA, HRR, HOK⟩
                  case measure => (simp [intOf]; try omega)
            · obtain rfl : k = g.f5.length := by omega
              have hpa : o = out0 g := by
                have h := HPA.out
                rw [List.drop_length, List.drop_eq_nil_of_le (by rw [HLA.out]; exact Nat.le_refl _)] at h
                simpa [phiAll] using h
              have hz := make47 (sizeN g) (by omega)
              obtain ⟨Z, hZ, hmk⟩ := hz
              have HZ := Aside0.mk hZ
              have HPA2 := Aside0.mk hpa
              clear hZ hpa HPA
              go_wp2
              go_step3
              simp only [Exit.then]
              rename (∀ (a : Act) (w : World), Code.wp Tryd.prog _ _ a w → _) => hK
              refine hK _ _ (Code.wp_mono ?_ (live_pass g A1 A3 A4 A5 c1 c3 c4 c5 w HG.out HR1.out HC1.out HR3.out HC3.out HR4.out HC4.out HR5.out HC5.out HS.out hv HAL.out res f _ _ ?_))
              · intro e a w hq
                cases e with
                | goto l' =>
                  obtain ⟨hl, m', _, hJ⟩ := hq
                  exact ⟨hl, m', hJ⟩
                | _ => exact hq
              · have hst := HSTA.out.below (below_alloc (Below.refl _ _) (.cells Z 47))
                rw [HPA2.out] at hst
                exact ⟨G, B, wr.heap.size, (into0 g, out0 g), HRES, ⟨⟨hst, own_zeros (sizeN g) (by omega) HZ.out _ _ HSTA.out.low.size, fun a i ha hi => Nat.ne_of_lt (HSTA.out.st.lt a i ha hi)⟩⟩, lj_frame _ _ _ _ _ _ _ rfl rfl rfl rfl rfl rfl rfl⟩
end Go.Proofs.YtanhnfhpajaolaaDoor.Fo
/- live.Live, as one contract. -/
namespace Go.Proofs.YtanhnfhpajaolaaDoor.Fo
open Go Go.RowKit Go.Proofs.YtanhnfhpajaolaaDoorW.PrintWords Go.Proofs.YtanhnfhpajaolaaDoorW.PrintLast Go.Proofs.YtanhnfhpajaolaaDoorW.PrintMore Go.Proofs.YtanhnfhpajaolaaDoor.F Go.Proofs.YtanhnfhpajaolaaDoor.Cf Go.Proofs.YtanhnfhpajaolaaDoor.Sc
set_option linter.unusedVariables false
set_option linter.unusedSimpArgs false
def sizesAB (g : S28) : Bool := decide (g.f1.length ≤ 281474976710656) && (decide (g.f5.length ≤ 1099511627776) && (decide (g.f3.length ≤ 8796093022208) && g.f5.all fun b => decide (b.f0.length ≤ 1099511627776) && b.f0.all fun x => decide (x.f3.length ≤ 281474976710656)))
theorem sizesA_of {g : S28} (h : sizesAB g = true) : sizesA g ∧ g.f3.length ≤ 8796093022208 := by
  unfold sizesAB at h
  simp only [Bool.and_eq_true, decide_eq_true_eq, List.all_eq_true] at h
  exact ⟨⟨h.1, h.2.1, fun b hb => ⟨(h.2.2.2 b hb).1, fun x hx => (h.2.2.2 b hb).2 x hx⟩⟩, h.2.2.1⟩
/-- How many passes are enough. -/
def fuelG (g : S28) : Nat := totP (sizeN g) (into0 g, out0 g, false) + 1
def liveF (g : S28) : Option (List (List Int) × List (List Int) × Int) :=
  if sizesAB g = true then (if aloneG g = true then (liveG (fuelG g) g).map fun r => (r.1, r.2, 0) else some ([], [], 4)) else none
theorem live_calls (g : S28) (A1 A3 A4 A5 : Option Addr) (c1 c3 c4 c5 : Nat) (r1 r2 : List (List Int)) (r3 : Int) (w : World)
    (hr1 : Kd.C (Kd.int .i64) w A1 g.f1.length g.f1) (hc1 : g.f1.length ≤ c1) (hr3 : Kd.C (Kd.int .u8) w A3 g.f3.length g.f3) (hc3 : g.f3.length ≤ c3) (hr4 : Kd.C k113 w A4 g.f4.length g.f4) (hc4 : g.f4.length ≤ c4) (hr5 : Kd.C k43 w A5 g.f5.length g.f5) (hc5 : g.f5.length ≤ c5) (hg : Kd.C k181 w (some ⟨2, 0, none⟩) 11 formsT) (h : liveF g = some (r1, r2, r3)) :
    Calls Tryd.prog 15 #[.agg #[.string g.f0, .slice A1 g.f1.length c1, .int .u8 g.f2, .slice A3 g.f3.length c3, .slice A4 g.f4.length c4, .slice A5 g.f5.length c5]] w fun e w' => ∃ v0_ v1_ : Value, e = .returned (.tuple #[v0_, v1_, .int .i64 r3]) ∧ Kd.S (Kd.slice 3 (Kd.int .i64)) 22 w' w.heap.size (fun k_ => some k_ ≠ (v1_ : Value).ownBlock) v0_ r1 ∧ Kd.S (Kd.slice 3 (Kd.int .i64)) 22 w' w.heap.size (fun k_ => some k_ ≠ (v0_ : Value).ownBlock) v1_ r2 ∧ Below w.heap.size w w' := by
  unfold liveF at h
  split at h
  · rename_i hs
    obtain ⟨hsa, hv⟩ := sizesA_of hs
    split at h
    · rename_i hal
      obtain ⟨r, hr, he⟩ := Option.map_eq_some_iff.1 h
      injection he with e1 e2
      injection e2 with e2 e3
      subst e1
      subst e2
      subst e3
      exact live_ok (fuelG g) g A1 A3 A4 A5 c1 c3 c4 c5 w hg hr1 hc1 hr3 hc3 hr4 hc4 hr5 hc5 hsa hv hal r hr
    · rename_i hal
      have hal : aloneG g = false := by simpa using hal
      obtain he := Option.some.inj h
      injection he with e1 e2
      injection e2 with e2 e3
      subst e1
      subst e2
      subst e3
      refine (live_bad g A1 A3 A4 A5 c1 c3 c4 c5 w hg hr1 hc1 hr3 hc3 hr4 hc4 hr5 hc5 hsa hal).mono ?_
      rintro e w' ⟨rfl, hb⟩
      exact ⟨_, _, rfl, Kd.S_nil _ _ _ _ _, Kd.S_nil _ _ _ _ _, hb⟩
  · cases h
/-- More fuel does not matter. -/
theorem loop_more {bs : List S43} {does : List (List Int)} {none : List Int} : ∀ (f : Nat) (s r : List (List Int) × List (List Int)), loopJ bs does none f s = some r → ∀ k, f ≤ k → loopJ bs does none k s = some r
  | 0, s, r, h, _, _ => by rw [loopJ] at h; cases h
  | f + 1, s, r, h, k, hk => by
    obtain ⟨k, rfl⟩ : ∃ m, k = m + 1 := ⟨k - 1, by omega⟩
    rw [loopJ] at h ⊢
    split at h
    · rename_i e
      rw [if_pos e]
      exact loop_more f _ r h k (by omega)
    · rename_i e
      rw [if_neg e]
      exact h
theorem loop_fuel {bs : List S43} {does : List (List Int)} {none : List Int} {n : Nat} (hb : okN bs) (hd : okL n bs.length does) (hn : setOk n none) (m : Nat) : ∀ s : List (List Int) × List (List Int), totP n (s.1, s.2, false) = m → okS n bs.length (s.1, s.2, false) → ∃ r, loopJ bs does none (m + 1) s = some r := by
  induction m using Nat.strongRecOn with
  | _ m ih =>
    intro s hm hs
    obtain ⟨k1, k2, k3⟩ := pass_cnt hb hd hn bs.length (s.1, s.2, false) (Nat.le_refl _) hs
    by_cases hc : (passJ bs does none bs.length (s.1, s.2, false)).2.2 = true
    · have hlt : totP n (passJ bs does none bs.length (s.1, s.2, false)) < m := by
        rcases k3 hc with h | h
        · cases h
        · omega
      obtain ⟨r, hr⟩ := ih _ hlt ((passJ bs does none bs.length (s.1, s.2, false)).1, (passJ bs does none bs.length (s.1, s.2, false)).2.1) rfl k1
      exact ⟨r, by rw [loopJ, if_pos hc]; exact loop_more _ _ _ hr m (by have : totP n ((passJ bs does none bs.length (s.1, s.2, false)).1, (passJ bs does none bs.length (s.1, s.2, false)).2.1, false) = totP n (passJ bs does none bs.length (s.1, s.2, false)) := rfl; omega)⟩
    · exact ⟨_, by rw [loopJ, if_neg hc]⟩
/-- live.Live of any graph within the sizes is told. -/
theorem live_told {g : S28} (h : sizesAB g = true) : ∃ r, liveF g = some r := by
  unfold liveF
  rw [if_pos h]
  by_cases ha : aloneG g = true
  · rw [if_pos ha]
    have hg := good_of ha
    obtain ⟨r, hr⟩ := loop_fuel (next_ok hg) (does0_ok hg) (zeros_ok (sizeN g)) _ (into0 g, out0 g) rfl ⟨into0_ok hg, out0_ok hg⟩
    refine ⟨(r.1.map (listG g.f3.length), r.2.map (listG g.f3.length), 0), ?_⟩
    unfold liveG fuelG
    rw [hr]
    rfl
  · rw [if_neg ha]
    exact ⟨_, rfl⟩
end Go.Proofs.YtanhnfhpajaolaaDoor.Fo
-- printed by px2.py, a program of this session, by way of the kit's print; Lean checks it
namespace Go.Proofs.YtanhnfhpajaolaaDoor.F
open Go.RowKit Go.Proofs.YtanhnfhpajaolaaDoorW.PrintWords Go.Proofs.YtanhnfhpajaolaaDoorW.PrintLast Go.Proofs.YtanhnfhpajaolaaDoorW.PrintMore
attribute [local go_sem] max2_int min2_int max_two min_two max_three min_three max_four min_four   -- for this text's walks alone
set_option linter.unusedVariables false
set_option linter.unusedSimpArgs false

/-! ### smithykit_SameInts: function 19 -/
def smithykit_SameInts.l0 : Nat → List Int → List Int → Int → Option (Bool)
  | 0, _, _, _ => none
  | k + 1, x0, x1, x5 => if x5 < (x0.length : Int) then (if 0 ≤ x5 then (if x5 < (x1.length : Int) then (if (rd x0 x5) = (rd x1 x5) then (smithykit_SameInts.l0 k x0 x1 (wrap64 (x5 + 1))) else (some false)) else (none)) else (none)) else (some true)
def smithykit_SameInts.f (k : Nat) (l0 : List Int) (l1 : List Int) : Option (Bool) := if (l0.length : Int) = (l1.length : Int) then (smithykit_SameInts.l0 k l0 l1 0) else (some false)
theorem smithykit_SameInts.mono_l : ∀ k, (∀ y0 y1 y2, LeO (smithykit_SameInts.l0 k y0 y1 y2) (smithykit_SameInts.l0 (k + 1) y0 y1 y2))
  | 0 => fun _ _ _ r h => by simp [smithykit_SameInts.l0] at h
  | k + 1 => by
    have ih0 := smithykit_SameInts.mono_l k
    · intro y0 y1 y2
      unfold smithykit_SameInts.l0
      repeat' first
      | (with_reducible exact ih0 _ _ _)
      | (with_reducible exact LeO.refl _)
      | (with_reducible exact LeO.none _)
      | (with_reducible refine LeO.ite ?_ ?_)
      | (with_reducible refine LeO.bind ?_ (fun _ => ?_))
      | exact ih0 _ _ _
      | exact LeO.none _
      | refine LeO.ite ?_ ?_
      | refine LeO.bind ?_ (fun _ => ?_)
theorem smithykit_SameInts.mono : ∀ a0 a1 k, LeO (smithykit_SameInts.f k a0 a1) (smithykit_SameInts.f (k + 1) a0 a1) := by
  intro a0 a1 k
  have ih0 := smithykit_SameInts.mono_l k
  unfold smithykit_SameInts.f
  repeat' first
      | (with_reducible exact ih0 _ _ _)
      | (with_reducible exact LeO.refl _)
      | (with_reducible exact LeO.none _)
      | (with_reducible refine LeO.ite ?_ ?_)
      | (with_reducible refine LeO.bind ?_ (fun _ => ?_))
      | exact ih0 _ _ _
      | exact LeO.none _
      | refine LeO.ite ?_ ?_
      | refine LeO.bind ?_ (fun _ => ?_)
set_option maxHeartbeats 8000000 in
set_option maxRecDepth 100000 in
theorem smithykit_SameInts.calls (k : Nat) (A0 : Option Addr) (c0 : Nat) (l0 : List Int) (A1 : Option Addr) (c1 : Nat) (l1 : List Int) (r : Bool) (w : World) (hr0 : Kd.C (Kd.int .i64) w A0 l0.length l0) (hc0 : l0.length ≤ c0) (hr1 : Kd.C (Kd.int .i64) w A1 l1.length l1) (hc1 : l1.length ≤ c1) (h : smithykit_SameInts.f k l0 l1 = some r) :
    Calls Tryd.prog 19 #[.slice A0 l0.length c0, .slice A1 l1.length c1] w fun e w' => e = .returned (.bool r) ∧ Drawn0 w w' := by
 have HR0 := Aside0.mk hr0
 have HC0 := Aside0.mk hc0
 clear hr0 hc0
 have HR1 := Aside0.mk hr1
 have HC1 := Aside0.mk hc1
 clear hr1 hc1
 have H : (if (l0.length : Int) = (l1.length : Int) then (smithykit_SameInts.l0 k l0 l1 0) else (some false)) = some r := h
 clear h
 by_cases c3 : (l0.length : Int) = (l1.length : Int)
 ·
  rw [if_pos c3] at H
  have c3b0 : ((l0.length : Int) == (l1.length : Int)) = true := beq_iff_eq.mpr c3
  have c3b1 : ((l0.length : Int) != (l1.length : Int)) = false := bne_eq_false_iff_eq.mpr c3
  have c3b2 : (l0.length == l1.length) = true := by first | simpa using c3 | (simp at c3 ⊢; omega)
  clear c3
  have H' := Aside0.mk H
  clear H
  go_enter Tryd.func19, Tryd.ntmps19
  go_wp2
  repeat (go_quiet (fail); try go_wp2)
  go_loopg [5] k (fun kq v5 w' => ∃ (x5_1 : Int), v5 = .int .i64 x5_1 ∧ Aside0 (smithykit_SameInts.l0 kq l0 l1 x5_1 = some r) ∧ Aside0 (kq ≤ k) ∧ Drawn0 w w')
  case atStart => exact ⟨(0), (by first | rfl | (simp; done) | (simp [*]; done)), H', ⟨Nat.le_refl _⟩, by repeat (first | exact Drawn0.refl _ | apply Drawn0.step)⟩
  case round =>
   clear H'
   try clear c1
   try clear p2
   try clear c3
   try clear c3b0
   try clear c3b1
   try clear c3b2
   obtain ⟨x5_1, rfl, HA, HK1, ⟨m1, rfl⟩⟩ := hrel
   cases gk with
   | zero => exact absurd HA.out (by simp [smithykit_SameInts.l0])
   | succ k1 =>
    have H := HA.out
    clear HA
    simp only [smithykit_SameInts.l0] at H
    by_cases c4 : x5_1 < (l0.length : Int)
    ·
     rw [if_pos c4] at H
     have c4b0 : decide (x5_1 < (l0.length : Int)) = true := decide_eq_true c4
     clear c4
     by_cases c5 : 0 ≤ x5_1
     ·
      rw [if_pos c5] at H
      have c5b0 : decide (0 ≤ x5_1) = true := decide_eq_true c5
      clear c5
      by_cases c6 : x5_1 < (l1.length : Int)
      ·
       rw [if_pos c6] at H
       have c6b0 : decide (x5_1 < (l1.length : Int)) = true := decide_eq_true c6
       clear c6
       by_cases c7 : (rd l0 x5_1) = (rd l1 x5_1)
       ·
        rw [if_pos c7] at H
        have c7b0 : ((rd l0 x5_1) == (rd l1 x5_1)) = true := beq_iff_eq.mpr c7
        have c7b1 : ((rd l0 x5_1) != (rd l1 x5_1)) = false := bne_eq_false_iff_eq.mpr c7
        clear c7
        have H' := Aside0.mk H
        clear H
        have p248 : 0 ≤ (x5_1 : Int) := of_decide_eq_true (by first | (with_reducible assumption) | assumption)
        have q248 : x5_1 < (l0.length : Int) := of_decide_eq_true (by first | (with_reducible assumption) | assumption)
        obtain ⟨ad248, e248, hx248_0⟩ := Kd.at_int HR0.out x5_1 p248 q248
        cases e248
        replace p248 := eq_true p248
        replace q248 := eq_true q248
        have p249 : 0 ≤ (x5_1 : Int) := of_decide_eq_true (by first | (with_reducible assumption) | assumption)
        have q249 : x5_1 < (l1.length : Int) := of_decide_eq_true (by first | (with_reducible assumption) | assumption)
        obtain ⟨ad249, e249, hx249_0⟩ := Kd.at_int HR1.out x5_1 p249 q249
        cases e249
        replace p249 := eq_true p249
        replace q249 := eq_true q249
        go_wp2
        repeat (go_quiet (fail); try go_wp2)
        go_roundg k1
        case measure => have := HK1.out; omega
        case rel => exact ⟨(wrap64 (x5_1 + 1)), (by first | rfl | (simp; done) | (simp [*]; done)), H', ⟨by have := HK1.out; omega⟩, by repeat (first | exact Drawn0.refl _ | apply Drawn0.step)⟩
       ·
        rw [if_neg c7] at H
        have c7b0 : ((rd l0 x5_1) == (rd l1 x5_1)) = false := beq_eq_false_iff_ne.mpr c7
        have c7b1 : ((rd l0 x5_1) != (rd l1 x5_1)) = true := bne_iff_ne.mpr c7
        obtain rfl := Option.some.inj H
        have p248 : 0 ≤ (x5_1 : Int) := of_decide_eq_true (by first | (with_reducible assumption) | assumption)
        have q248 : x5_1 < (l0.length : Int) := of_decide_eq_true (by first | (with_reducible assumption) | assumption)
        obtain ⟨ad248, e248, hx248_0⟩ := Kd.at_int HR0.out x5_1 p248 q248
        cases e248
        replace p248 := eq_true p248
        replace q248 := eq_true q248
        have p249 : 0 ≤ (x5_1 : Int) := of_decide_eq_true (by first | (with_reducible assumption) | assumption)
        have q249 : x5_1 < (l1.length : Int) := of_decide_eq_true (by first | (with_reducible assumption) | assumption)
        obtain ⟨ad249, e249, hx249_0⟩ := Kd.at_int HR1.out x5_1 p249 q249
        cases e249
        replace p249 := eq_true p249
        replace q249 := eq_true q249
        go_wp2
        repeat (go_quiet (fail); try go_wp2)
        go_ret
        exact ⟨by first | rfl | (simp; done) | (simp [*]; done), by repeat (first | exact Drawn0.refl _ | apply Drawn0.step)⟩
      ·
       rw [if_neg c6] at H
       exact absurd H (by simp)
     ·
      rw [if_neg c5] at H
      exact absurd H (by simp)
    ·
     rw [if_neg c4] at H
     have c4b0 : decide (x5_1 < (l0.length : Int)) = false := decide_eq_false c4
     clear c4
     obtain rfl := Option.some.inj H
     go_wp2
     repeat (go_quiet (fail); try go_wp2)
     go_ret
     exact ⟨by first | rfl | (simp; done) | (simp [*]; done), by repeat (first | exact Drawn0.refl _ | apply Drawn0.step)⟩
 ·
  rw [if_neg c3] at H
  have c3b0 : ((l0.length : Int) == (l1.length : Int)) = false := beq_eq_false_iff_ne.mpr c3
  have c3b1 : ((l0.length : Int) != (l1.length : Int)) = true := bne_iff_ne.mpr c3
  have c3b2 : (l0.length == l1.length) = false := by first | simpa using c3 | (simp at c3 ⊢; omega)
  obtain rfl := Option.some.inj H
  go_enter Tryd.func19, Tryd.ntmps19
  go_wp2
  repeat (go_quiet (fail); try go_wp2)
  go_ret
  exact ⟨by first | rfl | (simp; done) | (simp [*]; done), by repeat (first | exact Drawn0.refl _ | apply Drawn0.step)⟩

end Go.Proofs.YtanhnfhpajaolaaDoor.F
-- printed by px2.py, a program of this session, by way of the kit's print; Lean checks it
namespace Go.Proofs.YtanhnfhpajaolaaDoor.F
open Go.RowKit Go.Proofs.YtanhnfhpajaolaaDoorW.PrintWords Go.Proofs.YtanhnfhpajaolaaDoorW.PrintLast Go.Proofs.YtanhnfhpajaolaaDoorW.PrintMore
attribute [local go_sem] max2_int min2_int max_two min_two max_three min_three max_four min_four   -- for this text's walks alone
set_option linter.unusedVariables false
set_option linter.unusedSimpArgs false

/-! ### smithykit_SameRows: function 17 -/
def smithykit_SameRows.l0 : Nat → List (List Int) → List (List Int) → Int → Option (Bool)
  | 0, _, _, _ => none
  | k + 1, x0, x1, x5 => if x5 < (x0.length : Int) then (if 0 ≤ x5 then (if x5 < (x1.length : Int) then ((smithykit_SameInts.f k (rd_L2 x0 x5) (rd_L2 x1 x5)).bind fun t252 => (if t252 = true then (smithykit_SameRows.l0 k x0 x1 (wrap64 (x5 + 1))) else (some false))) else (none)) else (none)) else (some true)
def smithykit_SameRows.f (k : Nat) (l0 : List (List Int)) (l1 : List (List Int)) : Option (Bool) := if (l0.length : Int) = (l1.length : Int) then (smithykit_SameRows.l0 k l0 l1 0) else (some false)
theorem smithykit_SameRows.mono_l : ∀ k, (∀ y0 y1 y2, LeO (smithykit_SameRows.l0 k y0 y1 y2) (smithykit_SameRows.l0 (k + 1) y0 y1 y2))
  | 0 => fun _ _ _ r h => by simp [smithykit_SameRows.l0] at h
  | k + 1 => by
    have ih0 := smithykit_SameRows.mono_l k
    · intro y0 y1 y2
      unfold smithykit_SameRows.l0
      repeat' first
      | (with_reducible exact ih0 _ _ _)
      | (with_reducible exact smithykit_SameInts.mono _ _ _)
      | (with_reducible exact LeO.refl _)
      | (with_reducible exact LeO.none _)
      | (with_reducible refine LeO.ite ?_ ?_)
      | (with_reducible refine LeO.bind ?_ (fun _ => ?_))
      | exact ih0 _ _ _
      | exact smithykit_SameInts.mono _ _ _
      | exact LeO.none _
      | refine LeO.ite ?_ ?_
      | refine LeO.bind ?_ (fun _ => ?_)
theorem smithykit_SameRows.mono : ∀ a0 a1 k, LeO (smithykit_SameRows.f k a0 a1) (smithykit_SameRows.f (k + 1) a0 a1) := by
  intro a0 a1 k
  have ih0 := smithykit_SameRows.mono_l k
  unfold smithykit_SameRows.f
  repeat' first
      | (with_reducible exact ih0 _ _ _)
      | (with_reducible exact smithykit_SameInts.mono _ _ _)
      | (with_reducible exact LeO.refl _)
      | (with_reducible exact LeO.none _)
      | (with_reducible refine LeO.ite ?_ ?_)
      | (with_reducible refine LeO.bind ?_ (fun _ => ?_))
      | exact ih0 _ _ _
      | exact smithykit_SameInts.mono _ _ _
      | exact LeO.none _
      | refine LeO.ite ?_ ?_
      | refine LeO.bind ?_ (fun _ => ?_)
set_option maxHeartbeats 8000000 in
set_option maxRecDepth 100000 in
theorem smithykit_SameRows.calls (k : Nat) (A0 : Option Addr) (c0 : Nat) (l0 : List (List Int)) (A1 : Option Addr) (c1 : Nat) (l1 : List (List Int)) (r : Bool) (w : World) (hr0 : Kd.C (Kd.slice 3 (Kd.int .i64)) w A0 l0.length l0) (hc0 : l0.length ≤ c0) (hr1 : Kd.C (Kd.slice 3 (Kd.int .i64)) w A1 l1.length l1) (hc1 : l1.length ≤ c1) (h : smithykit_SameRows.f k l0 l1 = some r) :
    Calls Tryd.prog 17 #[.slice A0 l0.length c0, .slice A1 l1.length c1] w fun e w' => e = .returned (.bool r) ∧ Drawn0 w w' := by
 have HR0 := Aside0.mk hr0
 have HC0 := Aside0.mk hc0
 clear hr0 hc0
 have HR1 := Aside0.mk hr1
 have HC1 := Aside0.mk hc1
 clear hr1 hc1
 have H : (if (l0.length : Int) = (l1.length : Int) then (smithykit_SameRows.l0 k l0 l1 0) else (some false)) = some r := h
 clear h
 by_cases c3 : (l0.length : Int) = (l1.length : Int)
 ·
  rw [if_pos c3] at H
  have c3b0 : ((l0.length : Int) == (l1.length : Int)) = true := beq_iff_eq.mpr c3
  have c3b1 : ((l0.length : Int) != (l1.length : Int)) = false := bne_eq_false_iff_eq.mpr c3
  have c3b2 : (l0.length == l1.length) = true := by first | simpa using c3 | (simp at c3 ⊢; omega)
  clear c3
  have H' := Aside0.mk H
  clear H
  go_enter Tryd.func17, Tryd.ntmps17
  go_wp2
  repeat (go_quiet (fail); try go_wp2)
  go_loopg [5] k (fun kq v5 w' => ∃ (x5_1 : Int), v5 = .int .i64 x5_1 ∧ Aside0 (smithykit_SameRows.l0 kq l0 l1 x5_1 = some r) ∧ Aside0 (kq ≤ k) ∧ Drawn0 w w')
  case atStart => exact ⟨(0), (by first | rfl | (simp; done) | (simp [*]; done)), H', ⟨Nat.le_refl _⟩, by repeat (first | exact Drawn0.refl _ | apply Drawn0.step)⟩
  case round =>
   clear H'
   try clear c1
   try clear p2
   try clear c3
   try clear c3b0
   try clear c3b1
   try clear c3b2
   obtain ⟨x5_1, rfl, HA, HK1, ⟨m1, rfl⟩⟩ := hrel
   cases gk with
   | zero => exact absurd HA.out (by simp [smithykit_SameRows.l0])
   | succ k1 =>
    have H := HA.out
    clear HA
    simp only [smithykit_SameRows.l0] at H
    by_cases c4 : x5_1 < (l0.length : Int)
    ·
     rw [if_pos c4] at H
     have c4b0 : decide (x5_1 < (l0.length : Int)) = true := decide_eq_true c4
     clear c4
     by_cases c5 : 0 ≤ x5_1
     ·
      rw [if_pos c5] at H
      have c5b0 : decide (0 ≤ x5_1) = true := decide_eq_true c5
      clear c5
      by_cases c6 : x5_1 < (l1.length : Int)
      ·
       rw [if_pos c6] at H
       have c6b0 : decide (x5_1 < (l1.length : Int)) = true := decide_eq_true c6
       clear c6
       replace H := Option.bind_eq_some_iff.mp H
       obtain ⟨t252, A70, H⟩ := H
       replace H : (if t252 = true then (smithykit_SameRows.l0 k1 l0 l1 (wrap64 (x5_1 + 1))) else (some false)) = some r := H
       have A7 := Aside0.mk A70
       clear A70
       have HF8 := Aside0.mk H
       clear H
       have p250 : 0 ≤ (x5_1 : Int) := of_decide_eq_true (by first | (with_reducible assumption) | assumption)
       have q250 : x5_1 < (l0.length : Int) := of_decide_eq_true (by first | (with_reducible assumption) | assumption)
       obtain ⟨ad250, A250_0, c250_0, e250, hx250_0, hl250_0, hi250_0⟩ := at_L2 HR0.out x5_1 p250 q250
       cases e250
       have HR250_0 := Aside0.mk hi250_0
       have HC250_0 := Aside0.mk hl250_0
       clear hi250_0 hl250_0
       replace p250 := eq_true p250
       replace q250 := eq_true q250
       have p251 : 0 ≤ (x5_1 : Int) := of_decide_eq_true (by first | (with_reducible assumption) | assumption)
       have q251 : x5_1 < (l1.length : Int) := of_decide_eq_true (by first | (with_reducible assumption) | assumption)
       obtain ⟨ad251, A251_0, c251_0, e251, hx251_0, hl251_0, hi251_0⟩ := at_L2 HR1.out x5_1 p251 q251
       cases e251
       have HR251_0 := Aside0.mk hi251_0
       have HC251_0 := Aside0.mk hl251_0
       clear hi251_0 hl251_0
       replace p251 := eq_true p251
       replace q251 := eq_true q251
       go_upto_if 26 with (first | (go_at_call 19; (with_reducible refine (smithykit_SameInts.calls k1 _ _ (rd_L2 l0 x5_1) _ _ (rd_L2 l1 x5_1) t252 _ ?side1 ?side2 ?side3 ?side4 A7.out).mono ?_); (case side1 => repeat (first | exact HR250_0.out | (with_reducible refine Kd.C_alloc ?_ _) | (with_reducible refine Kd.C_drewN ?_ _) | (with_reducible refine Kd.C_drew ?_))); (case side2 => exact HC250_0.out); (case side3 => repeat (first | exact HR251_0.out | (with_reducible refine Kd.C_alloc ?_ _) | (with_reducible refine Kd.C_drewN ?_ _) | (with_reducible refine Kd.C_drew ?_))); (case side4 => exact HC251_0.out); rintro e w' ⟨rfl, ⟨nd, rfl⟩⟩; (try first | exact ⟨rfl, _, World.drewN_drewN _ _ _⟩ | exact ⟨rfl, _, Eq.trans (World.drewN_drewN _ _ _) (congrArg (World.drewN _) (Nat.add_assoc _ _ _))⟩)))
       repeat (go_quiet (first | (go_at_call 19; (with_reducible refine (smithykit_SameInts.calls k1 _ _ (rd_L2 l0 x5_1) _ _ (rd_L2 l1 x5_1) t252 _ ?side1 ?side2 ?side3 ?side4 A7.out).mono ?_); (case side1 => repeat (first | exact HR250_0.out | (with_reducible refine Kd.C_alloc ?_ _) | (with_reducible refine Kd.C_drewN ?_ _) | (with_reducible refine Kd.C_drew ?_))); (case side2 => exact HC250_0.out); (case side3 => repeat (first | exact HR251_0.out | (with_reducible refine Kd.C_alloc ?_ _) | (with_reducible refine Kd.C_drewN ?_ _) | (with_reducible refine Kd.C_drew ?_))); (case side4 => exact HC251_0.out); rintro e w' ⟨rfl, ⟨nd, rfl⟩⟩; (try first | exact ⟨rfl, _, World.drewN_drewN _ _ _⟩ | exact ⟨rfl, _, Eq.trans (World.drewN_drewN _ _ _) (congrArg (World.drewN _) (Nat.add_assoc _ _ _))⟩))); go_upto_if 26 with (first | (go_at_call 19; (with_reducible refine (smithykit_SameInts.calls k1 _ _ (rd_L2 l0 x5_1) _ _ (rd_L2 l1 x5_1) t252 _ ?side1 ?side2 ?side3 ?side4 A7.out).mono ?_); (case side1 => repeat (first | exact HR250_0.out | (with_reducible refine Kd.C_alloc ?_ _) | (with_reducible refine Kd.C_drewN ?_ _) | (with_reducible refine Kd.C_drew ?_))); (case side2 => exact HC250_0.out); (case side3 => repeat (first | exact HR251_0.out | (with_reducible refine Kd.C_alloc ?_ _) | (with_reducible refine Kd.C_drewN ?_ _) | (with_reducible refine Kd.C_drew ?_))); (case side4 => exact HC251_0.out); rintro e w' ⟨rfl, ⟨nd, rfl⟩⟩; (try first | exact ⟨rfl, _, World.drewN_drewN _ _ _⟩ | exact ⟨rfl, _, Eq.trans (World.drewN_drewN _ _ _) (congrArg (World.drewN _) (Nat.add_assoc _ _ _))⟩))))
       (try simp only [Act.put, List.setIfInBounds_toArray, List.set_cons_zero, List.set_cons_succ])
       have H := HF8.out
       clear HF8
       by_cases c9 : t252 = true
       ·
        subst c9
        have H1 : (smithykit_SameRows.l0 k1 l0 l1 (wrap64 (x5_1 + 1))) = some r := by rw [if_pos rfl] at H; exact H
        clear H
        have H := H1
        clear H1
        have H' := Aside0.mk H
        clear H
        go_wp2
        repeat (go_quiet (fail); try go_wp2)
        go_roundg k1
        case measure => have := HK1.out; omega
        case rel => exact ⟨(wrap64 (x5_1 + 1)), (by first | rfl | (simp; done) | (simp [*]; done)), H', ⟨by have := HK1.out; omega⟩, by repeat (first | exact Drawn0.refl _ | apply Drawn0.step)⟩
       ·
        replace c9 := Bool.eq_false_iff.mpr c9
        subst c9
        have H1 : (some false) = some r := by rw [if_neg (show ¬ (false = true) by decide)] at H; exact H
        clear H
        have H := H1
        clear H1
        obtain rfl := Option.some.inj H
        go_wp2
        repeat (go_quiet (fail); try go_wp2)
        go_ret
        exact ⟨by first | rfl | (simp; done) | (simp [*]; done), by repeat (first | exact Drawn0.refl _ | apply Drawn0.step)⟩
      ·
       rw [if_neg c6] at H
       exact absurd H (by simp)
     ·
      rw [if_neg c5] at H
      exact absurd H (by simp)
    ·
     rw [if_neg c4] at H
     have c4b0 : decide (x5_1 < (l0.length : Int)) = false := decide_eq_false c4
     clear c4
     obtain rfl := Option.some.inj H
     go_wp2
     repeat (go_quiet (fail); try go_wp2)
     go_ret
     exact ⟨by first | rfl | (simp; done) | (simp [*]; done), by repeat (first | exact Drawn0.refl _ | apply Drawn0.step)⟩
 ·
  rw [if_neg c3] at H
  have c3b0 : ((l0.length : Int) == (l1.length : Int)) = false := beq_eq_false_iff_ne.mpr c3
  have c3b1 : ((l0.length : Int) != (l1.length : Int)) = true := bne_iff_ne.mpr c3
  have c3b2 : (l0.length == l1.length) = false := by first | simpa using c3 | (simp at c3 ⊢; omega)
  obtain rfl := Option.some.inj H
  go_enter Tryd.func17, Tryd.ntmps17
  go_wp2
  repeat (go_quiet (fail); try go_wp2)
  go_ret
  exact ⟨by first | rfl | (simp; done) | (simp [*]; done), by repeat (first | exact Drawn0.refl _ | apply Drawn0.step)⟩

end Go.Proofs.YtanhnfhpajaolaaDoor.F
