/- Texts of this proof, joined in build order: Kp. -/
import Derived.Test.YtligpleningglaaGreatCz
import Derived.Test.YtligpleningglaaGreatC14
import Derived.Deep.DeepCutAuto
set_option linter.unusedVariables false
set_option linter.unusedSimpArgs false
set_option linter.unusedSectionVars false
set_option maxHeartbeats 8000000
set_option maxRecDepth 100000
namespace Go.Proofs.YtligpleningglaaGreat.Lk
open Go Go.RowKit Go.Proofs.YtligpleningglaaGreatW.PrintWords Go.Proofs.YtligpleningglaaGreatW.PrintLast Go.Proofs.YtligpleningglaaGreatW.PrintMore Go.Proofs.YtligpleningglaaGreat.F
theorem kp0 {p : Prop} (h : p := by exact fun a w' hG hd hf K hK => by have f0 := Rs.ld (hd 0 _ rfl rfl _ rfl) rfl; have f1 := Rs.ld (hd 1 _ rfl rfl _ rfl) rfl; exact Rs.ok_val ((Rs.want_on rfl rfl (hd 2 _ rfl rfl _ rfl)).trans rfl) Rs.gs (hK w' hG)) : p := h
theorem kp1 {p : Prop} (h : p := by exact fun a w' hG hd hf K hK => Rs.ok_off ((Rs.want_on rfl rfl (hd 0 _ rfl rfl _ rfl)).trans rfl) (hK w' hG)) : p := h
theorem kp2 {p : Prop} (h : p := by exact fun a w' hG hd hf K hK => by have f0 := Rs.ld (hd 0 _ rfl rfl _ rfl) rfl; exact Rs.ok_val ((Rs.want_on rfl rfl (hd 1 _ rfl rfl _ rfl)).trans rfl) Rs.gs (hK w' hG)) : p := h
theorem kp3 {p : Prop} (h : p := by exact fun a w' hG hd hf K hK => Rs.ok_off ((Rs.want_on rfl rfl (hd 1 _ rfl rfl _ rfl)).trans rfl) (hK w' hG)) : p := h
theorem kp4 {p : Prop} (h : p := by exact fun a w' hG hd hf K hK => by have f0 := Rs.lf (hf 6 cq6) rfl; exact Rs.ok_val ((Rs.want_on rfl rfl (hd 0 _ rfl rfl _ rfl)).trans rfl) Rs.gs (hK w' hG)) : p := h
theorem kp5 {p : Prop} (h : p := by exact fun a w' hG hd hf K hK => by have f0 := Rs.ld (hd 0 _ rfl rfl _ rfl) rfl; exact Rs.ok_val (Rs.want_none rfl) Rs.gs (hK w' hG)) : p := h
theorem kp6 {p : Prop} (h : p := by exact fun a w' hG hd hf K hK => by have f0 := Rs.ld (hd 0 _ rfl rfl _ rfl) rfl; have f1 := Rs.ld (hd 1 _ rfl rfl _ rfl) rfl; exact Rs.ok_val (Rs.want_none rfl) Rs.gs (hK w' hG)) : p := h
theorem kp7 {p : Prop} (h : p := by exact fun a w' hG hd hf K hK => Rs.ok_off ((Rs.want_on rfl rfl (hd 2 _ rfl rfl _ rfl)).trans rfl) (hK w' hG)) : p := h
theorem kp8 {p : Prop} (h : p := by exact fun a w' hG hd hf K hK => by have f0 := Rs.lf (hf 1 cq6) rfl; exact Rs.ok_val ((Rs.want_on rfl rfl (hd 0 _ rfl rfl _ rfl)).trans rfl) Rs.gs (hK w' hG)) : p := h
theorem kp9 {p : Prop} (h : p := by exact fun a w' hG hd hf K hK => by have f0 := Rs.lf (hf 5 cq6) rfl; exact Rs.ok_val ((Rs.want_on rfl rfl (hd 0 _ rfl rfl _ rfl)).trans rfl) Rs.gs (hK w' hG)) : p := h
theorem kp10 {p : Prop} (h : p := by exact fun a w' hG hd hf K hK => by have f0 := Rs.lf (hf 6 cq6) rfl; exact Rs.ok_val (Rs.want_none rfl) Rs.gs (hK w' hG)) : p := h
theorem kp11 {p : Prop} (h : p := by exact fun a w' hG hd hf K hK => by have f0 := Rs.lf (hf 1 cq6) rfl; exact Rs.ok_val (Rs.want_none rfl) Rs.gs (hK w' hG)) : p := h
theorem kp12 {p : Prop} (h : p := by exact fun a w' hG hd hf K hK => by have f0 := Rs.ld (hd 0 _ rfl rfl _ rfl) rfl; have z0 := pw_cell_below hG hg0; exact Rs.ok_val ((Rs.want_on rfl rfl (hd 1 _ rfl rfl _ rfl)).trans rfl) Rs.gs (hK w' hG)) : p := h
theorem kp13 {p : Prop} (h : p := by exact fun a w' hG hd hf K hK => by have f0 := Rs.ld (hd 0 _ rfl rfl _ rfl) rfl; have z0 := pw_cell_below hG hg0; have z1 := pw_cell_below hG hg1; have z2 := pw_cell_below hG hg2; have z3 := pw_cell_below hG hg3; have z4 := pw_cell_below hG hg4; have z5 := pw_cell_below hG hg5; exact Rs.ok_val ((Rs.want_on rfl rfl (hd 1 _ rfl rfl _ rfl)).trans rfl) Rs.gs (hK w' hG)) : p := h
theorem kp14 {p : Prop} (h : p := by exact fun a w' hG hd hf K hK => Rs.ok_off (Rs.want_undef rfl rfl (hd 1 _ rfl rfl _ rfl)) (hK w' hG)) : p := h
theorem kp15 {p : Prop} (h : p := by exact fun a w' hG hd hf K hK => Rs.ok_off (Rs.want_undef rfl rfl (hd 0 _ rfl rfl _ rfl)) (hK w' hG)) : p := h
theorem kp16 {p : Prop} (h : p := by exact fun a w' hG hd hf K hK => by have f0 := Rs.ld (hd 0 _ rfl rfl _ rfl) rfl; have z0 := pw_cell_below hG hx0; exact Rs.ok_val ((Rs.want_on rfl rfl (hd 1 _ rfl rfl _ rfl)).trans rfl) Rs.gs (hK w' hG)) : p := h
theorem kp17 {p : Prop} (h : p := by exact fun a w' hG hd hf K hK => by have f0 := Rs.ld (hd 0 _ rfl rfl _ rfl) rfl; have z0 := pw_cell_below hG hx0; have z1 := pw_cell_below hG hx1; have z2 := pw_cell_below hG hx2; have z3 := pw_cell_below hG hx3; have z4 := pw_cell_below hG hx4; have z5 := pw_cell_below hG hx5; exact Rs.ok_val ((Rs.want_on rfl rfl (hd 1 _ rfl rfl _ rfl)).trans rfl) Rs.gs (hK w' hG)) : p := h
theorem kp18 {p : Prop} (h : p := by exact fun a w' hG hd hf K hK => Rs.ok_off ((Rs.want_on rfl rfl (hd 3 _ rfl rfl _ rfl)).trans rfl) (hK w' hG)) : p := h
theorem kp19 {p : Prop} (h : p := by exact fun a w' hG hd hf K hK => Rs.ok_off (Rs.want_undef rfl rfl (hd 2 _ rfl rfl _ rfl)) (hK w' hG)) : p := h
theorem keptInts_calls (v : Value) (A : Option Addr) (c : Nat) (l : List Int) (w : World) (ho : (lInts).K w l [v]) (hr : Kd.C (Kd.int .i64) w A l.length l) (hc : l.length ≤ c) (hl : (l.length + 12) * 8 ≤ 140737488355328) :
 Calls Tryz.prog 30 #[v, .slice A l.length c] w fun e w' => e = .returned (.bool true) ∧ Below w.heap.size w w' := by
 obtain ⟨A0, cap, e, -, hcap, hO⟩ := ho
 obtain rfl : v = .slice A0 l.length cap := List.head_eq_of_cons_eq e
 have hfl : (l ++ mks mI 12).length = l.length + 12 := by rw [List.length_append, mks_len]
 rw [hfl] at hcap hO
 clear e
 obtain ⟨ag, _, hA0, -⟩ := Kd.C_get hO 0 0 cq2 cq2
 subst hA0
 have HR := qA hr
 have HO := qA hO
 have HC := qA hc
 have hcap2 : l.length ≤ cap := by omega
 have hlb : l.length + 12 ≤ 140737488355328 := by omega
 have HB0 : Aside0 (Below w.heap.size w w) := ⟨Below.refl _ _⟩
 clear hr hO hl hfl
 go_enter Tryz.func30, Tryz.ntmps30
 go_wp2
 go_loopw [6] (fun v6 wr => ∃ j : Nat, j ≤ l.length + 12 ∧ v6 = .int .i64 (j : Int) ∧ Aside0 (Below w.heap.size w wr)) (fun i _ => l.length + 12 - (intOf i).toNat)
 case atStart => exact ⟨0, by omega, rfl, HB0⟩
 case round =>
  clear HB0
  obtain ⟨j, hj, rfl, HB⟩ := hrel
  by_cases hlt0 : j < l.length + 12
  ·by_cases hlt : j < l.length
   ·obtain ⟨ad, cx, hA, -, hKx, hcx⟩ := Kd.C_get HR.out 0 (j : Int) cq2 cq2
    subst hA
    obtain ⟨ag', cg, hag, -, hKg, hcg⟩ := Kd.C_get HO.out 0 (j : Int) cq2 cq2
    obtain rfl : ag = ag' := by injection hag
    clear hag
    obtain ⟨x, hx⟩ : ∃ x, x = l[j] := ⟨_, rfl⟩
    rw [Int.toNat_natCast, getD_at (x := x) cq37] at hKx
    rw [Int.toNat_natCast, getD_at (x := x) (by rw [hx]; exact app_lo hlt)] at hKg
    rw [Int.toNat_natCast] at hcx hcg
    replace hcx : ∀ q u, cx[q]? = some u → w.cell? (ad.add (j * 1 + q)) = some u := hcx
    replace hcg : ∀ q u, cg[q]? = some u → w.cell? (ag.add (j * 1 + q)) = some u := hcg
    obtain rfl : cx = [.int .i64 x] := hKx
    obtain rfl : cg = [.int .i64 x] := hKg
    have hx0 := hcx 0 _ rfl
    rw [Nat.mul_one, Nat.add_zero] at hx0
    have hg0 := hcg 0 _ rfl
    rw [Nat.mul_one, Nat.add_zero] at hg0
    clear hcx hcg hx
    have hcc1 : decide ((j : Int) < (l.length : Int)) = true := by simp; omega
    have hcc2 : decide ((l.length : Int) ≤ (j : Int)) = false := by simp; omega
    have hcc3 : decide (j < l.length) = true := by simp; omega
    have hcc4 : decide (l.length ≤ j) = false := by simp; omega
    go_wp2_with fail
    go_upto_region 7 with (fail)
    go_cut [57] (fun v57 wx => v57 = .bool false ∧ Aside0 (Below w.heap.size w wx))
    case first =>
     refine Rs.wp_region_stable [23, 24, 25, 26, 27, 28, 29, 30, 31, 32, 33, 34, 35, 36, 37, 38, 39, 40, 41, 42, 43, 44, 45, 46, 47, 48, 49, 50, 51, 52, 53, 54, 55, 56, 57] [.int .i64 ((j : Int)), .slice (some ad) l.length c, .int .i64 ((l.length : Int)), .bool true, .bool true, .slice (some ag) (l.length + 12) cap, .int .i64 ((j : Int)), .pointer (some (ag.add j)), .int .i64 x, .slice (some ad) l.length c, .int .i64 ((j : Int)), .pointer (some (ad.add j)), .int .i64 x, .bool true, .bool false, .bool false, .bool false, .int .i64 ((j : Int)), .slice (some ad) l.length c, .int .i64 ((l.length : Int)), .bool false, .bool false, undef, undef, undef, undef, undef, undef, undef, undef, undef, undef, undef, .bool false, .bool false] (Below w.heap.size w) cq3 cq3 rfl (below_drew HB.out) ⟨kp10, kp11, kp5, kp6, kp5, kp9, kp4, kp0, kp12, kp8, kp4, kp0, kp16, kp0, kp2, kp6, kp5, kp4, kp8, kp2, kp0, kp2, kp1, kp1, kp7, kp3, kp1, kp1, kp3, kp7, kp3, kp7, kp3, kp0, kp6, trivial⟩ ?_
     intro wz hz
     simp only [Rs.putL, Act.put, qS, qZ, qN]
     go_wp2_with fail
     go_meet
     exact ⟨rfl, ⟨hz⟩⟩
    case rest =>
     obtain ⟨rfl, HB2⟩ := hcut
     go_wp2
     go_roundw
     case rel => exact ⟨j + 1, by omega, by go_num, HB2⟩
     case measure => simp [intOf]; omega
   ·obtain ⟨ag', cg, hag, -, hKg, hcg⟩ := Kd.C_get HO.out 0 (j : Int) cq2 cq2
    obtain rfl : ag = ag' := by injection hag
    clear hag
    rw [Int.toNat_natCast, getD_at (x := mI ((j : Int) - (l.length : Int))) (by exact app_mks (l := l) (g := mI) (m := 12) cq2 cq2)] at hKg
    rw [Int.toNat_natCast] at hcg
    replace hcg : ∀ q u, cg[q]? = some u → w.cell? (ag.add (j * 1 + q)) = some u := hcg
    obtain rfl : cg = [.int .i64 (mkI 1 ((j : Int) - (l.length : Int)))] := hKg
    have hg0 : w.cell? (ag.add (j * 1 + 0)) = some (.int .i64 (mkI 1 ((j : Int) - (l.length : Int)))) := hcg 0 _ rfl
    rw [Nat.mul_one, Nat.add_zero] at hg0
    clear hcg
    have hcc1 : decide ((j : Int) < (l.length : Int)) = false := by simp; omega
    have hcc2 : decide ((l.length : Int) ≤ (j : Int)) = true := by simp; omega
    have hcc3 : decide (j < l.length) = false := by simp; omega
    have hcc4 : decide (l.length ≤ j) = true := by simp; omega
    have hmk : ∀ W : World, Calls Tryz.prog 24 #[.int .i64 1, .int .i64 (wrap64 ((j : Int) - (l.length : Int)))] W fun e w' => e = .returned (.int .i64 (mkI 1 ((j : Int) - (l.length : Int)))) ∧ Below W.heap.size W w' := fun W => by rw [w64_small (n := (j : Int) - (l.length : Int)) cq2 cq2]; exact mark_calls 1 ((j : Int) - (l.length : Int)) W cq2 cq2 cq2 cq2
    have HMK := qA hmk
    clear hmk
    go_wp2_with fail
    go_upto_region 7 with (fail)
    go_cut [57] (fun v57 wx => v57 = .bool false ∧ Aside0 (Below w.heap.size w wx))
    case first =>
     refine Rs.wp_region_stable [23, 24, 25, 26, 27, 28, 29, 30, 31, 32, 33, 34, 35, 36, 37, 38, 39, 40, 41, 42, 43, 44, 45, 46, 47, 48, 49, 50, 51, 52, 53, 54, 55, 56, 57] [.int .i64 ((j : Int)), .slice A l.length c, .int .i64 ((l.length : Int)), .bool false, .bool false, undef, undef, undef, undef, undef, undef, undef, undef, undef, undef, .bool false, .bool false, .int .i64 ((j : Int)), .slice A l.length c, .int .i64 ((l.length : Int)), .bool true, .bool true, .slice (some ag) (l.length + 12) cap, .int .i64 ((j : Int)), .pointer (some (ag.add j)), .int .i64 (mkI 1 ((j : Int) - (l.length : Int))), .int .i64 ((j : Int)), .slice A l.length c, .int .i64 ((l.length : Int)), .int .i64 (wrap64 ((j : Int) - (l.length : Int))), .int .i64 (mkI 1 ((j : Int) - (l.length : Int))), .bool true, .bool false, .bool false, .bool false] (Below w.heap.size w) cq3 cq3 rfl (below_drew HB.out) ⟨kp10, kp11, kp5, kp6, kp5, kp1, kp1, kp7, kp3, kp1, kp1, kp7, kp3, kp7, kp3, kp6, kp5, kp4, kp8, kp2, kp0, kp2, kp9, kp4, kp0, kp12, kp4, kp8, kp2, kp0, ?s30, kp0, kp2, kp0, kp6, trivial⟩ ?_
     case s30 =>
      exact fun a w' hG hd hf K hK => by
       have e52 : a.tmps[52]? = some (.int .i64 (wrap64 ((j : Int) - (l.length : Int)))) := hd 0 _ rfl rfl _ rfl
       exact goes_ Tryz.func24 cq3 rfl #[.int .i64 1, .int .i64 (wrap64 ((j : Int) - (l.length : Int)))] ((Rs.want_on (t := 44) (b' := true) rfl rfl (hd 1 _ rfl rfl _ rfl)).trans rfl) rfl rfl cq38 (((HMK.out w').mono cq7))
     intro wz hz
     simp only [Rs.putL, Act.put, qS, qZ, qN]
     go_wp2_with fail
     go_meet
     exact ⟨rfl, ⟨hz⟩⟩
    case rest =>
     obtain ⟨rfl, HB2⟩ := hcut
     go_wp2
     go_roundw
     case rel => exact ⟨j + 1, by omega, by go_num, HB2⟩
     case measure => simp [intOf]; omega
  ·obtain rfl : j = l.length + 12 := by omega
   go_wp2
   go_ret
   exact ⟨rfl, HB.out⟩
theorem keptTypes_calls (v : Value) (A : Option Addr) (c : Nat) (l : List Int) (w : World) (ho : (lTypes).K w l [v]) (hr : Kd.C (Kd.int .u8) w A l.length l) (hc : l.length ≤ c) (hl : (l.length + 12) * 1 ≤ 140737488355328) :
 Calls Tryz.prog 52 #[v, .slice A l.length c] w fun e w' => e = .returned (.bool true) ∧ Below w.heap.size w w' := by
 obtain ⟨A0, cap, e, -, hcap, hO⟩ := ho
 obtain rfl : v = .slice A0 l.length cap := List.head_eq_of_cons_eq e
 have hfl : (l ++ mks mT 12).length = l.length + 12 := by rw [List.length_append, mks_len]
 rw [hfl] at hcap hO
 clear e
 obtain ⟨ag, _, hA0, -⟩ := Kd.C_get hO 0 0 cq2 cq2
 subst hA0
 have HR := qA hr
 have HO := qA hO
 have HC := qA hc
 have hcap2 : l.length ≤ cap := by omega
 have hlb : l.length + 12 ≤ 140737488355328 := by omega
 have HB0 : Aside0 (Below w.heap.size w w) := ⟨Below.refl _ _⟩
 clear hr hO hl hfl
 go_enter Tryz.func52, Tryz.ntmps52
 go_wp2
 go_loopw [6] (fun v6 wr => ∃ j : Nat, j ≤ l.length + 12 ∧ v6 = .int .i64 (j : Int) ∧ Aside0 (Below w.heap.size w wr)) (fun i _ => l.length + 12 - (intOf i).toNat)
 case atStart => exact ⟨0, by omega, rfl, HB0⟩
 case round =>
  clear HB0
  obtain ⟨j, hj, rfl, HB⟩ := hrel
  by_cases hlt0 : j < l.length + 12
  ·by_cases hlt : j < l.length
   ·obtain ⟨ad, cx, hA, -, hKx, hcx⟩ := Kd.C_get HR.out 0 (j : Int) cq2 cq2
    subst hA
    obtain ⟨ag', cg, hag, -, hKg, hcg⟩ := Kd.C_get HO.out 0 (j : Int) cq2 cq2
    obtain rfl : ag = ag' := by injection hag
    clear hag
    obtain ⟨x, hx⟩ : ∃ x, x = l[j] := ⟨_, rfl⟩
    rw [Int.toNat_natCast, getD_at (x := x) cq37] at hKx
    rw [Int.toNat_natCast, getD_at (x := x) (by rw [hx]; exact app_lo hlt)] at hKg
    rw [Int.toNat_natCast] at hcx hcg
    replace hcx : ∀ q u, cx[q]? = some u → w.cell? (ad.add (j * 1 + q)) = some u := hcx
    replace hcg : ∀ q u, cg[q]? = some u → w.cell? (ag.add (j * 1 + q)) = some u := hcg
    obtain rfl : cx = [.int .u8 x] := hKx
    obtain rfl : cg = [.int .u8 x] := hKg
    have hx0 := hcx 0 _ rfl
    rw [Nat.mul_one, Nat.add_zero] at hx0
    have hg0 := hcg 0 _ rfl
    rw [Nat.mul_one, Nat.add_zero] at hg0
    clear hcx hcg hx
    have hcc1 : decide ((j : Int) < (l.length : Int)) = true := by simp; omega
    have hcc2 : decide ((l.length : Int) ≤ (j : Int)) = false := by simp; omega
    have hcc3 : decide (j < l.length) = true := by simp; omega
    have hcc4 : decide (l.length ≤ j) = false := by simp; omega
    go_wp2_with fail
    go_upto_region 7 with (fail)
    go_cut [58] (fun v57 wx => v57 = .bool false ∧ Aside0 (Below w.heap.size w wx))
    case first =>
     refine Rs.wp_region_stable [23, 24, 25, 26, 27, 28, 29, 30, 31, 32, 33, 34, 35, 36, 37, 38, 39, 40, 41, 42, 43, 44, 45, 46, 47, 48, 49, 50, 51, 52, 53, 54, 55, 56, 57, 58] [.int .i64 ((j : Int)), .slice (some ad) l.length c, .int .i64 ((l.length : Int)), .bool true, .bool true, .slice (some ag) (l.length + 12) cap, .int .i64 ((j : Int)), .pointer (some (ag.add j)), .int .u8 x, .slice (some ad) l.length c, .int .i64 ((j : Int)), .pointer (some (ad.add j)), .int .u8 x, .bool true, .bool false, .bool false, .bool false, .int .i64 ((j : Int)), .slice (some ad) l.length c, .int .i64 ((l.length : Int)), .bool false, .bool false, undef, undef, undef, undef, undef, undef, undef, undef, undef, undef, undef, undef, .bool false, .bool false] (Below w.heap.size w) cq3 cq3 rfl (below_drew HB.out) ⟨kp10, kp11, kp5, kp6, kp5, kp9, kp4, kp0, kp12, kp8, kp4, kp0, kp16, kp0, kp2, kp6, kp5, kp4, kp8, kp2, kp0, kp2, kp1, kp1, kp7, kp3, kp1, kp1, kp3, kp7, kp3, kp3, kp7, kp3, kp0, kp6, trivial⟩ ?_
     intro wz hz
     simp only [Rs.putL, Act.put, qS, qZ, qN]
     go_wp2_with fail
     go_meet
     exact ⟨rfl, ⟨hz⟩⟩
    case rest =>
     obtain ⟨rfl, HB2⟩ := hcut
     go_wp2
     go_roundw
     case rel => exact ⟨j + 1, by omega, by go_num, HB2⟩
     case measure => simp [intOf]; omega
   ·obtain ⟨ag', cg, hag, -, hKg, hcg⟩ := Kd.C_get HO.out 0 (j : Int) cq2 cq2
    obtain rfl : ag = ag' := by injection hag
    clear hag
    rw [Int.toNat_natCast, getD_at (x := mT ((j : Int) - (l.length : Int))) (by exact app_mks (l := l) (g := mT) (m := 12) cq2 cq2)] at hKg
    rw [Int.toNat_natCast] at hcg
    replace hcg : ∀ q u, cg[q]? = some u → w.cell? (ag.add (j * 1 + q)) = some u := hcg
    obtain rfl : cg = [.int .u8 (mkI 1 ((j : Int) - (l.length : Int)) % 256)] := hKg
    have hg0 : w.cell? (ag.add (j * 1 + 0)) = some (.int .u8 (mkI 1 ((j : Int) - (l.length : Int)) % 256)) := hcg 0 _ rfl
    rw [Nat.mul_one, Nat.add_zero] at hg0
    clear hcg
    have hcc1 : decide ((j : Int) < (l.length : Int)) = false := by simp; omega
    have hcc2 : decide ((l.length : Int) ≤ (j : Int)) = true := by simp; omega
    have hcc3 : decide (j < l.length) = false := by simp; omega
    have hcc4 : decide (l.length ≤ j) = true := by simp; omega
    have hmk : ∀ W : World, Calls Tryz.prog 24 #[.int .i64 1, .int .i64 (wrap64 ((j : Int) - (l.length : Int)))] W fun e w' => e = .returned (.int .i64 (mkI 1 ((j : Int) - (l.length : Int)))) ∧ Below W.heap.size W w' := fun W => by rw [w64_small (n := (j : Int) - (l.length : Int)) cq2 cq2]; exact mark_calls 1 ((j : Int) - (l.length : Int)) W cq2 cq2 cq2 cq2
    have HMK := qA hmk
    clear hmk
    go_wp2_with fail
    go_upto_region 7 with (fail)
    go_cut [58] (fun v57 wx => v57 = .bool false ∧ Aside0 (Below w.heap.size w wx))
    case first =>
     refine Rs.wp_region_stable [23, 24, 25, 26, 27, 28, 29, 30, 31, 32, 33, 34, 35, 36, 37, 38, 39, 40, 41, 42, 43, 44, 45, 46, 47, 48, 49, 50, 51, 52, 53, 54, 55, 56, 57, 58] [.int .i64 ((j : Int)), .slice A l.length c, .int .i64 ((l.length : Int)), .bool false, .bool false, undef, undef, undef, undef, undef, undef, undef, undef, undef, undef, .bool false, .bool false, .int .i64 ((j : Int)), .slice A l.length c, .int .i64 ((l.length : Int)), .bool true, .bool true, .slice (some ag) (l.length + 12) cap, .int .i64 ((j : Int)), .pointer (some (ag.add j)), .int .u8 (mkI 1 ((j : Int) - (l.length : Int)) % 256), .int .i64 ((j : Int)), .slice A l.length c, .int .i64 ((l.length : Int)), .int .i64 (wrap64 ((j : Int) - (l.length : Int))), .int .i64 (mkI 1 ((j : Int) - (l.length : Int))), .int .u8 (mkI 1 ((j : Int) - (l.length : Int)) % 256), .bool true, .bool false, .bool false, .bool false] (Below w.heap.size w) cq3 cq3 rfl (below_drew HB.out) ⟨kp10, kp11, kp5, kp6, kp5, kp1, kp1, kp7, kp3, kp1, kp1, kp7, kp3, kp7, kp3, kp6, kp5, kp4, kp8, kp2, kp0, kp2, kp9, kp4, kp0, kp12, kp4, kp8, kp2, kp0, ?s30, kp2, kp0, kp2, kp0, kp6, trivial⟩ ?_
     case s30 =>
      exact fun a w' hG hd hf K hK => by
       have e52 : a.tmps[52]? = some (.int .i64 (wrap64 ((j : Int) - (l.length : Int)))) := hd 0 _ rfl rfl _ rfl
       exact goes_ Tryz.func24 cq3 rfl #[.int .i64 1, .int .i64 (wrap64 ((j : Int) - (l.length : Int)))] ((Rs.want_on (t := 44) (b' := true) rfl rfl (hd 1 _ rfl rfl _ rfl)).trans rfl) rfl rfl cq38 (((HMK.out w').mono cq7))
     intro wz hz
     simp only [Rs.putL, Act.put, qS, qZ, qN]
     go_wp2_with fail
     go_meet
     exact ⟨rfl, ⟨hz⟩⟩
    case rest =>
     obtain ⟨rfl, HB2⟩ := hcut
     go_wp2
     go_roundw
     case rel => exact ⟨j + 1, by omega, by go_num, HB2⟩
     case measure => simp [intOf]; omega
  ·obtain rfl : j = l.length + 12 := by omega
   go_wp2
   go_ret
   exact ⟨rfl, HB.out⟩
attribute [local go_sem high] eqA155
theorem keptArrays_calls (v : Value) (A : Option Addr) (c : Nat) (l : List S155) (w : World) (ho : (lArrays).K w l [v]) (hr : Kd.C k155 w A l.length l) (hc : l.length ≤ c) (hl : (l.length + 12) * 16 ≤ 140737488355328) :
 Calls Tryz.prog 53 #[v, .slice A l.length c] w fun e w' => e = .returned (.bool true) ∧ Below w.heap.size w w' := by
 obtain ⟨A0, cap, e, -, hcap, hO⟩ := ho
 obtain rfl : v = .slice A0 l.length cap := List.head_eq_of_cons_eq e
 have hfl : (l ++ mks mA 12).length = l.length + 12 := by rw [List.length_append, mks_len]
 rw [hfl] at hcap hO
 clear e
 obtain ⟨ag, _, hA0, -⟩ := Kd.C_get hO z155 0 cq2 cq2
 subst hA0
 have HR := qA hr
 have HO := qA hO
 have HC := qA hc
 have hcap2 : l.length ≤ cap := by omega
 have hlb : l.length + 12 ≤ 140737488355328 := by omega
 have HB0 : Aside0 (Below w.heap.size w w) := ⟨Below.refl _ _⟩
 clear hr hO hl hfl
 go_enter Tryz.func53, Tryz.ntmps53
 go_wp2
 go_loopw [6] (fun v6 wr => ∃ j : Nat, j ≤ l.length + 12 ∧ v6 = .int .i64 (j : Int) ∧ Aside0 (Below w.heap.size w wr)) (fun i _ => l.length + 12 - (intOf i).toNat)
 case atStart => exact ⟨0, by omega, rfl, HB0⟩
 case round =>
  clear HB0
  obtain ⟨j, hj, rfl, HB⟩ := hrel
  by_cases hlt0 : j < l.length + 12
  ·by_cases hlt : j < l.length
   ·obtain ⟨ad, cx, hA, -, hKx, hcx⟩ := Kd.C_get HR.out z155 (j : Int) cq2 cq2
    subst hA
    obtain ⟨ag', cg, hag, -, hKg, hcg⟩ := Kd.C_get HO.out z155 (j : Int) cq2 cq2
    obtain rfl : ag = ag' := by injection hag
    clear hag
    obtain ⟨x, hx⟩ : ∃ x, x = l[j] := ⟨_, rfl⟩
    rw [Int.toNat_natCast, getD_at (x := x) cq37] at hKx
    rw [Int.toNat_natCast, getD_at (x := x) (by rw [hx]; exact app_lo hlt)] at hKg
    rw [Int.toNat_natCast] at hcx hcg
    replace hcx : ∀ q u, cx[q]? = some u → w.cell? (ad.add (j * 2 + q)) = some u := hcx
    replace hcg : ∀ q u, cg[q]? = some u → w.cell? (ag.add (j * 2 + q)) = some u := hcg
    obtain rfl := k155_open hKx
    obtain rfl := k155_open hKg
    have hx0 := hcx 0 _ rfl
    have hx1 := hcx 1 _ rfl
    rw [Nat.add_zero] at hx0
    rw [add_field _ _ 1 cq2] at hx1
    have hg0 := hcg 0 _ rfl
    have hg1 := hcg 1 _ rfl
    rw [Nat.add_zero] at hg0
    rw [add_field _ _ 1 cq2] at hg1
    clear hcx hcg hx
    have hcc1 : decide ((j : Int) < (l.length : Int)) = true := by simp; omega
    have hcc2 : decide ((l.length : Int) ≤ (j : Int)) = false := by simp; omega
    have hcc3 : decide (j < l.length) = true := by simp; omega
    have hcc4 : decide (l.length ≤ j) = false := by simp; omega
    go_wp2_with fail
    go_upto_region 7 with (fail)
    go_cut [57] (fun v57 wx => v57 = .bool false ∧ Aside0 (Below w.heap.size w wx))
    case first =>
     refine Rs.wp_region_stable [23, 24, 25, 26, 27, 28, 29, 30, 31, 32, 33, 34, 35, 36, 37, 38, 39, 40, 41, 42, 43, 44, 45, 46, 47, 48, 49, 50, 51, 52, 53, 54, 55, 56, 57] [.int .i64 ((j : Int)), .slice (some ad) l.length c, .int .i64 ((l.length : Int)), .bool true, .bool true, .slice (some ag) (l.length + 12) cap, .int .i64 ((j : Int)), .pointer (some (ag.add (j * 2))), .agg #[.int .u8 x.f0, .int .i64 x.f1], .slice (some ad) l.length c, .int .i64 ((j : Int)), .pointer (some (ad.add (j * 2))), .agg #[.int .u8 x.f0, .int .i64 x.f1], .bool true, .bool false, .bool false, .bool false, .int .i64 ((j : Int)), .slice (some ad) l.length c, .int .i64 ((l.length : Int)), .bool false, .bool false, undef, undef, undef, undef, undef, undef, undef, undef, undef, undef, undef, .bool false, .bool false] (Below w.heap.size w) cq3 cq3 rfl (below_drew HB.out) ⟨kp10, kp11, kp5, kp6, kp5, kp9, kp4, kp0, ?s8, kp8, kp4, kp0, ?s12, kp0, kp2, kp6, kp5, kp4, kp8, kp2, kp0, kp2, kp1, kp1, kp7, kp3, kp1, kp1, kp3, kp7, kp3, kp7, kp3, kp0, kp6, trivial⟩ ?_
     case s8 => exact fun a w' hG hd hf K hK => by have f0 := Rs.ld (hd 0 _ rfl rfl _ rfl) rfl; have z0 := pw_cell_below hG hg0; have z1 := pw_cell_below hG hg1; exact Rs.ok_val ((Rs.want_on rfl rfl (hd 1 _ rfl rfl _ rfl)).trans rfl) Rs.gs (hK w' hG)
     case s12 => exact fun a w' hG hd hf K hK => by have f0 := Rs.ld (hd 0 _ rfl rfl _ rfl) rfl; have z0 := pw_cell_below hG hx0; have z1 := pw_cell_below hG hx1; exact Rs.ok_val ((Rs.want_on rfl rfl (hd 1 _ rfl rfl _ rfl)).trans rfl) Rs.gs (hK w' hG)
     intro wz hz
     simp only [Rs.putL, Act.put, qS, qZ, qN]
     go_wp2_with fail
     go_meet
     exact ⟨rfl, ⟨hz⟩⟩
    case rest =>
     obtain ⟨rfl, HB2⟩ := hcut
     go_wp2
     go_roundw
     case rel => exact ⟨j + 1, by omega, by go_num, HB2⟩
     case measure => simp [intOf]; omega
   ·obtain ⟨ag', cg, hag, -, hKg, hcg⟩ := Kd.C_get HO.out z155 (j : Int) cq2 cq2
    obtain rfl : ag = ag' := by injection hag
    clear hag
    rw [Int.toNat_natCast, getD_at (x := mA ((j : Int) - (l.length : Int))) (by exact app_mks (l := l) (g := mA) (m := 12) cq2 cq2)] at hKg
    rw [Int.toNat_natCast] at hcg
    replace hcg : ∀ q u, cg[q]? = some u → w.cell? (ag.add (j * 2 + q)) = some u := hcg
    obtain rfl := k155_open hKg
    have hg0 : w.cell? (ag.add (j * 2 + 0)) = some (.int .u8 0) := hcg 0 _ rfl
    have hg1 : w.cell? (ag.add (j * 2 + 1)) = some (.int .i64 (mkI 1 ((j : Int) - (l.length : Int)))) := hcg 1 _ rfl
    rw [Nat.add_zero] at hg0
    rw [add_field _ _ 1 cq2] at hg1
    clear hcg
    have hcc1 : decide ((j : Int) < (l.length : Int)) = false := by simp; omega
    have hcc2 : decide ((l.length : Int) ≤ (j : Int)) = true := by simp; omega
    have hcc3 : decide (j < l.length) = false := by simp; omega
    have hcc4 : decide (l.length ≤ j) = true := by simp; omega
    have hmk : ∀ W : World, Calls Tryz.prog 89 #[.int .i64 1, .int .i64 (wrap64 ((j : Int) - (l.length : Int)))] W fun e w' => e = .returned (.agg #[.int .u8 0, .int .i64 (mkI 1 ((j : Int) - (l.length : Int)))]) ∧ Below W.heap.size W w' := fun W => by rw [w64_small (n := (j : Int) - (l.length : Int)) cq2 cq2]; exact markArray_calls 1 ((j : Int) - (l.length : Int)) W cq2 cq2 cq2 cq2
    have HMK := qA hmk
    clear hmk
    go_wp2_with fail
    go_upto_region 7 with (fail)
    go_cut [57] (fun v57 wx => v57 = .bool false ∧ Aside0 (Below w.heap.size w wx))
    case first =>
     refine Rs.wp_region_stable [23, 24, 25, 26, 27, 28, 29, 30, 31, 32, 33, 34, 35, 36, 37, 38, 39, 40, 41, 42, 43, 44, 45, 46, 47, 48, 49, 50, 51, 52, 53, 54, 55, 56, 57] [.int .i64 ((j : Int)), .slice A l.length c, .int .i64 ((l.length : Int)), .bool false, .bool false, undef, undef, undef, undef, undef, undef, undef, undef, undef, undef, .bool false, .bool false, .int .i64 ((j : Int)), .slice A l.length c, .int .i64 ((l.length : Int)), .bool true, .bool true, .slice (some ag) (l.length + 12) cap, .int .i64 ((j : Int)), .pointer (some (ag.add (j * 2))), .agg #[.int .u8 0, .int .i64 (mkI 1 ((j : Int) - (l.length : Int)))], .int .i64 ((j : Int)), .slice A l.length c, .int .i64 ((l.length : Int)), .int .i64 (wrap64 ((j : Int) - (l.length : Int))), .agg #[.int .u8 0, .int .i64 (mkI 1 ((j : Int) - (l.length : Int)))], .bool true, .bool false, .bool false, .bool false] (Below w.heap.size w) cq3 cq3 rfl (below_drew HB.out) ⟨kp10, kp11, kp5, kp6, kp5, kp1, kp1, kp7, kp3, kp1, kp1, kp7, kp3, kp7, kp3, kp6, kp5, kp4, kp8, kp2, kp0, kp2, kp9, kp4, kp0, ?s25, kp4, kp8, kp2, kp0, ?s30, kp0, kp2, kp0, kp6, trivial⟩ ?_
     case s25 => exact fun a w' hG hd hf K hK => by have f0 := Rs.ld (hd 0 _ rfl rfl _ rfl) rfl; have z0 := pw_cell_below hG hg0; have z1 := pw_cell_below hG hg1; exact Rs.ok_val ((Rs.want_on rfl rfl (hd 1 _ rfl rfl _ rfl)).trans rfl) Rs.gs (hK w' hG)
     case s30 =>
      exact fun a w' hG hd hf K hK => by
       have e52 : a.tmps[52]? = some (.int .i64 (wrap64 ((j : Int) - (l.length : Int)))) := hd 0 _ rfl rfl _ rfl
       exact goes_ Tryz.func89 cq3 rfl #[.int .i64 1, .int .i64 (wrap64 ((j : Int) - (l.length : Int)))] ((Rs.want_on (t := 44) (b' := true) rfl rfl (hd 1 _ rfl rfl _ rfl)).trans rfl) rfl rfl cq38 (((HMK.out w').mono cq7))
     intro wz hz
     simp only [Rs.putL, Act.put, qS, qZ, qN]
     go_wp2_with fail
     go_meet
     exact ⟨rfl, ⟨hz⟩⟩
    case rest =>
     obtain ⟨rfl, HB2⟩ := hcut
     go_wp2
     go_roundw
     case rel => exact ⟨j + 1, by omega, by go_num, HB2⟩
     case measure => simp [intOf]; omega
  ·obtain rfl : j = l.length + 12 := by omega
   go_wp2
   go_ret
   exact ⟨rfl, HB.out⟩
attribute [-go_sem] eqA155
theorem keptIns_calls (x : S75) (G3 : Option Addr) (d3 : Nat) (A3 : Option Addr) (c3 : Nat) (w : World) (ho3 : lInts.K w x.f3 [.slice G3 x.f3.length d3]) (hc3 : x.f3.length ≤ c3) (hr3 : Kd.C (Kd.int .i64) w A3 x.f3.length x.f3) (hs : szI x) :
 Calls Tryz.prog 150 #[.agg #[.int .u8 x.f0, .int .u8 x.f1, .int .i64 x.f2, .slice G3 x.f3.length d3, .int .u64 x.f4, .int .i64 x.f5], .agg #[.int .u8 x.f0, .int .u8 x.f1, .int .i64 x.f2, .slice A3 x.f3.length c3, .int .u64 x.f4, .int .i64 x.f5]] w fun e w' => e = .returned (.bool true) ∧ Below w.heap.size w w' := by
 obtain ⟨_, _, e3, ga3, gb3⟩ := flat_weak ho3
 injection e3 with p3 _ q3
 subst p3; subst q3
 have HO3 := qA ho3; have HG3 := qA gb3; have HR3 := qA hr3
 have HS := qA hs
 have huT := Tryz.underlying75
 clear hs ho3 gb3 hr3
 go_enter Tryz.func150, Tryz.ntmps150
 go_wp2_with (first | ((with_reducible refine gate_dst (N := 2) rfl ?_); refine box_event ?hg (N := 2) ?hd (cs := #[.int .u8 x.f0, .int .u8 x.f1, .int .i64 x.f2, .slice G3 x.f3.length d3, .int .u64 x.f4, .int .i64 x.f5]) (t := 75) ?hr ?_; (case hd => rfl); (case hg => rfl); (case hr => first | (go_simp; done) | (go_simp; rfl)); intro g1 e1 w1 b1 hb1) | ((with_reducible refine gate_dst (N := 3) rfl ?_); refine box_event ?hg (N := 3) ?hd (cs := #[.int .u8 x.f0, .int .u8 x.f1, .int .i64 x.f2, .slice A3 x.f3.length c3, .int .u64 x.f4, .int .i64 x.f5]) (t := 75) ?hr ?_; (case hd => rfl); (case hg => rfl); (case hr => first | (go_simp; done) | (go_simp; rfl)); intro g2 e2 w2 b2 hb2; have B1 := qA (blk_below b1 hb2); have B2 := qA b2; have HB := qA (below_step hb1 hb2); clear e1 e2 b1 b2 hb1 hb2; have hzg1_0 : w2.cell? ⟨g1, 0, none⟩ = some (.int .u8 x.f0) := (blk_cell B1.out 0).trans rfl; have hzg1_1 : w2.cell? ⟨g1, 1, none⟩ = some (.int .u8 x.f1) := (blk_cell B1.out 1).trans rfl; have hzg1_2 : w2.cell? ⟨g1, 2, none⟩ = some (.int .i64 x.f2) := (blk_cell B1.out 2).trans rfl; have hzg1_3 : w2.cell? ⟨g1, 3, none⟩ = some (.slice G3 x.f3.length d3) := (blk_cell B1.out 3).trans rfl; have hzg1_4 : w2.cell? ⟨g1, 4, none⟩ = some (.int .u64 x.f4) := (blk_cell B1.out 4).trans rfl; have hzg1_5 : w2.cell? ⟨g1, 5, none⟩ = some (.int .i64 x.f5) := (blk_cell B1.out 5).trans rfl; have hzg2_0 : w2.cell? ⟨g2, 0, none⟩ = some (.int .u8 x.f0) := (blk_cell B2.out 0).trans rfl; have hzg2_1 : w2.cell? ⟨g2, 1, none⟩ = some (.int .u8 x.f1) := (blk_cell B2.out 1).trans rfl; have hzg2_2 : w2.cell? ⟨g2, 2, none⟩ = some (.int .i64 x.f2) := (blk_cell B2.out 2).trans rfl; have hzg2_3 : w2.cell? ⟨g2, 3, none⟩ = some (.slice A3 x.f3.length c3) := (blk_cell B2.out 3).trans rfl; have hzg2_4 : w2.cell? ⟨g2, 4, none⟩ = some (.int .u64 x.f4) := (blk_cell B2.out 4).trans rfl; have hzg2_5 : w2.cell? ⟨g2, 5, none⟩ = some (.int .i64 x.f5) := (blk_cell B2.out 5).trans rfl))
 refine (sameIns_eq x G3 d3 A3 c3 _ (Kd.C_below HG3.out HB.out) ga3 (Kd.C_below HR3.out HB.out) hc3 (mzI_of HS.out)).mono ?_
 rintro e w3 ⟨rfl, hb⟩
 replace B1 := qA (blk_below B1.out hb)
 replace B2 := qA (blk_below B2.out hb)
 replace HB := qA (below_step HB.out hb)
 clear hb hzg1_0 hzg2_0 hzg1_1 hzg2_1 hzg1_2 hzg2_2 hzg1_3 hzg2_3 hzg1_4 hzg2_4 hzg1_5 hzg2_5
 have hzg1_3 : w3.cell? ⟨g1, 3, none⟩ = some (.slice G3 x.f3.length d3) := (blk_cell B1.out 3).trans rfl
 have hzg2_3 : w3.cell? ⟨g2, 3, none⟩ = some (.slice A3 x.f3.length c3) := (blk_cell B2.out 3).trans rfl
 go_wp2_with fail
 refine (keptInts_calls _ A3 c3 x.f3 _ (lInts.K_below HB.out HO3.out) (Kd.C_below HR3.out HB.out) hc3 HS.out).mono ?_
 rintro e w4 ⟨rfl, hb⟩
 replace B1 := qA (blk_below B1.out hb)
 replace B2 := qA (blk_below B2.out hb)
 replace HB := qA (below_step HB.out hb)
 clear hb hzg1_3 hzg2_3
 go_wp2
 go_ret
 exact ⟨rfl, HB.out⟩
theorem sameMark_Ins (i : Int) (M3 : Option Addr) (m3 : Nat) (W : World) : Calls Tryz.prog 111 #[.agg #[.int .u8 0, .int .u8 0, .int .i64 i, .slice M3 0 m3, .int .u64 0, .int .i64 0], .agg #[.int .u8 0, .int .u8 0, .int .i64 i, .slice none 0 0, .int .u64 0, .int .i64 0]] W fun e w' => e = .returned (.bool true) ∧ Below W.heap.size W w' := by
 exact sameIns_eq ⟨0, 0, i, [], 0, 0⟩ M3 m3 none 0 W ⟨rfl, by simp, fun h => by simp at h⟩ (Nat.zero_le _) (Kd.C_nil _ _) (Nat.le_refl _) (by simp [mzI])
theorem sameMark_Block (i : Int) (M0 : Option Addr) (m0 : Nat) (W : World) : Calls Tryz.prog 95 #[.agg #[.slice M0 0 m0, .int .u8 0, .int .i64 i, .int .i64 0, .int .i64 0, .int .u8 0], .agg #[.slice none 0 0, .int .u8 0, .int .i64 i, .int .i64 0, .int .i64 0, .int .u8 0]] W fun e w' => e = .returned (.bool true) ∧ Below W.heap.size W w' := by
 exact sameBlock_eq ⟨[], ⟨0, i, ⟨0, 0⟩, 0⟩⟩ M0 m0 none 0 W ⟨rfl, by simp, fun h => by simp at h⟩ (Nat.zero_le _) (Kd.C_nil _ _) (Nat.le_refl _) (by simp [mzB])
theorem sameMark_Graph (s : ByteArray) (M1 M3 M4 M5 : Option Addr) (m1 m3 m4 m5 : Nat) (W : World) : Calls Tryz.prog 32 #[.agg #[.string s, .slice M1 0 m1, .int .u8 0, .slice M3 0 m3, .slice M4 0 m4, .slice M5 0 m5], .agg #[.string s, .slice none 0 0, .int .u8 0, .slice none 0 0, .slice none 0 0, .slice none 0 0]] W fun e w' => e = .returned (.bool true) ∧ Below W.heap.size W w' := by
 exact sameGraph_eq ⟨s, [], 0, [], [], []⟩ M1 m1 none 0 M3 m3 none 0 M4 m4 none 0 M5 m5 none 0 W ⟨rfl, by simp, fun h => by simp at h⟩ (Nat.zero_le _) (Kd.C_nil _ _) (Nat.le_refl _) ⟨rfl, by simp, fun h => by simp at h⟩ (Nat.zero_le _) (Kd.C_nil _ _) (Nat.le_refl _) ⟨rfl, by simp, fun h => by simp at h⟩ (Nat.zero_le _) (Kd.C_nil _ _) (Nat.le_refl _) ⟨rfl, by simp, fun h => by simp at h⟩ (Nat.zero_le _) (Kd.C_nil _ _) (Nat.le_refl _) (by simp [mzG])
theorem keptInstrs_calls (v : Value) (A : Option Addr) (c : Nat) (l : List S75) (w : World) (ho : (hid 75 xIns List.length (fun l => both l (mks mIns 12))).K w l [v]) (hr : Kd.C k75 w A l.length l) (hc : l.length ≤ c) (hl : (l.length + 12) * 56 ≤ 140737488355328) (hs : ∀ x ∈ l, szI x) :
 Calls Tryz.prog 133 #[v, .slice A l.length c] w fun e w' => e = .returned (.bool true) ∧ Below w.heap.size w w' := by
 obtain ⟨A0, cap, e, -, hcap, hO⟩ := ho
 obtain rfl : v = .slice A0 l.length cap := List.head_eq_of_cons_eq e
 have hfl : (both l (mks mIns 12)).length = l.length + 12 := by rw [both_len, mks_len]
 rw [hfl] at hcap hO
 clear e
 obtain ⟨ag, _, hA0, -⟩ := Kd.C_get hO (true, z75) 0 cq2 cq2
 subst hA0
 have HR := qA hr
 have HO := qA hO
 have HC := qA hc
 have hcap2 : l.length ≤ cap := by omega
 have hlb : l.length + 12 ≤ 140737488355328 := by omega
 have HB0 : Aside0 (Below w.heap.size w w) := ⟨Below.refl _ _⟩
 have HS := qA hs
 clear hr hO hl hfl hs
 go_enter Tryz.func133, Tryz.ntmps133
 go_wp2
 go_loopw [6] (fun v6 wr => ∃ j : Nat, j ≤ l.length + 12 ∧ v6 = .int .i64 (j : Int) ∧ Aside0 (Below w.heap.size w wr)) (fun i _ => l.length + 12 - (intOf i).toNat)
 case atStart => exact ⟨0, by omega, rfl, HB0⟩
 case round =>
  clear HB0
  obtain ⟨j, hj, rfl, HB⟩ := hrel
  by_cases hlt0 : j < l.length + 12
  ·by_cases hlt : j < l.length
   ·obtain ⟨ad, cx, hA, -, hKx, hcx⟩ := Kd.C_get HR.out z75 (j : Int) cq2 cq2
    subst hA
    obtain ⟨ag', cg, hag, -, hKg, hcg⟩ := Kd.C_get HO.out (true, z75) (j : Int) cq2 cq2
    obtain rfl : ag = ag' := by injection hag
    clear hag
    obtain ⟨x, hx⟩ : ∃ x, x = l[j] := ⟨_, rfl⟩
    rw [Int.toNat_natCast, getD_at (x := x) cq37] at hKx
    rw [Int.toNat_natCast, getD_at (x := (true, x)) (by rw [hx]; exact both_lo hlt)] at hKg
    rw [Int.toNat_natCast] at hcx hcg
    replace hcx : ∀ q u, cx[q]? = some u → w.cell? (ad.add (j * 6 + q)) = some u := hcx
    replace hcg : ∀ q u, cg[q]? = some u → w.cell? (ag.add (j * 6 + q)) = some u := hcg
    obtain ⟨A3, c3, rfl, hc3, hX3⟩ := k75_open hKx
    rcases hKg with ⟨_, hKg⟩ | ⟨hKg, _⟩
    rotate_left
    ·cases hKg
    obtain ⟨G3, d3, rfl, hL3⟩ := lIns_openK hKg
    have hx0 := hcx 0 _ rfl
    have hx1 := hcx 1 _ rfl
    have hx2 := hcx 2 _ rfl
    have hx3 := hcx 3 _ rfl
    have hx4 := hcx 4 _ rfl
    have hx5 := hcx 5 _ rfl
    rw [Nat.add_zero] at hx0
    rw [add_field _ _ 1 cq2] at hx1
    rw [add_field _ _ 2 cq2] at hx2
    rw [add_field _ _ 3 cq2] at hx3
    rw [add_field _ _ 4 cq2] at hx4
    rw [add_field _ _ 5 cq2] at hx5
    have hg0 := hcg 0 _ rfl
    have hg1 := hcg 1 _ rfl
    have hg2 := hcg 2 _ rfl
    have hg3 := hcg 3 _ rfl
    have hg4 := hcg 4 _ rfl
    have hg5 := hcg 5 _ rfl
    rw [Nat.add_zero] at hg0
    rw [add_field _ _ 1 cq2] at hg1
    rw [add_field _ _ 2 cq2] at hg2
    rw [add_field _ _ 3 cq2] at hg3
    rw [add_field _ _ 4 cq2] at hg4
    rw [add_field _ _ 5 cq2] at hg5
    have HX := qA (show szI x by rw [hx]; exact HS.out _ (List.getElem_mem hlt))
    have HL3 := qA hL3; have HX3 := qA hX3; clear hL3 hX3
    clear hcx hcg hx
    have hcc1 : decide ((j : Int) < (l.length : Int)) = true := by simp; omega
    have hcc2 : decide ((l.length : Int) ≤ (j : Int)) = false := by simp; omega
    have hcc3 : decide (j < l.length) = true := by simp; omega
    have hcc4 : decide (l.length ≤ j) = false := by simp; omega
    go_wp2_with fail
    go_upto_region 7 with (fail)
    go_cut [57] (fun v57 wx => v57 = .bool false ∧ Aside0 (Below w.heap.size w wx))
    case first =>
     refine Rs.wp_region_stable [23, 24, 25, 26, 27, 28, 29, 30, 31, 32, 33, 34, 35, 36, 37, 38, 39, 40, 41, 42, 43, 44, 45, 46, 47, 48, 49, 50, 51, 52, 53, 54, 55, 56, 57] [.int .i64 ((j : Int)), .slice (some ad) l.length c, .int .i64 ((l.length : Int)), .bool true, .bool true, .slice (some ag) (l.length + 12) cap, .int .i64 ((j : Int)), .pointer (some (ag.add (j * 6))), .agg #[.int .u8 x.f0, .int .u8 x.f1, .int .i64 x.f2, .slice G3 x.f3.length d3, .int .u64 x.f4, .int .i64 x.f5], .slice (some ad) l.length c, .int .i64 ((j : Int)), .pointer (some (ad.add (j * 6))), .agg #[.int .u8 x.f0, .int .u8 x.f1, .int .i64 x.f2, .slice A3 x.f3.length c3, .int .u64 x.f4, .int .i64 x.f5], .bool true, .bool false, .bool false, .bool false, .int .i64 ((j : Int)), .slice (some ad) l.length c, .int .i64 ((l.length : Int)), .bool false, .bool false, undef, undef, undef, undef, undef, undef, undef, undef, undef, undef, undef, .bool false, .bool false] (Below w.heap.size w) cq3 cq3 rfl (below_drew HB.out) ⟨kp10, kp11, kp5, kp6, kp5, kp9, kp4, kp0, kp13, kp8, kp4, kp0, kp17, ?s13, kp2, kp6, kp5, kp4, kp8, kp2, kp0, kp2, kp1, kp1, kp7, kp3, kp1, kp1, kp3, kp7, kp3, kp18, kp3, kp0, kp6, trivial⟩ ?_
     case s13 =>
      exact fun a w' hG hd hf K hK => by
       have e31 : a.tmps[31]? = some (.agg #[.int .u8 x.f0, .int .u8 x.f1, .int .i64 x.f2, .slice G3 x.f3.length d3, .int .u64 x.f4, .int .i64 x.f5]) := hd 0 _ rfl rfl _ rfl; have e35 : a.tmps[35]? = some (.agg #[.int .u8 x.f0, .int .u8 x.f1, .int .i64 x.f2, .slice A3 x.f3.length c3, .int .u64 x.f4, .int .i64 x.f5]) := hd 1 _ rfl rfl _ rfl
       exact goes_ Tryz.func150 cq3 rfl #[.agg #[.int .u8 x.f0, .int .u8 x.f1, .int .i64 x.f2, .slice G3 x.f3.length d3, .int .u64 x.f4, .int .i64 x.f5], .agg #[.int .u8 x.f0, .int .u8 x.f1, .int .i64 x.f2, .slice A3 x.f3.length c3, .int .u64 x.f4, .int .i64 x.f5]] ((Rs.want_on (t := 27) (b' := true) rfl rfl (hd 2 _ rfl rfl _ rfl)).trans rfl) rfl rfl cq44 (((keptIns_calls x G3 d3 A3 c3 w' (lInts.K_below hG HL3.out) hc3 (Kd.C_below HX3.out hG) HX.out).mono cq7))
     intro wz hz
     simp only [Rs.putL, Act.put, qS, qZ, qN]
     go_wp2_with fail
     go_meet
     exact ⟨rfl, ⟨hz⟩⟩
    case rest =>
     obtain ⟨rfl, HB2⟩ := hcut
     go_wp2
     go_roundw
     case rel => exact ⟨j + 1, by omega, by go_num, HB2⟩
     case measure => simp [intOf]; omega
   ·obtain ⟨ag', cg, hag, -, hKg, hcg⟩ := Kd.C_get HO.out (true, z75) (j : Int) cq2 cq2
    obtain rfl : ag = ag' := by injection hag
    clear hag
    rw [Int.toNat_natCast, getD_at (x := (false, mIns ((j : Int) - (l.length : Int)))) (by rw [both_hi (l := l) (m := mks mIns 12) cq2 cq57]; congr 2; have hq := mks_at mIns (m := 12) (j := j - l.length) cq2; rw [qE cq57] at hq; rw [Option.some.inj hq]; congr 1; omega)] at hKg
    rw [Int.toNat_natCast] at hcg
    replace hcg : ∀ q u, cg[q]? = some u → w.cell? (ag.add (j * 6 + q)) = some u := hcg
    rcases hKg with ⟨hKg, _⟩ | ⟨_, hKg⟩
    ·cases hKg
    obtain ⟨M3, m3, rfl, -, -⟩ := k75_open hKg
    have hg0 : w.cell? (ag.add (j * 6 + 0)) = some (.int .u8 0) := hcg 0 _ rfl
    have hg1 : w.cell? (ag.add (j * 6 + 1)) = some (.int .u8 0) := hcg 1 _ rfl
    have hg2 : w.cell? (ag.add (j * 6 + 2)) = some (.int .i64 (mkI 1 ((j : Int) - (l.length : Int)))) := hcg 2 _ rfl
    have hg3 : w.cell? (ag.add (j * 6 + 3)) = some (.slice M3 0 m3) := hcg 3 _ rfl
    have hg4 : w.cell? (ag.add (j * 6 + 4)) = some (.int .u64 0) := hcg 4 _ rfl
    have hg5 : w.cell? (ag.add (j * 6 + 5)) = some (.int .i64 0) := hcg 5 _ rfl
    rw [Nat.add_zero] at hg0
    rw [add_field _ _ 1 cq2] at hg1
    rw [add_field _ _ 2 cq2] at hg2
    rw [add_field _ _ 3 cq2] at hg3
    rw [add_field _ _ 4 cq2] at hg4
    rw [add_field _ _ 5 cq2] at hg5
    clear hcg
    have hcc1 : decide ((j : Int) < (l.length : Int)) = false := by simp; omega
    have hcc2 : decide ((l.length : Int) ≤ (j : Int)) = true := by simp; omega
    have hcc3 : decide (j < l.length) = false := by simp; omega
    have hcc4 : decide (l.length ≤ j) = true := by simp; omega
    have hmk : ∀ W : World, Calls Tryz.prog 110 #[.int .i64 1, .int .i64 (wrap64 ((j : Int) - (l.length : Int)))] W fun e w' => e = .returned (.agg #[.int .u8 0, .int .u8 0, .int .i64 (mkI 1 ((j : Int) - (l.length : Int))), .slice none 0 0, .int .u64 0, .int .i64 0]) ∧ Below W.heap.size W w' := fun W => by rw [w64_small (n := (j : Int) - (l.length : Int)) cq2 cq2]; exact markIns_calls 1 ((j : Int) - (l.length : Int)) W cq2 cq2 cq2 cq2
    have HMK := qA hmk
    clear hmk
    go_wp2_with fail
    go_upto_region 7 with (fail)
    go_cut [57] (fun v57 wx => v57 = .bool false ∧ Aside0 (Below w.heap.size w wx))
    case first =>
     refine Rs.wp_region_stable [23, 24, 25, 26, 27, 28, 29, 30, 31, 32, 33, 34, 35, 36, 37, 38, 39, 40, 41, 42, 43, 44, 45, 46, 47, 48, 49, 50, 51, 52, 53, 54, 55, 56, 57] [.int .i64 ((j : Int)), .slice A l.length c, .int .i64 ((l.length : Int)), .bool false, .bool false, undef, undef, undef, undef, undef, undef, undef, undef, undef, undef, .bool false, .bool false, .int .i64 ((j : Int)), .slice A l.length c, .int .i64 ((l.length : Int)), .bool true, .bool true, .slice (some ag) (l.length + 12) cap, .int .i64 ((j : Int)), .pointer (some (ag.add (j * 6))), .agg #[.int .u8 0, .int .u8 0, .int .i64 (mkI 1 ((j : Int) - (l.length : Int))), .slice M3 0 m3, .int .u64 0, .int .i64 0], .int .i64 ((j : Int)), .slice A l.length c, .int .i64 ((l.length : Int)), .int .i64 (wrap64 ((j : Int) - (l.length : Int))), .agg #[.int .u8 0, .int .u8 0, .int .i64 (mkI 1 ((j : Int) - (l.length : Int))), .slice none 0 0, .int .u64 0, .int .i64 0], .bool true, .bool false, .bool false, .bool false] (Below w.heap.size w) cq3 cq3 rfl (below_drew HB.out) ⟨kp10, kp11, kp5, kp6, kp5, kp1, kp1, kp7, kp3, kp1, kp1, kp7, kp3, kp7, kp3, kp6, kp5, kp4, kp8, kp2, kp0, kp2, kp9, kp4, kp0, kp13, kp4, kp8, kp2, kp0, ?s30, ?s31, kp2, kp0, kp6, trivial⟩ ?_
     case s30 =>
      exact fun a w' hG hd hf K hK => by
       have e52 : a.tmps[52]? = some (.int .i64 (wrap64 ((j : Int) - (l.length : Int)))) := hd 0 _ rfl rfl _ rfl
       exact goes_ Tryz.func110 cq3 rfl #[.int .i64 1, .int .i64 (wrap64 ((j : Int) - (l.length : Int)))] ((Rs.want_on (t := 44) (b' := true) rfl rfl (hd 1 _ rfl rfl _ rfl)).trans rfl) rfl rfl cq38 (((HMK.out w').mono cq7))
     case s31 =>
      exact fun a w' hG hd hf K hK => by
       have e48 : a.tmps[48]? = some (.agg #[.int .u8 0, .int .u8 0, .int .i64 (mkI 1 ((j : Int) - (l.length : Int))), .slice M3 0 m3, .int .u64 0, .int .i64 0]) := hd 0 _ rfl rfl _ rfl; have e53 : a.tmps[53]? = some (.agg #[.int .u8 0, .int .u8 0, .int .i64 (mkI 1 ((j : Int) - (l.length : Int))), .slice none 0 0, .int .u64 0, .int .i64 0]) := hd 1 _ rfl rfl _ rfl
       exact goes_ Tryz.func111 cq3 rfl #[.agg #[.int .u8 0, .int .u8 0, .int .i64 (mkI 1 ((j : Int) - (l.length : Int))), .slice M3 0 m3, .int .u64 0, .int .i64 0], .agg #[.int .u8 0, .int .u8 0, .int .i64 (mkI 1 ((j : Int) - (l.length : Int))), .slice none 0 0, .int .u64 0, .int .i64 0]] ((Rs.want_on (t := 44) (b' := true) rfl rfl (hd 3 _ rfl rfl _ rfl)).trans rfl) rfl rfl cq54 (((sameMark_Ins _ _ _ w').mono cq7))
     intro wz hz
     simp only [Rs.putL, Act.put, qS, qZ, qN]
     go_wp2_with fail
     go_meet
     exact ⟨rfl, ⟨hz⟩⟩
    case rest =>
     obtain ⟨rfl, HB2⟩ := hcut
     go_wp2
     go_roundw
     case rel => exact ⟨j + 1, by omega, by go_num, HB2⟩
     case measure => simp [intOf]; omega
  ·obtain rfl : j = l.length + 12 := by omega
   go_wp2
   go_ret
   exact ⟨rfl, HB.out⟩
theorem keptBlock_calls (x : S58) (G0 : Option Addr) (d0 : Nat) (A0 : Option Addr) (c0 : Nat) (w : World) (ho0 : lInstrs.K w x.f0 [.slice G0 x.f0.length d0]) (hc0 : x.f0.length ≤ c0) (hr0 : Kd.C k75 w A0 x.f0.length x.f0) (hs : szB x) :
 Calls Tryz.prog 94 #[.agg #[.slice G0 x.f0.length d0, .int .u8 x.f1.f0, .int .i64 x.f1.f1, .int .i64 x.f1.f2.f0, .int .i64 x.f1.f2.f1, .int .u8 x.f1.f3], .agg #[.slice A0 x.f0.length c0, .int .u8 x.f1.f0, .int .i64 x.f1.f1, .int .i64 x.f1.f2.f0, .int .i64 x.f1.f2.f1, .int .u8 x.f1.f3]] w fun e w' => e = .returned (.bool true) ∧ Below w.heap.size w w' := by
 obtain ⟨_, _, e0, ga0, gb0⟩ := lInstrs_weak ho0
 injection e0 with p0 _ q0
 subst p0; subst q0
 have HO0 := qA ho0; have HG0 := qA gb0; have HR0 := qA hr0
 have HS := qA hs
 have huT := Tryz.underlying58
 clear hs ho0 gb0 hr0
 go_enter Tryz.func94, Tryz.ntmps94
 go_wp2_with (first | ((with_reducible refine gate_dst (N := 2) rfl ?_); refine box_event ?hg (N := 2) ?hd (cs := #[.slice G0 x.f0.length d0, .int .u8 x.f1.f0, .int .i64 x.f1.f1, .int .i64 x.f1.f2.f0, .int .i64 x.f1.f2.f1, .int .u8 x.f1.f3]) (t := 58) ?hr ?_; (case hd => rfl); (case hg => rfl); (case hr => first | (go_simp; done) | (go_simp; rfl)); intro g1 e1 w1 b1 hb1) | ((with_reducible refine gate_dst (N := 3) rfl ?_); refine box_event ?hg (N := 3) ?hd (cs := #[.slice A0 x.f0.length c0, .int .u8 x.f1.f0, .int .i64 x.f1.f1, .int .i64 x.f1.f2.f0, .int .i64 x.f1.f2.f1, .int .u8 x.f1.f3]) (t := 58) ?hr ?_; (case hd => rfl); (case hg => rfl); (case hr => first | (go_simp; done) | (go_simp; rfl)); intro g2 e2 w2 b2 hb2; have B1 := qA (blk_below b1 hb2); have B2 := qA b2; have HB := qA (below_step hb1 hb2); clear e1 e2 b1 b2 hb1 hb2; have hzg1_0 : w2.cell? ⟨g1, 0, none⟩ = some (.slice G0 x.f0.length d0) := (blk_cell B1.out 0).trans rfl; have hzg1_1 : w2.cell? ⟨g1, 1, none⟩ = some (.int .u8 x.f1.f0) := (blk_cell B1.out 1).trans rfl; have hzg1_2 : w2.cell? ⟨g1, 2, none⟩ = some (.int .i64 x.f1.f1) := (blk_cell B1.out 2).trans rfl; have hzg1_3 : w2.cell? ⟨g1, 3, none⟩ = some (.int .i64 x.f1.f2.f0) := (blk_cell B1.out 3).trans rfl; have hzg1_4 : w2.cell? ⟨g1, 4, none⟩ = some (.int .i64 x.f1.f2.f1) := (blk_cell B1.out 4).trans rfl; have hzg1_5 : w2.cell? ⟨g1, 5, none⟩ = some (.int .u8 x.f1.f3) := (blk_cell B1.out 5).trans rfl; have hzg2_0 : w2.cell? ⟨g2, 0, none⟩ = some (.slice A0 x.f0.length c0) := (blk_cell B2.out 0).trans rfl; have hzg2_1 : w2.cell? ⟨g2, 1, none⟩ = some (.int .u8 x.f1.f0) := (blk_cell B2.out 1).trans rfl; have hzg2_2 : w2.cell? ⟨g2, 2, none⟩ = some (.int .i64 x.f1.f1) := (blk_cell B2.out 2).trans rfl; have hzg2_3 : w2.cell? ⟨g2, 3, none⟩ = some (.int .i64 x.f1.f2.f0) := (blk_cell B2.out 3).trans rfl; have hzg2_4 : w2.cell? ⟨g2, 4, none⟩ = some (.int .i64 x.f1.f2.f1) := (blk_cell B2.out 4).trans rfl; have hzg2_5 : w2.cell? ⟨g2, 5, none⟩ = some (.int .u8 x.f1.f3) := (blk_cell B2.out 5).trans rfl))
 refine (sameBlock_eq x G0 d0 A0 c0 _ (Kd.C_below HG0.out HB.out) ga0 (Kd.C_below HR0.out HB.out) hc0 (mzB_of HS.out)).mono ?_
 rintro e w3 ⟨rfl, hb⟩
 replace B1 := qA (blk_below B1.out hb)
 replace B2 := qA (blk_below B2.out hb)
 replace HB := qA (below_step HB.out hb)
 clear hb hzg1_0 hzg2_0 hzg1_1 hzg2_1 hzg1_2 hzg2_2 hzg1_3 hzg2_3 hzg1_4 hzg2_4 hzg1_5 hzg2_5
 have hzg1_0 : w3.cell? ⟨g1, 0, none⟩ = some (.slice G0 x.f0.length d0) := (blk_cell B1.out 0).trans rfl
 have hzg2_0 : w3.cell? ⟨g2, 0, none⟩ = some (.slice A0 x.f0.length c0) := (blk_cell B2.out 0).trans rfl
 go_wp2_with fail
 refine (keptInstrs_calls _ A0 c0 x.f0 _ (lInstrs.K_below HB.out HO0.out) (Kd.C_below HR0.out HB.out) hc0 HS.out.1 HS.out.2).mono ?_
 rintro e w4 ⟨rfl, hb⟩
 replace B1 := qA (blk_below B1.out hb)
 replace B2 := qA (blk_below B2.out hb)
 replace HB := qA (below_step HB.out hb)
 clear hb hzg1_0 hzg2_0
 go_wp2
 go_ret
 exact ⟨rfl, HB.out⟩
theorem keptBlocks_calls (v : Value) (A : Option Addr) (c : Nat) (l : List S58) (w : World) (ho : (hid 58 xBlock List.length (fun l => both l (mks mBlock 12))).K w l [v]) (hr : Kd.C k58 w A l.length l) (hc : l.length ≤ c) (hl : (l.length + 12) * 64 ≤ 140737488355328) (hs : ∀ x ∈ l, szB x) :
 Calls Tryz.prog 54 #[v, .slice A l.length c] w fun e w' => e = .returned (.bool true) ∧ Below w.heap.size w w' := by
 obtain ⟨A0, cap, e, -, hcap, hO⟩ := ho
 obtain rfl : v = .slice A0 l.length cap := List.head_eq_of_cons_eq e
 have hfl : (both l (mks mBlock 12)).length = l.length + 12 := by rw [both_len, mks_len]
 rw [hfl] at hcap hO
 clear e
 obtain ⟨ag, _, hA0, -⟩ := Kd.C_get hO (true, z58) 0 cq2 cq2
 subst hA0
 have HR := qA hr
 have HO := qA hO
 have HC := qA hc
 have hcap2 : l.length ≤ cap := by omega
 have hlb : l.length + 12 ≤ 140737488355328 := by omega
 have HB0 : Aside0 (Below w.heap.size w w) := ⟨Below.refl _ _⟩
 have HS := qA hs
 clear hr hO hl hfl hs
 go_enter Tryz.func54, Tryz.ntmps54
 go_wp2
 go_loopw [6] (fun v6 wr => ∃ j : Nat, j ≤ l.length + 12 ∧ v6 = .int .i64 (j : Int) ∧ Aside0 (Below w.heap.size w wr)) (fun i _ => l.length + 12 - (intOf i).toNat)
 case atStart => exact ⟨0, by omega, rfl, HB0⟩
 case round =>
  clear HB0
  obtain ⟨j, hj, rfl, HB⟩ := hrel
  by_cases hlt0 : j < l.length + 12
  ·by_cases hlt : j < l.length
   ·obtain ⟨ad, cx, hA, -, hKx, hcx⟩ := Kd.C_get HR.out z58 (j : Int) cq2 cq2
    subst hA
    obtain ⟨ag', cg, hag, -, hKg, hcg⟩ := Kd.C_get HO.out (true, z58) (j : Int) cq2 cq2
    obtain rfl : ag = ag' := by injection hag
    clear hag
    obtain ⟨x, hx⟩ : ∃ x, x = l[j] := ⟨_, rfl⟩
    rw [Int.toNat_natCast, getD_at (x := x) cq37] at hKx
    rw [Int.toNat_natCast, getD_at (x := (true, x)) (by rw [hx]; exact both_lo hlt)] at hKg
    rw [Int.toNat_natCast] at hcx hcg
    replace hcx : ∀ q u, cx[q]? = some u → w.cell? (ad.add (j * 6 + q)) = some u := hcx
    replace hcg : ∀ q u, cg[q]? = some u → w.cell? (ag.add (j * 6 + q)) = some u := hcg
    obtain ⟨A0, c0, rfl, hc0, hX0⟩ := k58_open hKx
    rcases hKg with ⟨_, hKg⟩ | ⟨hKg, _⟩
    rotate_left
    ·cases hKg
    obtain ⟨G0, d0, rfl, hL0⟩ := lBlock_openK hKg
    have hx0 := hcx 0 _ rfl
    have hx1 := hcx 1 _ rfl
    have hx2 := hcx 2 _ rfl
    have hx3 := hcx 3 _ rfl
    have hx4 := hcx 4 _ rfl
    have hx5 := hcx 5 _ rfl
    rw [Nat.add_zero] at hx0
    rw [add_field _ _ 1 cq2] at hx1
    rw [add_field _ _ 2 cq2] at hx2
    rw [add_field _ _ 3 cq2] at hx3
    rw [add_field _ _ 4 cq2] at hx4
    rw [add_field _ _ 5 cq2] at hx5
    have hg0 := hcg 0 _ rfl
    have hg1 := hcg 1 _ rfl
    have hg2 := hcg 2 _ rfl
    have hg3 := hcg 3 _ rfl
    have hg4 := hcg 4 _ rfl
    have hg5 := hcg 5 _ rfl
    rw [Nat.add_zero] at hg0
    rw [add_field _ _ 1 cq2] at hg1
    rw [add_field _ _ 2 cq2] at hg2
    rw [add_field _ _ 3 cq2] at hg3
    rw [add_field _ _ 4 cq2] at hg4
    rw [add_field _ _ 5 cq2] at hg5
    have HX := qA (show szB x by rw [hx]; exact HS.out _ (List.getElem_mem hlt))
    have HL0 := qA hL0; have HX0 := qA hX0; clear hL0 hX0
    clear hcx hcg hx
    have hcc1 : decide ((j : Int) < (l.length : Int)) = true := by simp; omega
    have hcc2 : decide ((l.length : Int) ≤ (j : Int)) = false := by simp; omega
    have hcc3 : decide (j < l.length) = true := by simp; omega
    have hcc4 : decide (l.length ≤ j) = false := by simp; omega
    go_wp2_with fail
    go_upto_region 7 with (fail)
    go_cut [57] (fun v57 wx => v57 = .bool false ∧ Aside0 (Below w.heap.size w wx))
    case first =>
     refine Rs.wp_region_stable [23, 24, 25, 26, 27, 28, 29, 30, 31, 32, 33, 34, 35, 36, 37, 38, 39, 40, 41, 42, 43, 44, 45, 46, 47, 48, 49, 50, 51, 52, 53, 54, 55, 56, 57] [.int .i64 ((j : Int)), .slice (some ad) l.length c, .int .i64 ((l.length : Int)), .bool true, .bool true, .slice (some ag) (l.length + 12) cap, .int .i64 ((j : Int)), .pointer (some (ag.add (j * 6))), .agg #[.slice G0 x.f0.length d0, .int .u8 x.f1.f0, .int .i64 x.f1.f1, .int .i64 x.f1.f2.f0, .int .i64 x.f1.f2.f1, .int .u8 x.f1.f3], .slice (some ad) l.length c, .int .i64 ((j : Int)), .pointer (some (ad.add (j * 6))), .agg #[.slice A0 x.f0.length c0, .int .u8 x.f1.f0, .int .i64 x.f1.f1, .int .i64 x.f1.f2.f0, .int .i64 x.f1.f2.f1, .int .u8 x.f1.f3], .bool true, .bool false, .bool false, .bool false, .int .i64 ((j : Int)), .slice (some ad) l.length c, .int .i64 ((l.length : Int)), .bool false, .bool false, undef, undef, undef, undef, undef, undef, undef, undef, undef, undef, undef, .bool false, .bool false] (Below w.heap.size w) cq3 cq3 rfl (below_drew HB.out) ⟨kp10, kp11, kp5, kp6, kp5, kp9, kp4, kp0, kp13, kp8, kp4, kp0, kp17, ?s13, kp2, kp6, kp5, kp4, kp8, kp2, kp0, kp2, kp1, kp1, kp7, kp3, kp1, kp1, kp3, kp7, kp3, kp18, kp3, kp0, kp6, trivial⟩ ?_
     case s13 =>
      exact fun a w' hG hd hf K hK => by
       have e31 : a.tmps[31]? = some (.agg #[.slice G0 x.f0.length d0, .int .u8 x.f1.f0, .int .i64 x.f1.f1, .int .i64 x.f1.f2.f0, .int .i64 x.f1.f2.f1, .int .u8 x.f1.f3]) := hd 0 _ rfl rfl _ rfl; have e35 : a.tmps[35]? = some (.agg #[.slice A0 x.f0.length c0, .int .u8 x.f1.f0, .int .i64 x.f1.f1, .int .i64 x.f1.f2.f0, .int .i64 x.f1.f2.f1, .int .u8 x.f1.f3]) := hd 1 _ rfl rfl _ rfl
       exact goes_ Tryz.func94 cq3 rfl #[.agg #[.slice G0 x.f0.length d0, .int .u8 x.f1.f0, .int .i64 x.f1.f1, .int .i64 x.f1.f2.f0, .int .i64 x.f1.f2.f1, .int .u8 x.f1.f3], .agg #[.slice A0 x.f0.length c0, .int .u8 x.f1.f0, .int .i64 x.f1.f1, .int .i64 x.f1.f2.f0, .int .i64 x.f1.f2.f1, .int .u8 x.f1.f3]] ((Rs.want_on (t := 27) (b' := true) rfl rfl (hd 2 _ rfl rfl _ rfl)).trans rfl) rfl rfl cq44 (((keptBlock_calls x G0 d0 A0 c0 w' (lInstrs.K_below hG HL0.out) hc0 (Kd.C_below HX0.out hG) HX.out).mono cq7))
     intro wz hz
     simp only [Rs.putL, Act.put, qS, qZ, qN]
     go_wp2_with fail
     go_meet
     exact ⟨rfl, ⟨hz⟩⟩
    case rest =>
     obtain ⟨rfl, HB2⟩ := hcut
     go_wp2
     go_roundw
     case rel => exact ⟨j + 1, by omega, by go_num, HB2⟩
     case measure => simp [intOf]; omega
   ·obtain ⟨ag', cg, hag, -, hKg, hcg⟩ := Kd.C_get HO.out (true, z58) (j : Int) cq2 cq2
    obtain rfl : ag = ag' := by injection hag
    clear hag
    rw [Int.toNat_natCast, getD_at (x := (false, mBlock ((j : Int) - (l.length : Int)))) (by rw [both_hi (l := l) (m := mks mBlock 12) cq2 cq57]; congr 2; have hq := mks_at mBlock (m := 12) (j := j - l.length) cq2; rw [qE cq57] at hq; rw [Option.some.inj hq]; congr 1; omega)] at hKg
    rw [Int.toNat_natCast] at hcg
    replace hcg : ∀ q u, cg[q]? = some u → w.cell? (ag.add (j * 6 + q)) = some u := hcg
    rcases hKg with ⟨hKg, _⟩ | ⟨_, hKg⟩
    ·cases hKg
    obtain ⟨M0, m0, rfl, -, -⟩ := k58_open hKg
    have hg0 : w.cell? (ag.add (j * 6 + 0)) = some (.slice M0 0 m0) := hcg 0 _ rfl
    have hg1 : w.cell? (ag.add (j * 6 + 1)) = some (.int .u8 0) := hcg 1 _ rfl
    have hg2 : w.cell? (ag.add (j * 6 + 2)) = some (.int .i64 (mkI 1 ((j : Int) - (l.length : Int)))) := hcg 2 _ rfl
    have hg3 : w.cell? (ag.add (j * 6 + 3)) = some (.int .i64 0) := hcg 3 _ rfl
    have hg4 : w.cell? (ag.add (j * 6 + 4)) = some (.int .i64 0) := hcg 4 _ rfl
    have hg5 : w.cell? (ag.add (j * 6 + 5)) = some (.int .u8 0) := hcg 5 _ rfl
    rw [Nat.add_zero] at hg0
    rw [add_field _ _ 1 cq2] at hg1
    rw [add_field _ _ 2 cq2] at hg2
    rw [add_field _ _ 3 cq2] at hg3
    rw [add_field _ _ 4 cq2] at hg4
    rw [add_field _ _ 5 cq2] at hg5
    clear hcg
    have hcc1 : decide ((j : Int) < (l.length : Int)) = false := by simp; omega
    have hcc2 : decide ((l.length : Int) ≤ (j : Int)) = true := by simp; omega
    have hcc3 : decide (j < l.length) = false := by simp; omega
    have hcc4 : decide (l.length ≤ j) = true := by simp; omega
    have hmk : ∀ W : World, Calls Tryz.prog 91 #[.int .i64 1, .int .i64 (wrap64 ((j : Int) - (l.length : Int)))] W fun e w' => e = .returned (.agg #[.slice none 0 0, .int .u8 0, .int .i64 (mkI 1 ((j : Int) - (l.length : Int))), .int .i64 0, .int .i64 0, .int .u8 0]) ∧ Below W.heap.size W w' := fun W => by rw [w64_small (n := (j : Int) - (l.length : Int)) cq2 cq2]; exact markBlock_calls 1 ((j : Int) - (l.length : Int)) W cq2 cq2 cq2 cq2
    have HMK := qA hmk
    clear hmk
    go_wp2_with fail
    go_upto_region 7 with (fail)
    go_cut [57] (fun v57 wx => v57 = .bool false ∧ Aside0 (Below w.heap.size w wx))
    case first =>
     refine Rs.wp_region_stable [23, 24, 25, 26, 27, 28, 29, 30, 31, 32, 33, 34, 35, 36, 37, 38, 39, 40, 41, 42, 43, 44, 45, 46, 47, 48, 49, 50, 51, 52, 53, 54, 55, 56, 57] [.int .i64 ((j : Int)), .slice A l.length c, .int .i64 ((l.length : Int)), .bool false, .bool false, undef, undef, undef, undef, undef, undef, undef, undef, undef, undef, .bool false, .bool false, .int .i64 ((j : Int)), .slice A l.length c, .int .i64 ((l.length : Int)), .bool true, .bool true, .slice (some ag) (l.length + 12) cap, .int .i64 ((j : Int)), .pointer (some (ag.add (j * 6))), .agg #[.slice M0 0 m0, .int .u8 0, .int .i64 (mkI 1 ((j : Int) - (l.length : Int))), .int .i64 0, .int .i64 0, .int .u8 0], .int .i64 ((j : Int)), .slice A l.length c, .int .i64 ((l.length : Int)), .int .i64 (wrap64 ((j : Int) - (l.length : Int))), .agg #[.slice none 0 0, .int .u8 0, .int .i64 (mkI 1 ((j : Int) - (l.length : Int))), .int .i64 0, .int .i64 0, .int .u8 0], .bool true, .bool false, .bool false, .bool false] (Below w.heap.size w) cq3 cq3 rfl (below_drew HB.out) ⟨kp10, kp11, kp5, kp6, kp5, kp1, kp1, kp7, kp3, kp1, kp1, kp7, kp3, kp7, kp3, kp6, kp5, kp4, kp8, kp2, kp0, kp2, kp9, kp4, kp0, kp13, kp4, kp8, kp2, kp0, ?s30, ?s31, kp2, kp0, kp6, trivial⟩ ?_
     case s30 =>
      exact fun a w' hG hd hf K hK => by
       have e52 : a.tmps[52]? = some (.int .i64 (wrap64 ((j : Int) - (l.length : Int)))) := hd 0 _ rfl rfl _ rfl
       exact goes_ Tryz.func91 cq3 rfl #[.int .i64 1, .int .i64 (wrap64 ((j : Int) - (l.length : Int)))] ((Rs.want_on (t := 44) (b' := true) rfl rfl (hd 1 _ rfl rfl _ rfl)).trans rfl) rfl rfl cq38 (((HMK.out w').mono cq7))
     case s31 =>
      exact fun a w' hG hd hf K hK => by
       have e48 : a.tmps[48]? = some (.agg #[.slice M0 0 m0, .int .u8 0, .int .i64 (mkI 1 ((j : Int) - (l.length : Int))), .int .i64 0, .int .i64 0, .int .u8 0]) := hd 0 _ rfl rfl _ rfl; have e53 : a.tmps[53]? = some (.agg #[.slice none 0 0, .int .u8 0, .int .i64 (mkI 1 ((j : Int) - (l.length : Int))), .int .i64 0, .int .i64 0, .int .u8 0]) := hd 1 _ rfl rfl _ rfl
       exact goes_ Tryz.func95 cq3 rfl #[.agg #[.slice M0 0 m0, .int .u8 0, .int .i64 (mkI 1 ((j : Int) - (l.length : Int))), .int .i64 0, .int .i64 0, .int .u8 0], .agg #[.slice none 0 0, .int .u8 0, .int .i64 (mkI 1 ((j : Int) - (l.length : Int))), .int .i64 0, .int .i64 0, .int .u8 0]] ((Rs.want_on (t := 44) (b' := true) rfl rfl (hd 3 _ rfl rfl _ rfl)).trans rfl) rfl rfl cq54 (((sameMark_Block _ _ _ w').mono cq7))
     intro wz hz
     simp only [Rs.putL, Act.put, qS, qZ, qN]
     go_wp2_with fail
     go_meet
     exact ⟨rfl, ⟨hz⟩⟩
    case rest =>
     obtain ⟨rfl, HB2⟩ := hcut
     go_wp2
     go_roundw
     case rel => exact ⟨j + 1, by omega, by go_num, HB2⟩
     case measure => simp [intOf]; omega
  ·obtain rfl : j = l.length + 12 := by omega
   go_wp2
   go_ret
   exact ⟨rfl, HB.out⟩
theorem keptGraph_calls (x : S50) (G1 : Option Addr) (d1 : Nat) (A1 : Option Addr) (c1 : Nat) (G3 : Option Addr) (d3 : Nat) (A3 : Option Addr) (c3 : Nat) (G4 : Option Addr) (d4 : Nat) (A4 : Option Addr) (c4 : Nat) (G5 : Option Addr) (d5 : Nat) (A5 : Option Addr) (c5 : Nat) (w : World) (ho1 : lInts.K w x.f1 [.slice G1 x.f1.length d1]) (hc1 : x.f1.length ≤ c1) (hr1 : Kd.C (Kd.int .i64) w A1 x.f1.length x.f1) (ho3 : lTypes.K w x.f3 [.slice G3 x.f3.length d3]) (hc3 : x.f3.length ≤ c3) (hr3 : Kd.C (Kd.int .u8) w A3 x.f3.length x.f3) (ho4 : lArrays.K w x.f4 [.slice G4 x.f4.length d4]) (hc4 : x.f4.length ≤ c4) (hr4 : Kd.C k155 w A4 x.f4.length x.f4) (ho5 : lBlocks.K w x.f5 [.slice G5 x.f5.length d5]) (hc5 : x.f5.length ≤ c5) (hr5 : Kd.C k58 w A5 x.f5.length x.f5) (hs : szG x) :
 Calls Tryz.prog 31 #[.agg #[.string x.f0, .slice G1 x.f1.length d1, .int .u8 x.f2, .slice G3 x.f3.length d3, .slice G4 x.f4.length d4, .slice G5 x.f5.length d5], .agg #[.string x.f0, .slice A1 x.f1.length c1, .int .u8 x.f2, .slice A3 x.f3.length c3, .slice A4 x.f4.length c4, .slice A5 x.f5.length c5]] w fun e w' => e = .returned (.bool true) ∧ Below w.heap.size w w' := by
 obtain ⟨_, _, e1, ga1, gb1⟩ := flat_weak ho1
 injection e1 with p1 _ q1
 subst p1; subst q1
 have HO1 := qA ho1; have HG1 := qA gb1; have HR1 := qA hr1
 obtain ⟨_, _, e3, ga3, gb3⟩ := flat_weak ho3
 injection e3 with p3 _ q3
 subst p3; subst q3
 have HO3 := qA ho3; have HG3 := qA gb3; have HR3 := qA hr3
 obtain ⟨_, _, e4, ga4, gb4⟩ := flat_weak ho4
 injection e4 with p4 _ q4
 subst p4; subst q4
 have HO4 := qA ho4; have HG4 := qA gb4; have HR4 := qA hr4
 obtain ⟨_, _, e5, ga5, gb5⟩ := lBlocks_weak ho5
 injection e5 with p5 _ q5
 subst p5; subst q5
 have HO5 := qA ho5; have HG5 := qA gb5; have HR5 := qA hr5
 have HS := qA hs
 have huT := Tryz.underlying50
 clear hs ho1 gb1 hr1 ho3 gb3 hr3 ho4 gb4 hr4 ho5 gb5 hr5
 go_enter Tryz.func31, Tryz.ntmps31
 go_wp2_with (first | ((with_reducible refine gate_dst (N := 2) rfl ?_); refine box_event ?hg (N := 2) ?hd (cs := #[.string x.f0, .slice G1 x.f1.length d1, .int .u8 x.f2, .slice G3 x.f3.length d3, .slice G4 x.f4.length d4, .slice G5 x.f5.length d5]) (t := 50) ?hr ?_; (case hd => rfl); (case hg => rfl); (case hr => first | (go_simp; done) | (go_simp; rfl)); intro g1 e1 w1 b1 hb1) | ((with_reducible refine gate_dst (N := 3) rfl ?_); refine box_event ?hg (N := 3) ?hd (cs := #[.string x.f0, .slice A1 x.f1.length c1, .int .u8 x.f2, .slice A3 x.f3.length c3, .slice A4 x.f4.length c4, .slice A5 x.f5.length c5]) (t := 50) ?hr ?_; (case hd => rfl); (case hg => rfl); (case hr => first | (go_simp; done) | (go_simp; rfl)); intro g2 e2 w2 b2 hb2; have B1 := qA (blk_below b1 hb2); have B2 := qA b2; have HB := qA (below_step hb1 hb2); clear e1 e2 b1 b2 hb1 hb2; have hzg1_0 : w2.cell? ⟨g1, 0, none⟩ = some (.string x.f0) := (blk_cell B1.out 0).trans rfl; have hzg1_1 : w2.cell? ⟨g1, 1, none⟩ = some (.slice G1 x.f1.length d1) := (blk_cell B1.out 1).trans rfl; have hzg1_2 : w2.cell? ⟨g1, 2, none⟩ = some (.int .u8 x.f2) := (blk_cell B1.out 2).trans rfl; have hzg1_3 : w2.cell? ⟨g1, 3, none⟩ = some (.slice G3 x.f3.length d3) := (blk_cell B1.out 3).trans rfl; have hzg1_4 : w2.cell? ⟨g1, 4, none⟩ = some (.slice G4 x.f4.length d4) := (blk_cell B1.out 4).trans rfl; have hzg1_5 : w2.cell? ⟨g1, 5, none⟩ = some (.slice G5 x.f5.length d5) := (blk_cell B1.out 5).trans rfl; have hzg2_0 : w2.cell? ⟨g2, 0, none⟩ = some (.string x.f0) := (blk_cell B2.out 0).trans rfl; have hzg2_1 : w2.cell? ⟨g2, 1, none⟩ = some (.slice A1 x.f1.length c1) := (blk_cell B2.out 1).trans rfl; have hzg2_2 : w2.cell? ⟨g2, 2, none⟩ = some (.int .u8 x.f2) := (blk_cell B2.out 2).trans rfl; have hzg2_3 : w2.cell? ⟨g2, 3, none⟩ = some (.slice A3 x.f3.length c3) := (blk_cell B2.out 3).trans rfl; have hzg2_4 : w2.cell? ⟨g2, 4, none⟩ = some (.slice A4 x.f4.length c4) := (blk_cell B2.out 4).trans rfl; have hzg2_5 : w2.cell? ⟨g2, 5, none⟩ = some (.slice A5 x.f5.length c5) := (blk_cell B2.out 5).trans rfl))
 refine (sameGraph_eq x G1 d1 A1 c1 G3 d3 A3 c3 G4 d4 A4 c4 G5 d5 A5 c5 _ (Kd.C_below HG1.out HB.out) ga1 (Kd.C_below HR1.out HB.out) hc1 (Kd.C_below HG3.out HB.out) ga3 (Kd.C_below HR3.out HB.out) hc3 (Kd.C_below HG4.out HB.out) ga4 (Kd.C_below HR4.out HB.out) hc4 (Kd.C_below HG5.out HB.out) ga5 (Kd.C_below HR5.out HB.out) hc5 (mzG_of HS.out)).mono ?_
 rintro e w3 ⟨rfl, hb⟩
 replace B1 := qA (blk_below B1.out hb)
 replace B2 := qA (blk_below B2.out hb)
 replace HB := qA (below_step HB.out hb)
 clear hb hzg1_0 hzg2_0 hzg1_1 hzg2_1 hzg1_2 hzg2_2 hzg1_3 hzg2_3 hzg1_4 hzg2_4 hzg1_5 hzg2_5
 have hzg1_1 : w3.cell? ⟨g1, 1, none⟩ = some (.slice G1 x.f1.length d1) := (blk_cell B1.out 1).trans rfl
 have hzg2_1 : w3.cell? ⟨g2, 1, none⟩ = some (.slice A1 x.f1.length c1) := (blk_cell B2.out 1).trans rfl
 go_wp2_with fail
 refine (keptInts_calls _ A1 c1 x.f1 _ (lInts.K_below HB.out HO1.out) (Kd.C_below HR1.out HB.out) hc1 HS.out.1).mono ?_
 rintro e w4 ⟨rfl, hb⟩
 replace B1 := qA (blk_below B1.out hb)
 replace B2 := qA (blk_below B2.out hb)
 replace HB := qA (below_step HB.out hb)
 clear hb hzg1_1 hzg2_1
 have hzg1_3 : w4.cell? ⟨g1, 3, none⟩ = some (.slice G3 x.f3.length d3) := (blk_cell B1.out 3).trans rfl
 have hzg2_3 : w4.cell? ⟨g2, 3, none⟩ = some (.slice A3 x.f3.length c3) := (blk_cell B2.out 3).trans rfl
 go_wp2_with fail
 refine (keptTypes_calls _ A3 c3 x.f3 _ (lTypes.K_below HB.out HO3.out) (Kd.C_below HR3.out HB.out) hc3 HS.out.2.1).mono ?_
 rintro e w5 ⟨rfl, hb⟩
 replace B1 := qA (blk_below B1.out hb)
 replace B2 := qA (blk_below B2.out hb)
 replace HB := qA (below_step HB.out hb)
 clear hb hzg1_3 hzg2_3
 have hzg1_4 : w5.cell? ⟨g1, 4, none⟩ = some (.slice G4 x.f4.length d4) := (blk_cell B1.out 4).trans rfl
 have hzg2_4 : w5.cell? ⟨g2, 4, none⟩ = some (.slice A4 x.f4.length c4) := (blk_cell B2.out 4).trans rfl
 go_wp2_with fail
 refine (keptArrays_calls _ A4 c4 x.f4 _ (lArrays.K_below HB.out HO4.out) (Kd.C_below HR4.out HB.out) hc4 HS.out.2.2.1).mono ?_
 rintro e w6 ⟨rfl, hb⟩
 replace B1 := qA (blk_below B1.out hb)
 replace B2 := qA (blk_below B2.out hb)
 replace HB := qA (below_step HB.out hb)
 clear hb hzg1_4 hzg2_4
 have hzg1_5 : w6.cell? ⟨g1, 5, none⟩ = some (.slice G5 x.f5.length d5) := (blk_cell B1.out 5).trans rfl
 have hzg2_5 : w6.cell? ⟨g2, 5, none⟩ = some (.slice A5 x.f5.length c5) := (blk_cell B2.out 5).trans rfl
 go_wp2_with fail
 refine (keptBlocks_calls _ A5 c5 x.f5 _ (lBlocks.K_below HB.out HO5.out) (Kd.C_below HR5.out HB.out) hc5 HS.out.2.2.2.1 HS.out.2.2.2.2).mono ?_
 rintro e w7 ⟨rfl, hb⟩
 replace B1 := qA (blk_below B1.out hb)
 replace B2 := qA (blk_below B2.out hb)
 replace HB := qA (below_step HB.out hb)
 clear hb hzg1_5 hzg2_5
 go_wp2
 go_ret
 exact ⟨rfl, HB.out⟩
theorem keptGraphs_calls (v : Value) (A : Option Addr) (c : Nat) (l : List S50) (w : World) (ho : (hid 50 xGraph List.length (fun l => both l (mks mGraph 12))).K w l [v]) (hr : Kd.C k50 w A l.length l) (hc : l.length ≤ c) (hl : (l.length + 12) * 120 ≤ 140737488355328) (hs : ∀ x ∈ l, szG x) :
 Calls Tryz.prog 13 #[v, .slice A l.length c] w fun e w' => e = .returned (.bool true) ∧ Below w.heap.size w w' := by
 obtain ⟨A0, cap, e, -, hcap, hO⟩ := ho
 obtain rfl : v = .slice A0 l.length cap := List.head_eq_of_cons_eq e
 have hfl : (both l (mks mGraph 12)).length = l.length + 12 := by rw [both_len, mks_len]
 rw [hfl] at hcap hO
 clear e
 obtain ⟨ag, _, hA0, -⟩ := Kd.C_get hO (true, z50) 0 cq2 cq2
 subst hA0
 have HR := qA hr
 have HO := qA hO
 have HC := qA hc
 have hcap2 : l.length ≤ cap := by omega
 have hlb : l.length + 12 ≤ 140737488355328 := by omega
 have HB0 : Aside0 (Below w.heap.size w w) := ⟨Below.refl _ _⟩
 have HS := qA hs
 clear hr hO hl hfl hs
 go_enter Tryz.func13, Tryz.ntmps13
 go_wp2
 go_loopw [6] (fun v6 wr => ∃ j : Nat, j ≤ l.length + 12 ∧ v6 = .int .i64 (j : Int) ∧ Aside0 (Below w.heap.size w wr)) (fun i _ => l.length + 12 - (intOf i).toNat)
 case atStart => exact ⟨0, by omega, rfl, HB0⟩
 case round =>
  clear HB0
  obtain ⟨j, hj, rfl, HB⟩ := hrel
  by_cases hlt0 : j < l.length + 12
  ·by_cases hlt : j < l.length
   ·obtain ⟨ad, cx, hA, -, hKx, hcx⟩ := Kd.C_get HR.out z50 (j : Int) cq2 cq2
    subst hA
    obtain ⟨ag', cg, hag, -, hKg, hcg⟩ := Kd.C_get HO.out (true, z50) (j : Int) cq2 cq2
    obtain rfl : ag = ag' := by injection hag
    clear hag
    obtain ⟨x, hx⟩ : ∃ x, x = l[j] := ⟨_, rfl⟩
    rw [Int.toNat_natCast, getD_at (x := x) cq37] at hKx
    rw [Int.toNat_natCast, getD_at (x := (true, x)) (by rw [hx]; exact both_lo hlt)] at hKg
    rw [Int.toNat_natCast] at hcx hcg
    replace hcx : ∀ q u, cx[q]? = some u → w.cell? (ad.add (j * 6 + q)) = some u := hcx
    replace hcg : ∀ q u, cg[q]? = some u → w.cell? (ag.add (j * 6 + q)) = some u := hcg
    obtain ⟨A1, c1, A3, c3, A4, c4, A5, c5, rfl, hc1, hX1, hc3, hX3, hc4, hX4, hc5, hX5⟩ := k50_open hKx
    rcases hKg with ⟨_, hKg⟩ | ⟨hKg, _⟩
    rotate_left
    ·cases hKg
    obtain ⟨G1, d1, G3, d3, G4, d4, G5, d5, rfl, hL1, hL3, hL4, hL5⟩ := lGraph_openK hKg
    have hx0 := hcx 0 _ rfl
    have hx1 := hcx 1 _ rfl
    have hx2 := hcx 2 _ rfl
    have hx3 := hcx 3 _ rfl
    have hx4 := hcx 4 _ rfl
    have hx5 := hcx 5 _ rfl
    rw [Nat.add_zero] at hx0
    rw [add_field _ _ 1 cq2] at hx1
    rw [add_field _ _ 2 cq2] at hx2
    rw [add_field _ _ 3 cq2] at hx3
    rw [add_field _ _ 4 cq2] at hx4
    rw [add_field _ _ 5 cq2] at hx5
    have hg0 := hcg 0 _ rfl
    have hg1 := hcg 1 _ rfl
    have hg2 := hcg 2 _ rfl
    have hg3 := hcg 3 _ rfl
    have hg4 := hcg 4 _ rfl
    have hg5 := hcg 5 _ rfl
    rw [Nat.add_zero] at hg0
    rw [add_field _ _ 1 cq2] at hg1
    rw [add_field _ _ 2 cq2] at hg2
    rw [add_field _ _ 3 cq2] at hg3
    rw [add_field _ _ 4 cq2] at hg4
    rw [add_field _ _ 5 cq2] at hg5
    have HX := qA (show szG x by rw [hx]; exact HS.out _ (List.getElem_mem hlt))
    have HL1 := qA hL1; have HX1 := qA hX1; clear hL1 hX1
    have HL3 := qA hL3; have HX3 := qA hX3; clear hL3 hX3
    have HL4 := qA hL4; have HX4 := qA hX4; clear hL4 hX4
    have HL5 := qA hL5; have HX5 := qA hX5; clear hL5 hX5
    clear hcx hcg hx
    have hcc1 : decide ((j : Int) < (l.length : Int)) = true := by simp; omega
    have hcc2 : decide ((l.length : Int) ≤ (j : Int)) = false := by simp; omega
    have hcc3 : decide (j < l.length) = true := by simp; omega
    have hcc4 : decide (l.length ≤ j) = false := by simp; omega
    go_wp2_with fail
    go_upto_region 7 with (fail)
    go_cut [57] (fun v57 wx => v57 = .bool false ∧ Aside0 (Below w.heap.size w wx))
    case first =>
     refine Rs.wp_region_stable [23, 24, 25, 26, 27, 28, 29, 30, 31, 32, 33, 34, 35, 36, 37, 38, 39, 40, 41, 42, 43, 44, 45, 46, 47, 48, 49, 50, 51, 52, 53, 54, 55, 56, 57] [.int .i64 ((j : Int)), .slice (some ad) l.length c, .int .i64 ((l.length : Int)), .bool true, .bool true, .slice (some ag) (l.length + 12) cap, .int .i64 ((j : Int)), .pointer (some (ag.add (j * 6))), .agg #[.string x.f0, .slice G1 x.f1.length d1, .int .u8 x.f2, .slice G3 x.f3.length d3, .slice G4 x.f4.length d4, .slice G5 x.f5.length d5], .slice (some ad) l.length c, .int .i64 ((j : Int)), .pointer (some (ad.add (j * 6))), .agg #[.string x.f0, .slice A1 x.f1.length c1, .int .u8 x.f2, .slice A3 x.f3.length c3, .slice A4 x.f4.length c4, .slice A5 x.f5.length c5], .bool true, .bool false, .bool false, .bool false, .int .i64 ((j : Int)), .slice (some ad) l.length c, .int .i64 ((l.length : Int)), .bool false, .bool false, undef, undef, undef, undef, undef, undef, undef, undef, undef, undef, undef, .bool false, .bool false] (Below w.heap.size w) cq3 cq3 rfl (below_drew HB.out) ⟨kp10, kp11, kp5, kp6, kp5, kp9, kp4, kp0, kp13, kp8, kp4, kp0, kp17, ?s13, kp2, kp6, kp5, kp4, kp8, kp2, kp0, kp2, kp1, kp1, kp7, kp3, kp1, kp1, kp3, kp7, kp3, kp18, kp3, kp0, kp6, trivial⟩ ?_
     case s13 =>
      exact fun a w' hG hd hf K hK => by
       have e31 : a.tmps[31]? = some (.agg #[.string x.f0, .slice G1 x.f1.length d1, .int .u8 x.f2, .slice G3 x.f3.length d3, .slice G4 x.f4.length d4, .slice G5 x.f5.length d5]) := hd 0 _ rfl rfl _ rfl; have e35 : a.tmps[35]? = some (.agg #[.string x.f0, .slice A1 x.f1.length c1, .int .u8 x.f2, .slice A3 x.f3.length c3, .slice A4 x.f4.length c4, .slice A5 x.f5.length c5]) := hd 1 _ rfl rfl _ rfl
       exact goes_ Tryz.func31 cq3 rfl #[.agg #[.string x.f0, .slice G1 x.f1.length d1, .int .u8 x.f2, .slice G3 x.f3.length d3, .slice G4 x.f4.length d4, .slice G5 x.f5.length d5], .agg #[.string x.f0, .slice A1 x.f1.length c1, .int .u8 x.f2, .slice A3 x.f3.length c3, .slice A4 x.f4.length c4, .slice A5 x.f5.length c5]] ((Rs.want_on (t := 27) (b' := true) rfl rfl (hd 2 _ rfl rfl _ rfl)).trans rfl) rfl rfl cq44 (((keptGraph_calls x G1 d1 A1 c1 G3 d3 A3 c3 G4 d4 A4 c4 G5 d5 A5 c5 w' (lInts.K_below hG HL1.out) hc1 (Kd.C_below HX1.out hG) (lTypes.K_below hG HL3.out) hc3 (Kd.C_below HX3.out hG) (lArrays.K_below hG HL4.out) hc4 (Kd.C_below HX4.out hG) (lBlocks.K_below hG HL5.out) hc5 (Kd.C_below HX5.out hG) HX.out).mono cq7))
     intro wz hz
     simp only [Rs.putL, Act.put, qS, qZ, qN]
     go_wp2_with fail
     go_meet
     exact ⟨rfl, ⟨hz⟩⟩
    case rest =>
     obtain ⟨rfl, HB2⟩ := hcut
     go_wp2
     go_roundw
     case rel => exact ⟨j + 1, by omega, by go_num, HB2⟩
     case measure => simp [intOf]; omega
   ·obtain ⟨ag', cg, hag, -, hKg, hcg⟩ := Kd.C_get HO.out (true, z50) (j : Int) cq2 cq2
    obtain rfl : ag = ag' := by injection hag
    clear hag
    rw [Int.toNat_natCast, getD_at (x := (false, mGraph ((j : Int) - (l.length : Int)))) (by rw [both_hi (l := l) (m := mks mGraph 12) cq2 cq57]; congr 2; have hq := mks_at mGraph (m := 12) (j := j - l.length) cq2; rw [qE cq57] at hq; rw [Option.some.inj hq]; congr 1; omega)] at hKg
    rw [Int.toNat_natCast] at hcg
    replace hcg : ∀ q u, cg[q]? = some u → w.cell? (ag.add (j * 6 + q)) = some u := hcg
    rcases hKg with ⟨hKg, _⟩ | ⟨_, hKg⟩
    ·cases hKg
    obtain ⟨M1, m1, M3, m3, M4, m4, M5, m5, rfl, -⟩ := k50_open hKg
    have hg0 : w.cell? (ag.add (j * 6 + 0)) = some (.string (mText 1 ((j : Int) - (l.length : Int)))) := hcg 0 _ rfl
    have hg1 : w.cell? (ag.add (j * 6 + 1)) = some (.slice M1 0 m1) := hcg 1 _ rfl
    have hg2 : w.cell? (ag.add (j * 6 + 2)) = some (.int .u8 0) := hcg 2 _ rfl
    have hg3 : w.cell? (ag.add (j * 6 + 3)) = some (.slice M3 0 m3) := hcg 3 _ rfl
    have hg4 : w.cell? (ag.add (j * 6 + 4)) = some (.slice M4 0 m4) := hcg 4 _ rfl
    have hg5 : w.cell? (ag.add (j * 6 + 5)) = some (.slice M5 0 m5) := hcg 5 _ rfl
    rw [Nat.add_zero] at hg0
    rw [add_field _ _ 1 cq2] at hg1
    rw [add_field _ _ 2 cq2] at hg2
    rw [add_field _ _ 3 cq2] at hg3
    rw [add_field _ _ 4 cq2] at hg4
    rw [add_field _ _ 5 cq2] at hg5
    clear hcg
    have hcc1 : decide ((j : Int) < (l.length : Int)) = false := by simp; omega
    have hcc2 : decide ((l.length : Int) ≤ (j : Int)) = true := by simp; omega
    have hcc3 : decide (j < l.length) = false := by simp; omega
    have hcc4 : decide (l.length ≤ j) = true := by simp; omega
    have hmk : ∀ W : World, Calls Tryz.prog 26 #[.int .i64 1, .int .i64 (wrap64 ((j : Int) - (l.length : Int)))] W fun e w' => e = .returned (.agg #[.string (mText 1 ((j : Int) - (l.length : Int))), .slice none 0 0, .int .u8 0, .slice none 0 0, .slice none 0 0, .slice none 0 0]) ∧ Below W.heap.size W w' := fun W => by rw [w64_small (n := (j : Int) - (l.length : Int)) cq2 cq2]; exact markGraph_calls 1 ((j : Int) - (l.length : Int)) W cq2 cq2 cq2 cq2
    have HMK := qA hmk
    clear hmk
    go_wp2_with fail
    go_upto_region 7 with (fail)
    go_cut [57] (fun v57 wx => v57 = .bool false ∧ Aside0 (Below w.heap.size w wx))
    case first =>
     refine Rs.wp_region_stable [23, 24, 25, 26, 27, 28, 29, 30, 31, 32, 33, 34, 35, 36, 37, 38, 39, 40, 41, 42, 43, 44, 45, 46, 47, 48, 49, 50, 51, 52, 53, 54, 55, 56, 57] [.int .i64 ((j : Int)), .slice A l.length c, .int .i64 ((l.length : Int)), .bool false, .bool false, undef, undef, undef, undef, undef, undef, undef, undef, undef, undef, .bool false, .bool false, .int .i64 ((j : Int)), .slice A l.length c, .int .i64 ((l.length : Int)), .bool true, .bool true, .slice (some ag) (l.length + 12) cap, .int .i64 ((j : Int)), .pointer (some (ag.add (j * 6))), .agg #[.string (mText 1 ((j : Int) - (l.length : Int))), .slice M1 0 m1, .int .u8 0, .slice M3 0 m3, .slice M4 0 m4, .slice M5 0 m5], .int .i64 ((j : Int)), .slice A l.length c, .int .i64 ((l.length : Int)), .int .i64 (wrap64 ((j : Int) - (l.length : Int))), .agg #[.string (mText 1 ((j : Int) - (l.length : Int))), .slice none 0 0, .int .u8 0, .slice none 0 0, .slice none 0 0, .slice none 0 0], .bool true, .bool false, .bool false, .bool false] (Below w.heap.size w) cq3 cq3 rfl (below_drew HB.out) ⟨kp10, kp11, kp5, kp6, kp5, kp1, kp1, kp7, kp3, kp1, kp1, kp7, kp3, kp7, kp3, kp6, kp5, kp4, kp8, kp2, kp0, kp2, kp9, kp4, kp0, kp13, kp4, kp8, kp2, kp0, ?s30, ?s31, kp2, kp0, kp6, trivial⟩ ?_
     case s30 =>
      exact fun a w' hG hd hf K hK => by
       have e52 : a.tmps[52]? = some (.int .i64 (wrap64 ((j : Int) - (l.length : Int)))) := hd 0 _ rfl rfl _ rfl
       exact goes_ Tryz.func26 cq3 rfl #[.int .i64 1, .int .i64 (wrap64 ((j : Int) - (l.length : Int)))] ((Rs.want_on (t := 44) (b' := true) rfl rfl (hd 1 _ rfl rfl _ rfl)).trans rfl) rfl rfl cq38 (((HMK.out w').mono cq7))
     case s31 =>
      exact fun a w' hG hd hf K hK => by
       have e48 : a.tmps[48]? = some (.agg #[.string (mText 1 ((j : Int) - (l.length : Int))), .slice M1 0 m1, .int .u8 0, .slice M3 0 m3, .slice M4 0 m4, .slice M5 0 m5]) := hd 0 _ rfl rfl _ rfl; have e53 : a.tmps[53]? = some (.agg #[.string (mText 1 ((j : Int) - (l.length : Int))), .slice none 0 0, .int .u8 0, .slice none 0 0, .slice none 0 0, .slice none 0 0]) := hd 1 _ rfl rfl _ rfl
       exact goes_ Tryz.func32 cq3 rfl #[.agg #[.string (mText 1 ((j : Int) - (l.length : Int))), .slice M1 0 m1, .int .u8 0, .slice M3 0 m3, .slice M4 0 m4, .slice M5 0 m5], .agg #[.string (mText 1 ((j : Int) - (l.length : Int))), .slice none 0 0, .int .u8 0, .slice none 0 0, .slice none 0 0, .slice none 0 0]] ((Rs.want_on (t := 44) (b' := true) rfl rfl (hd 3 _ rfl rfl _ rfl)).trans rfl) rfl rfl cq54 (((sameMark_Graph _ _ _ _ _ _ _ _ _ w').mono cq7))
     intro wz hz
     simp only [Rs.putL, Act.put, qS, qZ, qN]
     go_wp2_with fail
     go_meet
     exact ⟨rfl, ⟨hz⟩⟩
    case rest =>
     obtain ⟨rfl, HB2⟩ := hcut
     go_wp2
     go_roundw
     case rel => exact ⟨j + 1, by omega, by go_num, HB2⟩
     case measure => simp [intOf]; omega
  ·obtain rfl : j = l.length + 12 := by omega
   go_wp2
   go_ret
   exact ⟨rfl, HB.out⟩
theorem keptRows_calls (v : Value) (A : Option Addr) (c : Nat) (l : List (List Int)) (w : World) (ho : (hid 44 xInts List.length (fun l => both l (mks mRow 12))).K w l [v]) (hr : Kd.C (Kd.slice 3 (Kd.int .i64)) w A l.length l) (hc : l.length ≤ c) (hl : (l.length + 12) * 24 ≤ 140737488355328) (hs : ∀ x ∈ l, (x.length + 12) * 8 ≤ 140737488355328) :
 Calls Tryz.prog 12 #[v, .slice A l.length c] w fun e w' => e = .returned (.bool true) ∧ Below w.heap.size w w' := by
 obtain ⟨A0, cap, e, -, hcap, hO⟩ := ho
 obtain rfl : v = .slice A0 l.length cap := List.head_eq_of_cons_eq e
 have hfl : (both l (mks mRow 12)).length = l.length + 12 := by rw [both_len, mks_len]
 rw [hfl] at hcap hO
 clear e
 obtain ⟨ag, _, hA0, -⟩ := Kd.C_get hO (true, []) 0 cq2 cq2
 subst hA0
 have HR := qA hr
 have HO := qA hO
 have HC := qA hc
 have hcap2 : l.length ≤ cap := by omega
 have hlb : l.length + 12 ≤ 140737488355328 := by omega
 have HB0 : Aside0 (Below w.heap.size w w) := ⟨Below.refl _ _⟩
 have HS := qA hs
 clear hr hO hl hfl hs
 go_enter Tryz.func12, Tryz.ntmps12
 go_wp2
 go_loopw [6] (fun v6 wr => ∃ j : Nat, j ≤ l.length + 12 ∧ v6 = .int .i64 (j : Int) ∧ Aside0 (Below w.heap.size w wr)) (fun i _ => l.length + 12 - (intOf i).toNat)
 case atStart => exact ⟨0, by omega, rfl, HB0⟩
 case round =>
  clear HB0
  obtain ⟨j, hj, rfl, HB⟩ := hrel
  by_cases hlt0 : j < l.length + 12
  ·by_cases hlt : j < l.length
   ·obtain ⟨ad, cx, hA, -, hKx, hcx⟩ := Kd.C_get HR.out [] (j : Int) cq2 cq2
    subst hA
    obtain ⟨ag', cg, hag, -, hKg, hcg⟩ := Kd.C_get HO.out (true, []) (j : Int) cq2 cq2
    obtain rfl : ag = ag' := by injection hag
    clear hag
    obtain ⟨x, hx⟩ : ∃ x, x = l[j] := ⟨_, rfl⟩
    rw [Int.toNat_natCast, getD_at (x := x) cq37] at hKx
    rw [Int.toNat_natCast, getD_at (x := (true, x)) (by rw [hx]; exact both_lo hlt)] at hKg
    rw [Int.toNat_natCast] at hcx hcg
    replace hcx : ∀ q u, cx[q]? = some u → w.cell? (ad.add (j * 1 + q)) = some u := hcx
    replace hcg : ∀ q u, cg[q]? = some u → w.cell? (ag.add (j * 1 + q)) = some u := hcg
    obtain ⟨A0, c0, rfl, hc0, hX0⟩ := hKx
    rcases hKg with ⟨_, hKg⟩ | ⟨hKg, _⟩
    rotate_left
    ·cases hKg
    obtain ⟨G0, d0, hcgx, hq0⟩ := hKg
    subst hcgx
    have hL0 : lInts.K w x [.slice G0 x.length d0] := ⟨G0, d0, rfl, hq0⟩
    have hx0 := hcx 0 _ rfl
    rw [Nat.mul_one, Nat.add_zero] at hx0
    have hg0 := hcg 0 _ rfl
    rw [Nat.mul_one, Nat.add_zero] at hg0
    have HX := qA (show (x.length + 12) * 8 ≤ 140737488355328 by rw [hx]; exact HS.out _ (List.getElem_mem hlt))
    have HL0 := qA hL0; have HX0 := qA hX0; clear hL0 hX0 hq0
    clear hcx hcg hx
    have hcc1 : decide ((j : Int) < (l.length : Int)) = true := by simp; omega
    have hcc2 : decide ((l.length : Int) ≤ (j : Int)) = false := by simp; omega
    have hcc3 : decide (j < l.length) = true := by simp; omega
    have hcc4 : decide (l.length ≤ j) = false := by simp; omega
    go_wp2_with fail
    go_upto_region 7 with (fail)
    go_cut [66] (fun v57 wx => v57 = .bool false ∧ Aside0 (Below w.heap.size w wx))
    case first =>
     refine Rs.wp_region_stable [23, 24, 25, 26, 27, 28, 29, 30, 31, 32, 33, 34, 35, 36, 37, 38, 39, 40, 41, 42, 43, 44, 45, 46, 47, 48, 49, 50, 51, 52, 53, 54, 55, 56, 57, 58, 59, 60, 61, 62, 63, 64, 65, 66] [.int .i64 ((j : Int)), .slice (some ad) l.length c, .int .i64 ((l.length : Int)), .bool true, .bool true, .slice (some ag) (l.length + 12) cap, .int .i64 ((j : Int)), .pointer (some (ag.add j)), .slice G0 x.length d0, .slice (some ad) l.length c, .int .i64 ((j : Int)), .pointer (some (ad.add j)), .slice A0 x.length c0, .bool true, .bool false, .bool false, .bool false, .int .i64 ((j : Int)), .slice (some ad) l.length c, .int .i64 ((l.length : Int)), .bool false, .bool false, undef, undef, undef, undef, undef, undef, undef, undef, undef, undef, undef, undef, undef, undef, undef, undef, undef, undef, undef, undef, .bool false, .bool false] (Below w.heap.size w) cq3 cq3 rfl (below_drew HB.out) ⟨kp10, kp11, kp5, kp6, kp5, kp9, kp4, kp0, kp12, kp8, kp4, kp0, kp16, ?s13, kp2, kp6, kp5, kp4, kp8, kp2, kp0, kp2, kp1, kp1, kp7, kp3, kp3, kp3, kp3, kp15, kp15, kp19, kp14, kp14, kp14, kp15, kp15, kp14, kp19, kp14, kp19, kp7, kp0, kp6, trivial⟩ ?_
     case s13 =>
      exact fun a w' hG hd hf K hK => by
       have e31 : a.tmps[31]? = some (.slice G0 x.length d0) := hd 0 _ rfl rfl _ rfl; have e35 : a.tmps[35]? = some (.slice A0 x.length c0) := hd 1 _ rfl rfl _ rfl
       exact goes_ Tryz.func30 cq3 rfl #[.slice G0 x.length d0, .slice A0 x.length c0] ((Rs.want_on (t := 27) (b' := true) rfl rfl (hd 2 _ rfl rfl _ rfl)).trans rfl) rfl rfl cq44 (((keptInts_calls (.slice G0 x.length d0) A0 c0 x w' (lInts.K_below hG HL0.out) (Kd.C_below HX0.out hG) hc0 HX.out).mono cq7))
     intro wz hz
     simp only [Rs.putL, Act.put, qS, qZ, qN]
     go_wp2_with fail
     go_meet
     exact ⟨rfl, ⟨hz⟩⟩
    case rest =>
     obtain ⟨rfl, HB2⟩ := hcut
     go_wp2
     go_roundw
     case rel => exact ⟨j + 1, by omega, by go_num, HB2⟩
     case measure => simp [intOf]; omega
   ·obtain ⟨ag', cg, hag, -, hKg, hcg⟩ := Kd.C_get HO.out (true, []) (j : Int) cq2 cq2
    obtain rfl : ag = ag' := by injection hag
    clear hag
    rw [Int.toNat_natCast, getD_at (x := (false, mRow ((j : Int) - (l.length : Int)))) (by rw [both_hi (l := l) (m := mks mRow 12) cq2 cq57]; congr 2; have hq := mks_at mRow (m := 12) (j := j - l.length) cq2; rw [qE cq57] at hq; rw [Option.some.inj hq]; congr 1; omega)] at hKg
    rw [Int.toNat_natCast] at hcg
    replace hcg : ∀ q u, cg[q]? = some u → w.cell? (ag.add (j * 1 + q)) = some u := hcg
    rcases hKg with ⟨hKg, _⟩ | ⟨_, hKg⟩
    ·cases hKg
    obtain ⟨M0, m0, hcgx, hm1, hM0⟩ := hKg
    subst hcgx
    obtain ⟨mg, hmg, hm0⟩ := Kd.at_int hM0 0 cq2 (by show (0 : Int) < ((mRow ((j : Int) - (l.length : Int))).length : Int); simp [mRow])
    subst hmg
    rw [show ((0 : Int)).toNat = 0 from rfl, Addr.add_zero'] at hm0
    replace hm0 : w.cell? mg = some (.int .i64 (mkI 1 ((j : Int) - (l.length : Int)))) := hm0
    clear hM0
    have hg0 : w.cell? (ag.add (j * 1 + 0)) = some (.slice (some mg) 1 m0) := hcg 0 _ rfl
    rw [Nat.mul_one, Nat.add_zero] at hg0
    clear hcg
    have hcc1 : decide ((j : Int) < (l.length : Int)) = false := by simp; omega
    have hcc2 : decide ((l.length : Int) ≤ (j : Int)) = true := by simp; omega
    have hcc3 : decide (j < l.length) = false := by simp; omega
    have hcc4 : decide (l.length ≤ j) = true := by simp; omega
    have hmk : ∀ W : World, Calls Tryz.prog 24 #[.int .i64 1, .int .i64 (wrap64 ((j : Int) - (l.length : Int)))] W fun e w' => e = .returned (.int .i64 (mkI 1 ((j : Int) - (l.length : Int)))) ∧ Below W.heap.size W w' := fun W => by rw [w64_small (n := (j : Int) - (l.length : Int)) cq2 cq2]; exact mark_calls 1 ((j : Int) - (l.length : Int)) W cq2 cq2 cq2 cq2
    have HMK := qA hmk
    clear hmk
    go_wp2_with fail
    go_upto_region 7 with (fail)
    go_cut [66] (fun v57 wx => v57 = .bool false ∧ Aside0 (Below w.heap.size w wx))
    case first =>
     refine Rs.wp_region_stable [23, 24, 25, 26, 27, 28, 29, 30, 31, 32, 33, 34, 35, 36, 37, 38, 39, 40, 41, 42, 43, 44, 45, 46, 47, 48, 49, 50, 51, 52, 53, 54, 55, 56, 57, 58, 59, 60, 61, 62, 63, 64, 65, 66] [.int .i64 ((j : Int)), .slice A l.length c, .int .i64 ((l.length : Int)), .bool false, .bool false, undef, undef, undef, undef, undef, undef, undef, undef, undef, undef, .bool false, .bool false, .int .i64 ((j : Int)), .slice A l.length c, .int .i64 ((l.length : Int)), .bool true, .bool true, .slice (some ag) (l.length + 12) cap, .int .i64 ((j : Int)), .pointer (some (ag.add j)), .slice (some mg) 1 m0, .int .i64 ((1 : Int)), .bool false, .bool false, .slice (some ag) (l.length + 12) cap, .int .i64 ((j : Int)), .pointer (some (ag.add j)), .slice (some mg) 1 m0, .pointer (some (mg)), .int .i64 (mkI 1 ((j : Int) - (l.length : Int))), .int .i64 ((j : Int)), .slice A l.length c, .int .i64 ((l.length : Int)), .int .i64 (wrap64 ((j : Int) - (l.length : Int))), .int .i64 (mkI 1 ((j : Int) - (l.length : Int))), .bool false, .bool false, .bool false, .bool false] (Below w.heap.size w) cq3 cq3 rfl (below_drew HB.out) ⟨kp10, kp11, kp5, kp6, kp5, kp1, kp1, kp7, kp3, kp1, kp1, kp7, kp3, kp7, kp3, kp6, kp5, kp4, kp8, kp2, kp0, kp2, kp9, kp4, kp0, kp12, kp2, kp2, kp2, kp9, kp4, kp0, kp12, kp2, ?s34, kp4, kp8, kp2, kp0, ?s39, kp0, kp0, kp0, kp6, trivial⟩ ?_
     case s34 => exact fun a w' hG hd hf K hK => by have f0 := Rs.ld (hd 0 _ rfl rfl _ rfl) rfl; have z0 := pw_cell_below hG hm0; exact Rs.ok_val ((Rs.want_on rfl rfl (hd 1 _ rfl rfl _ rfl)).trans rfl) Rs.gs (hK w' hG)
     case s39 =>
      exact fun a w' hG hd hf K hK => by
       have e61 : a.tmps[61]? = some (.int .i64 (wrap64 ((j : Int) - (l.length : Int)))) := hd 0 _ rfl rfl _ rfl
       exact goes_ Tryz.func24 cq3 rfl #[.int .i64 1, .int .i64 (wrap64 ((j : Int) - (l.length : Int)))] ((Rs.want_on (t := 51) (b' := false) rfl rfl (hd 1 _ rfl rfl _ rfl)).trans rfl) rfl rfl (by simp [Act.eval, Array.getD_eq_getD_getElem?, e61]) (((HMK.out w').mono cq7))
     intro wz hz
     simp only [Rs.putL, Act.put, qS, qZ, qN]
     go_wp2_with fail
     go_meet
     exact ⟨rfl, ⟨hz⟩⟩
    case rest =>
     obtain ⟨rfl, HB2⟩ := hcut
     go_wp2
     go_roundw
     case rel => exact ⟨j + 1, by omega, by go_num, HB2⟩
     case measure => simp [intOf]; omega
  ·obtain rfl : j = l.length + 12 := by omega
   go_wp2
   go_ret
   exact ⟨rfl, HB.out⟩
end Go.Proofs.YtligpleningglaaGreat.Lk
