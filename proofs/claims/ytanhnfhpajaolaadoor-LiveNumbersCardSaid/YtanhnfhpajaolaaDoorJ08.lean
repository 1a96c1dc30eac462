/- Texts of this proof, joined in build order: Jn, Fxf48, Fxf78, Fxf79, Bk, Bt, Lg. -/
import Derived.Test.YtanhnfhpajaolaaDoorJ07
import Derived.Test.YtanhnfhpajaolaaDoorJ00
import Derived.Test.YtanhnfhpajaolaaDoorJ01
import Derived.Laws.BitsLemmas
/- live.set.join. -/
namespace Go.Proofs.YtanhnfhpajaolaaDoor.Fo
open Go Go.RowKit Go.Proofs.YtanhnfhpajaolaaDoorW.PrintWords Go.Proofs.YtanhnfhpajaolaaDoorW.PrintLast Go.Proofs.YtanhnfhpajaolaaDoorW.PrintMore Go.Proofs.YtanhnfhpajaolaaDoor.F Go.Proofs.YtanhnfhpajaolaaDoor.Cf Go.Proofs.YtanhnfhpajaolaaDoor.Sc
set_option linter.unusedVariables false
set_option linter.unusedSimpArgs false
def jw (a l s : Int) : Int := Go.bits .andNot .u64 (Go.bits .andNot .u64 a l) s
def jo (a l s : Int) : Int := Go.bits .or .u64 s (jw a l s)
def joinP (s a l : List Int) (k : Nat) : List Int := s.mapIdx fun i x => if i < k then jo (rd a i) (rd l i) x else x
def joinQ (s a l : List Int) (k : Nat) : Bool := (List.range k).any fun i => jw (rd a i) (rd l i) (rd s i) != 0
theorem joinP_len (s a l : List Int) (k : Nat) : (joinP s a l k).length = s.length := by simp [joinP]
theorem joinP_rd (s a l : List Int) (k : Nat) (h : k < s.length) : rd (joinP s a l k) k = rd s k := by
  rw [rd_get _ (by rw [joinP_len]; exact h), rd_get _ h]
  simp [joinP]
theorem joinP_set (s a l : List Int) (k : Nat) (h : k < s.length) : (joinP s a l k).set k (jo (rd a k) (rd l k) (rd s k)) = joinP s a l (k + 1) := by
  apply List.ext_getElem
  · simp [joinP]
  · intro i h1 h2
    have hi : i < s.length := by simpa [joinP] using h2
    rw [List.getElem_set]
    split
    · rename_i e
      subst e
      simp [joinP, rd_get _ h]
    · rename_i e
      have : (i < k + 1) ↔ i < k := by omega
      simp [joinP, this]
theorem joinQ_step (s a l : List Int) (k : Nat) : joinQ s a l (k + 1) = (joinQ s a l k || (jw (rd a k) (rd l k) (rd s k) != 0)) := by
  unfold joinQ
  rw [List.range_succ, List.any_append]
  simp
set_option maxHeartbeats 4000000 in
set_option maxRecDepth 100000 in
theorem join_calls (base : Nat) (P : Nat → Prop) (g c0 : Nat) (s : List Int) (A1 : Option Addr) (c1 : Nat) (a : List Int) (A2 : Option Addr) (c2 : Nat) (l : List Int) (w : World)
    (ho : Kd.R (Kd.int .u64) 47 w base P (.slice (some ⟨g, 0, none⟩) s.length c0) s) (ha : ∀ W, w.grownBy W (some g) → Kd.C (Kd.int .u64) W A1 a.length a) (hl : ∀ W, w.grownBy W (some g) → Kd.C (Kd.int .u64) W A2 l.length l) (hla : s.length ≤ a.length) (hll : s.length ≤ l.length) :
    Calls Tryd.prog 50 #[.slice (some ⟨g, 0, none⟩) s.length c0, .slice A1 a.length c1, .slice A2 l.length c2] w fun e w' => e = .returned (.bool (joinQ s a l s.length)) ∧ Kd.R (Kd.int .u64) 47 w' base P (.slice (some ⟨g, 0, none⟩) s.length c0) (joinP s a l s.length) ∧ w.grownBy w' (some g) := by
  have hsl : s.length ≤ 9223372036854775807 := (Kd.R_reads' ho).2.2.2.1
  have HA := Aside0.mk ha
  have HL := Aside0.mk hl
  have HO0 := Aside0.mk (show Kd.R (Kd.int .u64) 47 w base P (.slice (some ⟨g, 0, none⟩) s.length c0) (joinP s a l 0) by
    have : joinP s a l 0 = s := by
      apply List.ext_getElem
      · simp [joinP]
      · intro i h1 h2
        simp [joinP]
    rw [this]; exact ho)
  clear ha hl ho
  go_enter Tryd.func50, Tryd.ntmps50
  go_wp2
  go_loopw [7, 12] (fun v7 v12 wr => ∃ k : Nat, k ≤ s.length ∧ v12 = .int .i64 k ∧ v7 = .bool (joinQ s a l k) ∧ Aside0 (Kd.R (Kd.int .u64) 47 wr base P (.slice (some ⟨g, 0, none⟩) s.length c0) (joinP s a l k)) ∧ Aside0 (w.grownBy wr (some g))) (fun _ v12 _ => s.length - (intOf v12).toNat)
  case atStart => exact ⟨0, Nat.zero_le _, rfl, rfl, HO0, ⟨⟨rfl, rfl, rfl, Nat.le_refl _, fun _ _ _ => rfl⟩⟩⟩
  case round =>
    clear HO0
    obtain ⟨k, hk, rfl, rfl, HO, HGR⟩ := hrel
    by_cases hlt : k < s.length
    · obtain ⟨ad1, rfl, hx1⟩ := Kd.at_int (HA.out _ HGR.out) (k : Int) (by omega) (by omega)
      obtain ⟨ad2, rfl, hx2⟩ := Kd.at_int (HL.out _ HGR.out) (k : Int) (by omega) (by omega)
      simp only [Int.toNat_natCast] at hx1 hx2
      have hlen := joinP_len s a l k
      obtain ⟨hc, hf⟩ := Kd.R_celln 0 HO.out (k : Int) (by omega) (by omega)
      have hc2 : wr.cell? ⟨g, k, none⟩ = some (.int .u64 (rd s k)) := by
        rw [← joinP_rd s a l k hlt]
        exact hc
      have hf2 : wr.frozen? ⟨g, k, none⟩ = false := hf
      have HPUT := Aside0.mk (Kd.R_putg HO.out (k : Int) (jo (rd a k) (rd l k) (rd s k)))
      clear hc hf hlen
      go_wp2_with (fail)
      go_quiet (fail)
      go_wp2
      all_goals
        have hp := Kd.R_putg (Kd.R_drewN HO.out nq) (k : Int) (jo (rd a k) (rd l k) (rd s k))
        rw [Int.toNat_natCast, joinP_set s a l k hlt] at hp
        have hgr : w.grownBy (wr.drewN nq) (some g) := ⟨HGR.out.os, HGR.out.tape, HGR.out.output, HGR.out.size, HGR.out.block⟩
        have HP1 := Aside0.mk hp.1
        have HP2 := Aside0.mk (hgr.trans hp.2)
        clear hp hgr
        go_roundw
        case rel => exact ⟨k + 1, by omega, by go_num, by rw [joinQ_step]; unfold jw; simp_all, HP1, HP2⟩
        case measure => simp [intOf]; omega
    · obtain rfl : k = s.length := by omega
      go_wp2
      go_ret
      exact ⟨rfl, HO.out, HGR.out⟩
end Go.Proofs.YtanhnfhpajaolaaDoor.Fo
-- printed by px2.py, a program of this session, by way of the kit's print; Lean checks it
namespace Go.Proofs.YtanhnfhpajaolaaDoor.F
open Go.RowKit Go.Proofs.YtanhnfhpajaolaaDoorW.PrintWords Go.Proofs.YtanhnfhpajaolaaDoorW.PrintLast Go.Proofs.YtanhnfhpajaolaaDoorW.PrintMore
attribute [local go_sem] max2_int min2_int max_two min_two max_three min_three max_four min_four   -- for this text's walks alone
set_option linter.unusedVariables false
set_option linter.unusedSimpArgs false

/-! ### live_set_put: function 48 -/
def live_set_put.f (l0 : List Int) (a1 : Int) : Option (List Int) := if 0 ≤ (wrap64 (Int.tdiv a1 64)) then (if (wrap64 (Int.tdiv a1 64)) < (l0.length : Int) then (if 0 ≤ (Int.tmod a1 64) then (some (l0.set ((wrap64 (Int.tdiv a1 64)) : Int).toNat (Go.bits .or .u64 (rd l0 (wrap64 (Int.tdiv a1 64))) (shl .u64 1 (Int.tmod a1 64))))) else (none)) else (none)) else (none)
def live_set_put.T0 : Bool × List (List Nat × List Nat) := (true, [([], []), ([], []), ([1], [1]), ([0, 2], [0, 2]), ([3], [3]), ([], []), ([5], [5]), ([6], [6]), ([4, 7], [4, 7]), ([0, 2, 0, 1, 2, 3, 4, 5, 6, 7, 8], [0, 2]), ([9, 8, 0, 1, 2, 3, 4, 5, 6, 7, 8], [8, 9])])
def live_set_put.B0 : List Nat := [0, 0, 2, 7, 15, 0, 32, 96, 255, 511, 1023]
theorem live_set_put.tab0 : rtab .any (opsOf Tryd.f48 0) = live_set_put.T0 := by kernel_rfl
theorem live_set_put.bits0 : waitsOk live_set_put.T0.2 live_set_put.B0 = true := by kernel_rfl
set_option maxHeartbeats 8000000 in
set_option maxRecDepth 100000 in
theorem live_set_put.calls (P0_ : Nat → Prop) (u9000_ : Value) (l0 : List Int) (a1 : Int) (r : List Int) (w0 w : World) (hB : Below w0.heap.size w0 w) (ho0 : Kd.R (Kd.int .u64) 47 w w0.heap.size P0_ u9000_ l0) (h : live_set_put.f l0 a1 = some r) :
    Calls Tryd.prog 48 #[u9000_, .int .i64 a1] w fun e w' => e = .returned (.tuple #[]) ∧ Kd.R (Kd.int .u64) 47 w' w0.heap.size (fun k_ => (P0_ k_ ∨ w.heap.size ≤ k_)) u9000_ r ∧ Below w0.heap.size w0 w' ∧ Kept w w' (fun k_ => P0_ k_) := by
 have HO0 := Aside0.mk (show Kd.R (Kd.int .u64) 47 w w0.heap.size (fun k_ => (P0_ k_ ∨ w.heap.size ≤ k_)) u9000_ l0 from Kd.R_mono ho0 (fun k_ hk => (.inl hk)))
 have HK := Aside0.mk (Kept.refl w (fun k_ => P0_ k_))
 have HW0 := Aside0.mk hB.size
 have HB := Aside0.mk hB
 clear hB
 have H : (if 0 ≤ (wrap64 (Int.tdiv a1 64)) then (if (wrap64 (Int.tdiv a1 64)) < (l0.length : Int) then (if 0 ≤ (Int.tmod a1 64) then (some (l0.set ((wrap64 (Int.tdiv a1 64)) : Int).toNat (Go.bits .or .u64 (rd l0 (wrap64 (Int.tdiv a1 64))) (shl .u64 1 (Int.tmod a1 64))))) else (none)) else (none)) else (none)) = some r := h
 clear h
 obtain ⟨ji3, hji3⟩ : ∃ j_ : Int, (wrap64 (Int.tdiv a1 64)) = j_ := ⟨_, rfl⟩
 replace H : (if 0 ≤ (ji3) then (if (ji3) < (l0.length : Int) then (if 0 ≤ (Int.tmod a1 64) then (some (l0.set ((ji3) : Int).toNat (Go.bits .or .u64 (rd l0 (ji3)) (shl .u64 1 (Int.tmod a1 64))))) else (none)) else (none)) else (none)) = some r := by first | (rw [hji3] at H; exact H) | (simp only [hji3] at H ⊢; exact H)
 have hji3w : (IntKind.i64.wrap (Int.tdiv a1 64)) = ji3 := (i64_w _).trans hji3
 by_cases c4 : 0 ≤ (ji3)
 ·
  rw [if_pos c4] at H
  have c4b0 : decide (0 ≤ (ji3)) = true := decide_eq_true c4
  clear c4
  by_cases c5 : (ji3) < (l0.length : Int)
  ·
   rw [if_pos c5] at H
   have c5b0 : decide ((ji3) < (l0.length : Int)) = true := decide_eq_true c5
   clear c5
   obtain ⟨ji6, hji6⟩ : ∃ j_ : Int, (Int.tmod a1 64) = j_ := ⟨_, rfl⟩
   replace H : (if 0 ≤ (ji6) then (some (l0.set ((ji3) : Int).toNat (Go.bits .or .u64 (rd l0 (ji3)) (shl .u64 1 (ji6))))) else (none)) = some r := by first | (rw [hji6] at H; exact H) | (simp only [hji6] at H ⊢; exact H)
   by_cases c7 : 0 ≤ (ji6)
   ·
    rw [if_pos c7] at H
    have c7b0 := eq_true c7
    have c7b1 : decide (0 ≤ (ji6)) = true := decide_eq_true c7
    clear c7
    obtain ⟨ji8, hji8⟩ : ∃ j_ : Int, (shl .u64 1 (ji6)) = j_ := ⟨_, rfl⟩
    replace H : (some (l0.set ((ji3) : Int).toNat (Go.bits .or .u64 (rd l0 (ji3)) (ji8)))) = some r := by first | (rw [hji8] at H; exact H) | (simp only [hji8] at H ⊢; exact H)
    have hji8_ : (IntKind.u64.wrap (1 * 2 ^ min (ji6).toNat 64)) = ji8 := hji8
    have hji8z : (ji6) ≤ 64 → (IntKind.u64.wrap (1 * 2 ^ (ji6).toNat)) = ji8 := shl_small hji8
    have hji8u : (IntKind.u64.wrap (2 ^ min (ji6).toNat 64)) = ji8 := by have h_ := hji8_; rw [Int.one_mul] at h_; exact h_
    have hji8v : (ji6) ≤ 64 → (IntKind.u64.wrap (2 ^ (ji6).toNat)) = ji8 := fun hle_ => by have h_ := hji8z hle_; rw [Int.one_mul] at h_; exact h_
    obtain ⟨y216, hy216⟩ : ∃ y_ : List Int, y_ = (l0.set ((ji3) : Int).toNat (Go.bits .or .u64 (rd l0 (ji3)) (ji8))) := ⟨_, rfl⟩
    replace H : (some y216) = some r := by first | (rw [hy216]; with_reducible exact H) | (have H2_ := (Option.bind_some _ _).symm.trans H; rw [hy216]; with_reducible exact H2_) | (have H2_ := (Option.bind_some _ _).symm.trans H; with_reducible exact H2_) | with_reducible exact H | (rw [hy216]; exact H) | exact H
    have Ny216 := Aside0.mk hy216
    clear hy216
    obtain rfl := Option.some.inj H
    go_enter Tryd.func48, Tryd.ntmps48
    try go_wp2
    have n0_ := Aside0.mk (Kd.R_drew HO0.out)
    have n1_ := Aside0.mk (Kept.drew HK.out)
    have n2_ := Aside0.mk (below_drew1 HB.out)
    clear HO0
    clear HK
    clear HB
    have HO0 := n0_
    have HK := n1_
    have HB := n2_
    clear n0_ n1_ n2_
    obtain ⟨Ao11, co11, eo11⟩ := Kd.R_slice HO0.out
    (first | subst eo11 | (injection eo11 with f1_ f2_ f3_; have f4_ := f1_.symm; have f5_ := f3_.symm; clear f1_ f2_ f3_; subst f4_; subst f5_))
    have p215 : 0 ≤ ((ji3) : Int) := of_decide_eq_true (by first | (with_reducible assumption) | assumption)
    have q215 : (ji3) < (l0.length : Int) := of_decide_eq_true (by first | (with_reducible assumption) | assumption)
    obtain ⟨ad215, e215, hx215_0⟩ := Kd.at_int (Kd.R_reads' HO0.out).2.2 (ji3) p215 q215
    cases e215
    replace p215 := eq_true p215
    replace q215 := eq_true q215
    have p9 : 0 ≤ ((ji3) : Int) := of_decide_eq_true (by first | (with_reducible assumption) | assumption)
    have q9 : ((ji3) : Int) < ((l0.length : Int) : Int) := of_decide_eq_true (by first | (with_reducible assumption) | assumption)
    obtain ⟨go9, co9, eo9, gb9, gl9, cl9, HG9⟩ := Kd.R_form HO0.out (by omega)
    (first | cases eo9 | (injection eo9 with ea_ en_ ec_; (first | subst ea_ | (injection ea_ with ea_; subst ea_)); subst ec_; clear en_))
    have GB9 := Aside0.mk gb9
    have GG9 := Aside0.mk HG9
    clear gb9 gl9 HG9
    have HMgo9 := Aside0.mk (show (P0_ go9 ∨ w.heap.size ≤ go9) from (HO0.out.1 _ rfl))
    (first | simp only [add_plain] at hx215_0 | skip)
    obtain ⟨hx9_0, hf9_0⟩ := Kd.R_celln 0 HO0.out ((ji3) : Int) p9 q9
    replace p9 := eq_true p9
    replace q9 := eq_true q9
    have HP12 := Kd.R_putn HO0.out ((ji3) : Int) (Go.bits .or .u64 (rd l0 (ji3)) (ji8))
    rw [← Ny216.out] at HP12
    have HQ12 := Aside0.mk HP12
    clear HP12
    refine start_ (n := 11) (S := fun w' => w'.cell? ⟨go9, ((ji3)).toNat, none⟩ = some (.int .u64 (rd l0 (ji3)))) (ds := [10]) #[false, false, false, false, false, false, false, false, false, false, false] (by kernel_rfl) rfl rfl (hx215_0) (fun hHeld => ?_); refine with_tabW live_set_put.tab0 live_set_put.bits0 (fun HT_ HW_ => ?_)
    generalize w.drew = w10 at HO0 HK HB GG9 HQ12 hf9_0 hx215_0 hx9_0 hHeld ⊢
    refine pure_ (i := 0) (N := some 4) (v := ?_) (a' := ?_) #[true, false, false, false, false, false, false, false, false, false, false] rfl rfl (any_of HT_.out (by kernel_rfl)) (fun _ _ _ h => h) (Or.inl ⟨by rfl, ?_⟩) ?_ ?_
    rotate_left
    ·
     intro w'
     go_simp
     with_reducible rfl
    rotate_left
    ·
     simp only [Act.put, List.setIfInBounds_toArray, List.set_cons_zero, List.set_cons_succ, i64_w, i32_w]
     rfl
    refine pure_ (i := 1) (N := some 5) (v := ?_) (a' := ?_) #[true, true, false, false, false, false, false, false, false, false, false] rfl rfl (any_of HT_.out (by kernel_rfl)) (fun _ _ _ h => h) (Or.inl ⟨by rfl, ?_⟩) ?_ ?_
    rotate_left
    ·
     intro w'
     go_simp
     with_reducible rfl
    rotate_left
    ·
     simp only [Act.put, List.setIfInBounds_toArray, List.set_cons_zero, List.set_cons_succ, i64_w, i32_w]
     rfl
    refine pure_ (i := 2) (N := some 6) (v := ?_) (a' := ?_) #[true, true, true, false, false, false, false, false, false, false, false] rfl rfl (any_of HT_.out (by kernel_rfl)) (fun _ _ _ h => h) (Or.inl ⟨by rfl, ?_⟩) ?_ ?_
    rotate_left
    ·
     intro w'
     go_simp
     with_reducible rfl
    rotate_left
    ·
     simp only [Act.put, List.setIfInBounds_toArray, List.set_cons_zero, List.set_cons_succ, i64_w, i32_w]
     rfl
    refine pure_ (i := 3) (N := some 7) (v := ?_) (a' := ?_) #[true, true, true, true, false, false, false, false, false, false, false] rfl rfl (any_of HT_.out (by kernel_rfl)) (fun _ _ _ h => h) (Or.inl ⟨by rfl, ?_⟩) ?_ ?_
    rotate_left
    ·
     intro w'
     go_simp
     with_reducible rfl
    rotate_left
    ·
     simp only [Act.put, List.setIfInBounds_toArray, List.set_cons_zero, List.set_cons_succ, i64_w, i32_w]
     rfl
    refine pure_ (i := 5) (N := some 9) (v := ?_) (a' := ?_) #[true, true, true, true, false, true, false, false, false, false, false] rfl rfl (any_of HT_.out (by kernel_rfl)) (fun _ _ _ h => h) (Or.inl ⟨by rfl, ?_⟩) ?_ ?_
    rotate_left
    ·
     intro w'
     go_simp
     with_reducible rfl
    rotate_left
    ·
     simp only [Act.put, List.setIfInBounds_toArray, List.set_cons_zero, List.set_cons_succ, i64_w, i32_w]
     rfl
    refine pure_ (i := 6) (N := some 10) (v := ?_) (a' := ?_) #[true, true, true, true, false, true, true, false, false, false, false] rfl rfl (any_of HT_.out (by kernel_rfl)) (fun _ _ _ h => h) (Or.inl ⟨by rfl, ?_⟩) ?_ ?_
    rotate_left
    ·
     intro w'
     go_simp
     with_reducible rfl
    rotate_left
    ·
     simp only [Act.put, List.setIfInBounds_toArray, List.set_cons_zero, List.set_cons_succ, i64_w, i32_w]
     rfl
    refine pure_ (i := 7) (N := some 11) (v := ?_) (a' := ?_) #[true, true, true, true, false, true, true, true, false, false, false] rfl rfl (any_of HT_.out (by kernel_rfl)) (fun _ _ _ h => h) (Or.inl ⟨by rfl, ?_⟩) ?_ ?_
    rotate_left
    ·
     intro w'
     go_simp
     with_reducible rfl
    rotate_left
    ·
     simp only [Act.put, List.setIfInBounds_toArray, List.set_cons_zero, List.set_cons_succ, i64_w, i32_w]
     rfl
    refine take_ (i := 4) (N := some 8) (v := ?_) (a' := ?_) #[true, true, true, true, true, true, true, true, false, false, false] rfl rfl (take_ofW HT_.out HW_.out (by kernel_rfl)) (fun _ _ _ h => h) (Or.inl ⟨by rfl, ?_⟩) hHeld ?_ ?_
    rotate_left
    ·
     intro w' s0
     go_simp
     with_reducible rfl
    rotate_left
    ·
     simp only [Act.put, List.setIfInBounds_toArray, List.set_cons_zero, List.set_cons_succ, i64_w, i32_w]
     rfl
    refine pure_ (i := 8) (N := some 12) (v := ?_) (a' := ?_) #[true, true, true, true, true, true, true, true, true, false, false] rfl rfl (any_of HT_.out (by kernel_rfl)) (fun _ _ _ h => h) (Or.inl ⟨by rfl, ?_⟩) ?_ ?_
    rotate_left
    ·
     intro w'
     go_simp
     with_reducible rfl
    rotate_left
    ·
     simp only [Act.put, List.setIfInBounds_toArray, List.set_cons_zero, List.set_cons_succ, i64_w, i32_w]
     rfl
    refine pure_ (i := 9) (N := some 13) (v := ?_) (a' := ?_) #[true, true, true, true, true, true, true, true, true, true, false] rfl rfl (any_of HT_.out (by kernel_rfl)) (fun _ _ _ h => h) (Or.inl ⟨by rfl, ?_⟩) ?_ ?_
    rotate_left
    ·
     intro w'
     go_simp
     with_reducible rfl
    rotate_left
    ·
     simp only [Act.put, List.setIfInBounds_toArray, List.set_cons_zero, List.set_cons_succ, i64_w, i32_w]
     rfl
    refine last_ (i := 10) (N := none) #[true, true, true, true, true, true, true, true, true, true, true] rfl rfl (one_of HT_.out (by kernel_rfl)) (by decide) (fun K hK => ?_)
    refine skip_ (w1 := ?_) (by rfl) rfl ?_ ?_
    rotate_left
    ·
     go_simp
     rfl
    refine hK.out _ _ ?_
    clear hK K
    refine done_ (done_of HT_.out (by kernel_rfl)) ?_
    try go_wp2
    first | go_end0 | ((try simp only [Exit.inBlock, Exit.then]); refine bodyPost_ret (results_none rfl _ _ _) rfl ?_)
    exact ⟨by first | rfl | (simp <;> rfl) | (simp only [← hji3, ← hji6, ← hji8]; first | rfl | (simp <;> rfl)) | (simp [*] <;> rfl), by (with_reducible repeat (first | apply Kd.R_alloc | apply Kd.R_drewN | apply Kd.R_drew)); exact HQ12.out, by repeat (first | (with_reducible first | exact HB.out | apply below_alloc | apply pw_below_drewN | apply below_drew1 | refine below_set ?_ GB9.out) | exact HB.out), by repeat (first | (with_reducible first | exact HK.out | apply Kept.alloc | apply Kept.drewN | apply Kept.drew | refine Kept.setCell ?_ HMgo9.out _) | exact HK.out)⟩
   ·
    rw [if_neg c7] at H
    exact absurd H (by simp)
  ·
   rw [if_neg c5] at H
   exact absurd H (by simp)
 ·
  rw [if_neg c4] at H
  exact absurd H (by simp)

end Go.Proofs.YtanhnfhpajaolaaDoor.F
-- printed by px2.py, a program of this session, by way of the kit's print; Lean checks it
namespace Go.Proofs.YtanhnfhpajaolaaDoor.F
open Go.RowKit Go.Proofs.YtanhnfhpajaolaaDoorW.PrintWords Go.Proofs.YtanhnfhpajaolaaDoorW.PrintLast Go.Proofs.YtanhnfhpajaolaaDoorW.PrintMore
attribute [local go_sem] max2_int min2_int max_two min_two max_three min_three max_four min_four   -- for this text's walks alone
set_option linter.unusedVariables false
set_option linter.unusedSimpArgs false

/-! ### live_set_has: function 78 -/
def live_set_has.f (l0 : List Int) (a1 : Int) : Option (Bool) := if 0 ≤ (wrap64 (Int.tdiv a1 64)) then (if (wrap64 (Int.tdiv a1 64)) < (l0.length : Int) then (if 0 ≤ (Int.tmod a1 64) then (some ((Go.bits .and .u64 (shr .u64 (rd l0 (wrap64 (Int.tdiv a1 64))) (Int.tmod a1 64)) 1) == 1)) else (none)) else (none)) else (none)
set_option maxHeartbeats 8000000 in
set_option maxRecDepth 100000 in
theorem live_set_has.calls (A0 : Option Addr) (c0 : Nat) (l0 : List Int) (a1 : Int) (r : Bool) (w : World) (hr0 : Kd.C (Kd.int .u64) w A0 l0.length l0) (hc0 : l0.length ≤ c0) (h : live_set_has.f l0 a1 = some r) :
    Calls Tryd.prog 78 #[.slice A0 l0.length c0, .int .i64 a1] w fun e w' => e = .returned (.bool r) ∧ Drawn0 w w' := by
 have HR0 := Aside0.mk hr0
 have HC0 := Aside0.mk hc0
 clear hr0 hc0
 have H : (if 0 ≤ (wrap64 (Int.tdiv a1 64)) then (if (wrap64 (Int.tdiv a1 64)) < (l0.length : Int) then (if 0 ≤ (Int.tmod a1 64) then (some ((Go.bits .and .u64 (shr .u64 (rd l0 (wrap64 (Int.tdiv a1 64))) (Int.tmod a1 64)) 1) == 1)) else (none)) else (none)) else (none)) = some r := h
 clear h
 obtain ⟨ji3, hji3⟩ : ∃ j_ : Int, (wrap64 (Int.tdiv a1 64)) = j_ := ⟨_, rfl⟩
 replace H : (if 0 ≤ (ji3) then (if (ji3) < (l0.length : Int) then (if 0 ≤ (Int.tmod a1 64) then (some ((Go.bits .and .u64 (shr .u64 (rd l0 (ji3)) (Int.tmod a1 64)) 1) == 1)) else (none)) else (none)) else (none)) = some r := by first | (rw [hji3] at H; exact H) | (simp only [hji3] at H ⊢; exact H)
 have hji3w : (IntKind.i64.wrap (Int.tdiv a1 64)) = ji3 := (i64_w _).trans hji3
 by_cases c4 : 0 ≤ (ji3)
 ·
  rw [if_pos c4] at H
  have c4b0 : decide (0 ≤ (ji3)) = true := decide_eq_true c4
  clear c4
  by_cases c5 : (ji3) < (l0.length : Int)
  ·
   rw [if_pos c5] at H
   have c5b0 : decide ((ji3) < (l0.length : Int)) = true := decide_eq_true c5
   clear c5
   obtain ⟨ji6, hji6⟩ : ∃ j_ : Int, (Int.tmod a1 64) = j_ := ⟨_, rfl⟩
   replace H : (if 0 ≤ (ji6) then (some ((Go.bits .and .u64 (shr .u64 (rd l0 (ji3)) (ji6)) 1) == 1)) else (none)) = some r := by first | (rw [hji6] at H; exact H) | (simp only [hji6] at H ⊢; exact H)
   by_cases c7 : 0 ≤ (ji6)
   ·
    rw [if_pos c7] at H
    have c7b0 := eq_true c7
    have c7b1 : decide (0 ≤ (ji6)) = true := decide_eq_true c7
    clear c7
    obtain ⟨ji8, hji8⟩ : ∃ j_ : Int, (shr .u64 (rd l0 (ji3)) (ji6)) = j_ := ⟨_, rfl⟩
    replace H : (some ((Go.bits .and .u64 (ji8) 1) == 1)) = some r := by first | (rw [hji8] at H; exact H) | (simp only [hji8] at H ⊢; exact H)
    have hji8_ : ((rd l0 (ji3)) / 2 ^ min (ji6).toNat 64) = ji8 := hji8
    have hji8z : (ji6) ≤ 64 → ((rd l0 (ji3)) / 2 ^ (ji6).toNat) = ji8 := shr_small hji8
    obtain rfl := Option.some.inj H
    have p217 : 0 ≤ ((ji3) : Int) := of_decide_eq_true (by first | (with_reducible assumption) | assumption)
    have q217 : (ji3) < (l0.length : Int) := of_decide_eq_true (by first | (with_reducible assumption) | assumption)
    obtain ⟨ad217, e217, hx217_0⟩ := Kd.at_int HR0.out (ji3) p217 q217
    cases e217
    replace p217 := eq_true p217
    replace q217 := eq_true q217
    go_enter Tryd.func78, Tryd.ntmps78
    go_wp2
    go_ret
    exact ⟨by first | rfl | (simp; done) | (simp only [← hji3, ← hji6, ← hji8] <;> (first | rfl | simp)) | (simp [*]; done), by repeat (first | exact Drawn0.refl _ | apply Drawn0.step)⟩
   ·
    rw [if_neg c7] at H
    exact absurd H (by simp)
  ·
   rw [if_neg c5] at H
   exact absurd H (by simp)
 ·
  rw [if_neg c4] at H
  exact absurd H (by simp)

end Go.Proofs.YtanhnfhpajaolaaDoor.F
-- printed by px2.py, a program of this session, by way of the kit's print; Lean checks it
namespace Go.Proofs.YtanhnfhpajaolaaDoor.F
open Go.RowKit Go.Proofs.YtanhnfhpajaolaaDoorW.PrintWords Go.Proofs.YtanhnfhpajaolaaDoorW.PrintLast Go.Proofs.YtanhnfhpajaolaaDoorW.PrintMore
attribute [local go_sem] max2_int min2_int max_two min_two max_three min_three max_four min_four   -- for this text's walks alone
set_option linter.unusedVariables false
set_option linter.unusedSimpArgs false

/-! ### live_sets: function 79 -/
def live_sets.f (a0_0 : Int) (a0_1 : Int) (a0_2 : Int) (l0_3 : List Int) (a0_4 : Int) (a0_5 : Int) : Option (Bool) := if a0_0 = 7 then (some false) else (if a0_0 = 8 then (some false) else (some (a0_0 != 10)))
set_option maxHeartbeats 8000000 in
set_option maxRecDepth 100000 in
theorem live_sets.calls (a0_0 : Int) (a0_1 : Int) (a0_2 : Int) (A0_3 : Option Addr) (c0_3 : Nat) (l0_3 : List Int) (a0_4 : Int) (a0_5 : Int) (r : Bool) (w : World) (hr0_3 : Kd.C (Kd.int .i64) w A0_3 l0_3.length l0_3) (hc0_3 : l0_3.length ≤ c0_3) (h : live_sets.f a0_0 a0_1 a0_2 l0_3 a0_4 a0_5 = some r) :
    Calls Tryd.prog 79 #[.agg #[.int .u8 a0_0, .int .u8 a0_1, .int .i64 a0_2, .slice A0_3 l0_3.length c0_3, .int .u64 a0_4, .int .i64 a0_5]] w fun e w' => e = .returned (.bool r) ∧ Below w.heap.size w w' := by
 have hu49 := Tryd.underlying49
 have HR0_3 := Aside0.mk hr0_3
 have HC0_3 := Aside0.mk hc0_3
 clear hr0_3 hc0_3
 have HB := Aside0.mk (Below.refl w.heap.size w)
 have H : (if a0_0 = 7 then (some false) else (if a0_0 = 8 then (some false) else (some (a0_0 != 10)))) = some r := h
 clear h
 by_cases c2 : a0_0 = 7
 ·
  rw [if_pos c2] at H
  have c2b0 : (a0_0 == 7) = true := beq_iff_eq.mpr c2
  have c2b1 : (a0_0 != 7) = false := bne_eq_false_iff_eq.mpr c2
  clear c2
  obtain rfl := Option.some.inj H
  go_enter Tryd.func79, Tryd.ntmps79
  go_wp2_with (first | ((with_reducible refine gate_dst (N := 1) rfl ?_); refine box_event ?hg (N := 1) ?hd (cs := #[.int .u8 a0_0, .int .u8 a0_1, .int .i64 a0_2, .slice A0_3 l0_3.length c0_3, .int .u64 a0_4, .int .i64 a0_5]) (t := 49) ?hr ?_; (case hd => rfl); (case hg => rfl); (case hr => first | (go_simp; done) | (go_simp; rfl)); intro gb218 hg w3 hbox hb; have n0_ := Aside0.mk (below_step (by repeat (first | (with_reducible first | exact HB.out | apply below_alloc | apply pw_below_drewN | apply below_drew1) | exact HB.out)) hb); have n1_ := Aside0.mk (hbox); have n2_ := Aside0.mk ((by rw [hg]; exact (below_size (by repeat (first | (with_reducible first | exact HB.out | apply below_alloc | apply pw_below_drewN | apply below_drew1) | exact HB.out))) : w.heap.size ≤ gb218)); have n3_ := Aside0.mk ((by rw [hg]; exact (below_size (by repeat (first | (with_reducible first | exact HB.out | apply below_alloc | apply pw_below_drewN | apply below_drew1) | exact HB.out))) : w.heap.size ≤ gb218)); clear HB; have HB := n0_; have BK218 := n1_; have GW218 := n2_; have GE218 := n3_; clear n0_ n1_ n2_ n3_; clear hb hbox hg; have hcz4_0 : w3.cell? ⟨gb218, 0, none⟩ = some (.int .u8 a0_0) := (blk_cell BK218.out 0).trans rfl; have hcz4_1 : w3.cell? ⟨gb218, 1, none⟩ = some (.int .u8 a0_1) := (blk_cell BK218.out 1).trans rfl; have hcz4_2 : w3.cell? ⟨gb218, 2, none⟩ = some (.int .i64 a0_2) := (blk_cell BK218.out 2).trans rfl; have hcz4_3 : w3.cell? ⟨gb218, 3, none⟩ = some (.slice A0_3 l0_3.length c0_3) := (blk_cell BK218.out 3).trans rfl; have hcz4_4 : w3.cell? ⟨gb218, 4, none⟩ = some (.int .u64 a0_4) := (blk_cell BK218.out 4).trans rfl; have hcz4_5 : w3.cell? ⟨gb218, 5, none⟩ = some (.int .i64 a0_5) := (blk_cell BK218.out 5).trans rfl; have hfz4_0 := blk_frozen BK218.out 0; have hfz4_1 := blk_frozen BK218.out 1; have hfz4_2 := blk_frozen BK218.out 2; have hfz4_3 := blk_frozen BK218.out 3; have hfz4_4 := blk_frozen BK218.out 4; have hfz4_5 := blk_frozen BK218.out 5))
  go_ret
  exact ⟨by first | rfl | (simp <;> rfl) | (simp [*] <;> rfl), by repeat (first | (with_reducible first | exact HB.out | apply below_alloc | apply pw_below_drewN | apply below_drew1 | refine below_set ?_ GE218.out) | exact HB.out)⟩
 ·
  rw [if_neg c2] at H
  have c2b0 : (a0_0 == 7) = false := beq_eq_false_iff_ne.mpr c2
  have c2b1 : (a0_0 != 7) = true := bne_iff_ne.mpr c2
  by_cases c5 : a0_0 = 8
  ·
   rw [if_pos c5] at H
   have c5b0 : (a0_0 == 8) = true := beq_iff_eq.mpr c5
   have c5b1 : (a0_0 != 8) = false := bne_eq_false_iff_eq.mpr c5
   clear c5
   obtain rfl := Option.some.inj H
   go_enter Tryd.func79, Tryd.ntmps79
   go_wp2_with (first | ((with_reducible refine gate_dst (N := 1) rfl ?_); refine box_event ?hg (N := 1) ?hd (cs := #[.int .u8 a0_0, .int .u8 a0_1, .int .i64 a0_2, .slice A0_3 l0_3.length c0_3, .int .u64 a0_4, .int .i64 a0_5]) (t := 49) ?hr ?_; (case hd => rfl); (case hg => rfl); (case hr => first | (go_simp; done) | (go_simp; rfl)); intro gb218 hg w6 hbox hb; have n0_ := Aside0.mk (below_step (by repeat (first | (with_reducible first | exact HB.out | apply below_alloc | apply pw_below_drewN | apply below_drew1) | exact HB.out)) hb); have n1_ := Aside0.mk (hbox); have n2_ := Aside0.mk ((by rw [hg]; exact (below_size (by repeat (first | (with_reducible first | exact HB.out | apply below_alloc | apply pw_below_drewN | apply below_drew1) | exact HB.out))) : w.heap.size ≤ gb218)); have n3_ := Aside0.mk ((by rw [hg]; exact (below_size (by repeat (first | (with_reducible first | exact HB.out | apply below_alloc | apply pw_below_drewN | apply below_drew1) | exact HB.out))) : w.heap.size ≤ gb218)); clear HB; have HB := n0_; have BK218 := n1_; have GW218 := n2_; have GE218 := n3_; clear n0_ n1_ n2_ n3_; clear hb hbox hg; have hcz7_0 : w6.cell? ⟨gb218, 0, none⟩ = some (.int .u8 a0_0) := (blk_cell BK218.out 0).trans rfl; have hcz7_1 : w6.cell? ⟨gb218, 1, none⟩ = some (.int .u8 a0_1) := (blk_cell BK218.out 1).trans rfl; have hcz7_2 : w6.cell? ⟨gb218, 2, none⟩ = some (.int .i64 a0_2) := (blk_cell BK218.out 2).trans rfl; have hcz7_3 : w6.cell? ⟨gb218, 3, none⟩ = some (.slice A0_3 l0_3.length c0_3) := (blk_cell BK218.out 3).trans rfl; have hcz7_4 : w6.cell? ⟨gb218, 4, none⟩ = some (.int .u64 a0_4) := (blk_cell BK218.out 4).trans rfl; have hcz7_5 : w6.cell? ⟨gb218, 5, none⟩ = some (.int .i64 a0_5) := (blk_cell BK218.out 5).trans rfl; have hfz7_0 := blk_frozen BK218.out 0; have hfz7_1 := blk_frozen BK218.out 1; have hfz7_2 := blk_frozen BK218.out 2; have hfz7_3 := blk_frozen BK218.out 3; have hfz7_4 := blk_frozen BK218.out 4; have hfz7_5 := blk_frozen BK218.out 5))
   go_ret
   exact ⟨by first | rfl | (simp <;> rfl) | (simp [*] <;> rfl), by repeat (first | (with_reducible first | exact HB.out | apply below_alloc | apply pw_below_drewN | apply below_drew1 | refine below_set ?_ GE218.out) | exact HB.out)⟩
  ·
   rw [if_neg c5] at H
   have c5b0 : (a0_0 == 8) = false := beq_eq_false_iff_ne.mpr c5
   have c5b1 : (a0_0 != 8) = true := bne_iff_ne.mpr c5
   obtain rfl := Option.some.inj H
   go_enter Tryd.func79, Tryd.ntmps79
   go_wp2_with (first | ((with_reducible refine gate_dst (N := 1) rfl ?_); refine box_event ?hg (N := 1) ?hd (cs := #[.int .u8 a0_0, .int .u8 a0_1, .int .i64 a0_2, .slice A0_3 l0_3.length c0_3, .int .u64 a0_4, .int .i64 a0_5]) (t := 49) ?hr ?_; (case hd => rfl); (case hg => rfl); (case hr => first | (go_simp; done) | (go_simp; rfl)); intro gb218 hg w8 hbox hb; have n0_ := Aside0.mk (below_step (by repeat (first | (with_reducible first | exact HB.out | apply below_alloc | apply pw_below_drewN | apply below_drew1) | exact HB.out)) hb); have n1_ := Aside0.mk (hbox); have n2_ := Aside0.mk ((by rw [hg]; exact (below_size (by repeat (first | (with_reducible first | exact HB.out | apply below_alloc | apply pw_below_drewN | apply below_drew1) | exact HB.out))) : w.heap.size ≤ gb218)); have n3_ := Aside0.mk ((by rw [hg]; exact (below_size (by repeat (first | (with_reducible first | exact HB.out | apply below_alloc | apply pw_below_drewN | apply below_drew1) | exact HB.out))) : w.heap.size ≤ gb218)); clear HB; have HB := n0_; have BK218 := n1_; have GW218 := n2_; have GE218 := n3_; clear n0_ n1_ n2_ n3_; clear hb hbox hg; have hcz9_0 : w8.cell? ⟨gb218, 0, none⟩ = some (.int .u8 a0_0) := (blk_cell BK218.out 0).trans rfl; have hcz9_1 : w8.cell? ⟨gb218, 1, none⟩ = some (.int .u8 a0_1) := (blk_cell BK218.out 1).trans rfl; have hcz9_2 : w8.cell? ⟨gb218, 2, none⟩ = some (.int .i64 a0_2) := (blk_cell BK218.out 2).trans rfl; have hcz9_3 : w8.cell? ⟨gb218, 3, none⟩ = some (.slice A0_3 l0_3.length c0_3) := (blk_cell BK218.out 3).trans rfl; have hcz9_4 : w8.cell? ⟨gb218, 4, none⟩ = some (.int .u64 a0_4) := (blk_cell BK218.out 4).trans rfl; have hcz9_5 : w8.cell? ⟨gb218, 5, none⟩ = some (.int .i64 a0_5) := (blk_cell BK218.out 5).trans rfl; have hfz9_0 := blk_frozen BK218.out 0; have hfz9_1 := blk_frozen BK218.out 1; have hfz9_2 := blk_frozen BK218.out 2; have hfz9_3 := blk_frozen BK218.out 3; have hfz9_4 := blk_frozen BK218.out 4; have hfz9_5 := blk_frozen BK218.out 5))
   go_ret
   exact ⟨by first | rfl | (simp <;> rfl) | (simp [*] <;> rfl), by repeat (first | (with_reducible first | exact HB.out | apply below_alloc | apply pw_below_drewN | apply below_drew1 | refine below_set ?_ GE218.out) | exact HB.out)⟩

end Go.Proofs.YtanhnfhpajaolaaDoor.F
/- live.block: sets asks rows of words. -/
namespace Go.Proofs.YtanhnfhpajaolaaDoor.Fo
open Go Go.RowKit Go.Proofs.YtanhnfhpajaolaaDoorW.PrintWords Go.Proofs.YtanhnfhpajaolaaDoorW.PrintLast Go.Proofs.YtanhnfhpajaolaaDoorW.PrintMore Go.Proofs.YtanhnfhpajaolaaDoor.F Go.Proofs.YtanhnfhpajaolaaDoor.Cf Go.Proofs.YtanhnfhpajaolaaDoor.Sc
set_option linter.unusedVariables false
set_option linter.unusedSimpArgs false
def hasG (s : List Int) (v : Int) : Bool := (Go.bits .and .u64 (shr .u64 (rd s (v / 64)) (v % 64)) 1) == 1
def putG (s : List Int) (v : Int) : List Int := s.set (v / 64).toNat (Go.bits .or .u64 (rd s (v / 64)) (shl .u64 1 (v % 64)))
theorem putG_len (s : List Int) (v : Int) : (putG s v).length = s.length := by simp [putG]
theorem word_of (v : Int) (n : Nat) (h0 : 0 ≤ v) (h1 : v < 64 * (n : Int)) (hn : n ≤ 144115188075855871) : wrap64 (Int.tdiv v 64) = v / 64 ∧ Int.tmod v 64 = v % 64 ∧ 0 ≤ v / 64 ∧ v / 64 < n ∧ 0 ≤ v % 64 := by
  have e1 : Int.tdiv v 64 = v / 64 := Int.tdiv_eq_ediv_of_nonneg h0
  have e2 : Int.tmod v 64 = v % 64 := Int.tmod_eq_emod_of_nonneg h0
  rw [e1, e2]
  refine ⟨wrap_small (by omega) (by omega), rfl, by omega, by omega, by omega⟩
theorem has_some (s : List Int) (v : Int) (h0 : 0 ≤ v) (h1 : v < 64 * (s.length : Int)) (hn : s.length ≤ 144115188075855871) : live_set_has.f s v = some (hasG s v) := by
  obtain ⟨e1, e2, e3, e4, e5⟩ := word_of v s.length h0 h1 hn
  unfold live_set_has.f
  rw [e1, e2, if_pos e3, if_pos e4, if_pos e5]
  rfl
theorem put_some (s : List Int) (v : Int) (h0 : 0 ≤ v) (h1 : v < 64 * (s.length : Int)) (hn : s.length ≤ 144115188075855871) : live_set_put.f s v = some (putG s v) := by
  obtain ⟨e1, e2, e3, e4, e5⟩ := word_of v s.length h0 h1 hn
  unfold live_set_put.f
  rw [e1, e2, if_pos e3, if_pos e4, if_pos e5]
  rfl
theorem put_calls (w0 w : World) (g n c : Nat) (s : List Int) (v : Int) (hB : Below w0.heap.size w0 w) (ho : Kd.R (Kd.int .u64) 47 w w0.heap.size (fun k => k = g) (.slice (some ⟨g, 0, none⟩) n c) s) (h0 : 0 ≤ v) (h1 : v < 64 * (n : Int)) (hn : n ≤ 144115188075855871) :
    Calls Tryd.prog 48 #[.slice (some ⟨g, 0, none⟩) n c, .int .i64 v] w fun e w' => e = .returned (.tuple #[]) ∧ Kd.R (Kd.int .u64) 47 w' w0.heap.size (fun k => k = g) (.slice (some ⟨g, 0, none⟩) n c) (putG s v) ∧ Below w0.heap.size w0 w' ∧ Kept w w' (fun k => k = g) := by
  have hl : n = s.length := (Kd.R_reads' ho).1
  subst hl
  refine (live_set_put.calls (fun k => k = g) _ s v (putG s v) w0 w hB ho (put_some s v h0 h1 hn)).mono ?_
  rintro e w' ⟨rfl, hr, hb, hk⟩
  exact ⟨rfl, Kd.R_reok rfl hr (fun k hk => by simpa [Value.ownBlock] using hk.symm), hb, hk⟩
theorem has_calls (A : Option Addr) (c : Nat) (s : List Int) (v : Int) (b : Bool) (h : hasG s v = b) (w : World) (hr : Kd.C (Kd.int .u64) w A s.length s) (hc : s.length ≤ c) (h0 : 0 ≤ v) (h1 : v < 64 * (s.length : Int)) (hn : s.length ≤ 144115188075855871) :
    Calls Tryd.prog 78 #[.slice A s.length c, .int .i64 v] w fun e w' => e = .returned (.bool b) ∧ Drawn0 w w' :=
  live_set_has.calls A c s v b w hr hc ((has_some s v h0 h1 hn).trans (congrArg some h))
set_option maxHeartbeats 4000000 in
set_option maxRecDepth 100000 in
theorem ask_calls (w0 W : World) (bA bD gA gD n cA cD : Nat) (asks ds : List Int) (v : Int) (hne : gA ≠ gD)
    (hA : W.cell? ⟨bA, 0, none⟩ = some (.slice (some ⟨gA, 0, none⟩) n cA)) (hD : W.cell? ⟨bD, 0, none⟩ = some (.slice (some ⟨gD, 0, none⟩) n cD))
    (hRA : Kd.R (Kd.int .u64) 47 W w0.heap.size (fun k => k = gA) (.slice (some ⟨gA, 0, none⟩) n cA) asks) (hRD : Kd.R (Kd.int .u64) 47 W w0.heap.size (fun k => k = gD) (.slice (some ⟨gD, 0, none⟩) n cD) ds)
    (hB : Below w0.heap.size w0 W) (h0 : 0 ≤ v) (h1 : v < 64 * (n : Int)) (hn : n ≤ 144115188075855871) :
    Calls Tryd.prog 77 #[.int .i64 v, .pointer (some ⟨bD, 0, none⟩), .pointer (some ⟨bA, 0, none⟩)] W fun e w' => e = .returned (.tuple #[]) ∧ Kd.R (Kd.int .u64) 47 w' w0.heap.size (fun k => k = gA) (.slice (some ⟨gA, 0, none⟩) n cA) (if hasG ds v then asks else putG asks v) ∧ Kd.R (Kd.int .u64) 47 w' w0.heap.size (fun k => k = gD) (.slice (some ⟨gD, 0, none⟩) n cD) ds ∧ Below w0.heap.size w0 w' ∧ Kept W w' (fun k => k = gA) := by
  have HRA := Aside0.mk hRA
  have HRD := Aside0.mk hRD
  have HB := Aside0.mk hB
  obtain ⟨hl, hlc, hcr⟩ := Kd.R_reads' hRD
  have HCR := Aside0.mk hcr
  subst hl
  obtain ⟨b, hb⟩ : ∃ b, hasG ds v = b := ⟨_, rfl⟩
  rw [hb]
  have HHB := Aside0.mk hb
  clear hRA hRD hB hcr hb
  cases b with
  | true =>
    go_enter Tryd.func77, Tryd.ntmps77
    go_wp2_with (go_at_call 78; refine (has_calls _ _ ds v true HHB.out _ HCR.out hlc h0 h1 hn).mono ?_; rintro e w3 ⟨rfl, ⟨nd, rfl⟩⟩)
    go_end0
    exact ⟨rfl, Kd.R_drewN HRA.out _, Kd.R_drewN HRD.out _, pw_below_drewN HB.out _, (Kept.refl _ _).drewN _⟩
  | false =>
    go_enter Tryd.func77, Tryd.ntmps77
    go_wp2_with (first | (go_at_call 78; refine (has_calls _ _ ds v false HHB.out _ HCR.out hlc h0 h1 hn).mono ?_; rintro e w3 ⟨rfl, ⟨nd, rfl⟩⟩) | (go_at_call 48; refine (put_calls w0 _ gA _ cA asks v (pw_below_drewN HB.out _) (Kd.R_drewN HRA.out _) h0 h1 hn).mono ?_; rintro e w4 ⟨rfl, hr, hb, hk⟩; have HR4 := Aside0.mk hr; have HB4 := Aside0.mk hb; have HK4 := Aside0.mk hk; clear hr hb hk))
    go_end0
    exact ⟨rfl, HR4.out, Kd.R_mono (Kd.R_keptB (Kd.R_drewN HRD.out _) HK4.out (fun k hk e => hne (e.symm.trans hk))) (fun k hk => hk.1), HB4.out, HK4.out⟩
end Go.Proofs.YtanhnfhpajaolaaDoor.Fo
/- Sets as bits of words: what putG, hasG, joinP and joinQ mean. -/
namespace Go.Proofs.YtanhnfhpajaolaaDoor.Fo
open Go Go.RowKit Go.Proofs.YtanhnfhpajaolaaDoorW.PrintWords Go.Proofs.YtanhnfhpajaolaaDoorW.PrintLast Go.Proofs.YtanhnfhpajaolaaDoorW.PrintMore Go.Proofs.YtanhnfhpajaolaaDoor.F Go.Proofs.YtanhnfhpajaolaaDoor.Cf Go.Proofs.YtanhnfhpajaolaaDoor.Sc
set_option linter.unusedVariables false
set_option linter.unusedSimpArgs false
def wordOk (x : Int) : Prop := 0 ≤ x ∧ x < 18446744073709551616
def setOk (n : Nat) (s : List Int) : Prop := s.length = n ∧ ∀ x ∈ s, wordOk x
def inS (s : List Int) (v : Nat) : Bool := ((s.getD (v / 64) 0).toNat).testBit (v % 64)
theorem wrap_u64 {n : Int} (h0 : 0 ≤ n) (h1 : n < 18446744073709551616) : IntKind.u64.wrap n = n := by
  simp [IntKind.wrap, IntKind.bits, IntKind.signed]; omega
theorem wraps64 (n : Int) (h0 : 0 ≤ n) (h1 : n < 2 ^ 64) : IntKind.u64.wrap n = n := wrap_u64 h0 (by simpa using h1)
theorem and_u64 (a b : Nat) (ha : a < 2 ^ 64) (hb : b < 2 ^ 64) : Go.bits .and .u64 a b = ((a &&& b : Nat) : Int) := (bits_nat .u64 64 (by decide) wraps64 a b ha hb).1
theorem or_u64 (a b : Nat) (ha : a < 2 ^ 64) (hb : b < 2 ^ 64) : Go.bits .or .u64 a b = ((a ||| b : Nat) : Int) := (bits_nat .u64 64 (by decide) wraps64 a b ha hb).2
theorem andNot_u64 (a b : Nat) (ha : a < 2 ^ 64) (hb : b < 2 ^ 64) : Go.bits .andNot .u64 a b = ((a &&& (2 ^ 64 - (b + 1)) : Nat) : Int) := by
  have hx : a &&& (2 ^ 64 - (b + 1)) < 2 ^ 64 := Nat.and_lt_two_pow _ (by omega)
  show IntKind.u64.wrap ((BitVec.ofInt 64 (a : Int) &&& ~~~BitVec.ofInt 64 (b : Int)).toNat : Int) = _
  rw [BitVec.toNat_and, BitVec.toNat_not, BitVec.ofInt_natCast, BitVec.ofInt_natCast, BitVec.toNat_ofNat, BitVec.toNat_ofNat, Nat.mod_eq_of_lt ha, Nat.mod_eq_of_lt hb, show 2 ^ 64 - 1 - b = 2 ^ 64 - (b + 1) by omega]
  exact wraps64 _ (Int.natCast_nonneg _) (by exact_mod_cast hx)
theorem nat_word {w : Nat} (h : w < 2 ^ 64) : wordOk (w : Int) := ⟨Int.natCast_nonneg _, by omega⟩
theorem word_nat {x : Int} (h : wordOk x) : ∃ a : Nat, x = a ∧ a < 2 ^ 64 := ⟨x.toNat, by have := h.1; omega, by have := h.2; have := h.1; omega⟩
theorem getD_ok {n : Nat} {s : List Int} (h : setOk n s) (i : Nat) : wordOk (s.getD i 0) := by
  rw [List.getD_eq_getElem?_getD]
  by_cases hi : i < s.length
  · rw [List.getElem?_eq_getElem hi]
    exact h.2 _ (List.getElem_mem hi)
  · rw [List.getElem?_eq_none (by omega)]
    exact ⟨Int.le_refl _, by decide⟩
theorem rd_word (s : List Int) (v : Nat) : rd s ((v : Int) / 64) = s.getD (v / 64) 0 := by
  unfold rd
  rw [show ((v : Int) / 64).toNat = v / 64 by omega]
theorem hasG_in {n : Nat} {s : List Int} (h : setOk n s) (v : Nat) : hasG s (v : Int) = inS s v := by
  unfold hasG inS
  rw [rd_word]
  obtain ⟨a, ha, hl⟩ := word_nat (getD_ok h (v / 64))
  rw [ha]
  have h1 : shr .u64 (a : Int) ((v : Int) % 64) = ((a / 2 ^ (v % 64) : Nat) : Int) := by
    unfold shr
    rw [show ((v : Int) % 64).toNat = v % 64 by omega, Nat.min_eq_left (show v % 64 ≤ IntKind.bits .u64 by show v % 64 ≤ 64; omega)]
    push_cast
    rfl
  rw [h1, show (1 : Int) = ((1 : Nat) : Int) from rfl, and_u64 _ _ (Nat.lt_of_le_of_lt (Nat.div_le_self _ _) hl) (by decide)]
  rw [Int.toNat_natCast, Nat.and_one_is_mod, Nat.testBit_eq_decide_div_mod_eq]
  by_cases e : a / 2 ^ (v % 64) % 2 = 1
  · simp [e]
  · have e0 : a / 2 ^ (v % 64) % 2 = 0 := by omega
    simp [e0]
theorem put_word {a : Nat} (ha : a < 2 ^ 64) (v : Nat) : Go.bits .or .u64 (a : Int) (shl .u64 1 ((v : Int) % 64)) = ((a ||| 2 ^ (v % 64) : Nat) : Int) := by
  have h2 : 2 ^ (v % 64) < 2 ^ 64 := Nat.pow_lt_pow_right (by decide) (Nat.mod_lt _ (by decide))
  have h1 : shl .u64 1 ((v : Int) % 64) = ((2 ^ (v % 64) : Nat) : Int) := by
    unfold shl
    rw [show ((v : Int) % 64).toNat = v % 64 by omega, Nat.min_eq_left (show v % 64 ≤ IntKind.bits .u64 by show v % 64 ≤ 64; omega), Int.one_mul]
    rw [show ((2 : Int) ^ (v % 64)) = ((2 ^ (v % 64) : Nat) : Int) by push_cast; rfl]
    exact wraps64 _ (Int.natCast_nonneg _) (by exact_mod_cast h2)
  rw [h1, or_u64 _ _ ha h2]
theorem putG_ok {n : Nat} {s : List Int} (h : setOk n s) (v : Nat) : setOk n (putG s (v : Int)) := by
  unfold putG
  refine ⟨by simpa using h.1, fun x hx => ?_⟩
  rw [rd_word] at hx
  obtain ⟨a, ha, hl⟩ := word_nat (getD_ok h (v / 64))
  rw [ha, put_word hl] at hx
  rcases List.mem_or_eq_of_mem_set hx with hx | rfl
  · exact h.2 _ hx
  · have : a ||| 2 ^ (v % 64) < 2 ^ 64 := Nat.or_lt_two_pow hl (Nat.pow_lt_pow_right (by decide) (Nat.mod_lt _ (by decide)))
    exact nat_word this
theorem put_in {n : Nat} {s : List Int} (h : setOk n s) (v : Nat) (hv : v < 64 * n) (u : Nat) : inS (putG s (v : Int)) u = (decide (u = v) || inS s u) := by
  unfold putG inS
  rw [rd_word]
  obtain ⟨a, ha, hl⟩ := word_nat (getD_ok h (v / 64))
  rw [ha, put_word hl, show ((v : Int) / 64).toNat = v / 64 by omega]
  by_cases e : u / 64 = v / 64
  · rw [e, List.getD_eq_getElem?_getD, List.getElem?_set_self (by rw [h.1]; omega), Option.getD_some, ha, Int.toNat_natCast, Int.toNat_natCast, Nat.testBit_or, Nat.testBit_two_pow, Bool.or_comm]
    congr 1
    exact decide_eq_decide.2 ⟨fun h => by omega, fun h => by omega⟩
  · rw [List.getD_eq_getElem?_getD, List.getElem?_set_ne (fun h => e h.symm), ← List.getD_eq_getElem?_getD, decide_eq_false (fun h => e (by rw [h])), Bool.false_or]
theorem jw_word {a l s : Nat} (ha : a < 2 ^ 64) (hl : l < 2 ^ 64) (hs : s < 2 ^ 64) : ∃ w : Nat, jw (a : Int) l s = w ∧ w < 2 ^ 64 ∧ ∀ i, w.testBit i = (a.testBit i && (!l.testBit i && (!s.testBit i && decide (i < 64)))) := by
  unfold jw
  rw [andNot_u64 a l ha hl]
  have h1 : a &&& (2 ^ 64 - (l + 1)) < 2 ^ 64 := Nat.and_lt_two_pow _ (by omega)
  rw [andNot_u64 _ s h1 hs]
  refine ⟨_, rfl, Nat.and_lt_two_pow _ (by omega), fun i => ?_⟩
  rw [Nat.testBit_and, Nat.testBit_and, Nat.testBit_two_pow_sub_succ hl, Nat.testBit_two_pow_sub_succ hs]
  by_cases hi : i < 64
  · simp [hi, Bool.and_assoc]
  · simp [hi]
theorem jo_word {a l s : Nat} (ha : a < 2 ^ 64) (hl : l < 2 ^ 64) (hs : s < 2 ^ 64) : ∃ w : Nat, jo (a : Int) l s = w ∧ w < 2 ^ 64 ∧ ∀ i, i < 64 → w.testBit i = (s.testBit i || (a.testBit i && !l.testBit i)) := by
  obtain ⟨w, hw, hwl, hb⟩ := jw_word ha hl hs
  unfold jo
  rw [hw, or_u64 _ _ hs hwl]
  refine ⟨_, rfl, Nat.or_lt_two_pow hs hwl, fun i hi => ?_⟩
  rw [Nat.testBit_or, hb]
  cases s.testBit i <;> simp [hi]
theorem rd_getD (s : List Int) (i : Nat) : rd s (i : Int) = s.getD i 0 := by unfold rd; rw [Int.toNat_natCast]
theorem joinP_ok {n : Nat} {s a l : List Int} (hs : setOk n s) (ha : setOk n a) (hl : setOk n l) : setOk n (joinP s a l n) := by
  refine ⟨by rw [joinP_len]; exact hs.1, fun x hx => ?_⟩
  obtain ⟨i, hi, rfl⟩ := List.getElem_of_mem hx
  have hi2 : i < s.length := by rw [joinP_len] at hi; exact hi
  have hin : i < n := by rw [← hs.1]; exact hi2
  have e : (joinP s a l n)[i] = jo (a.getD i 0) (l.getD i 0) (s.getD i 0) := by simp [joinP, hin, rd_getD, List.getD_eq_getElem?_getD, hi2]
  rw [e]
  obtain ⟨x, hx, hxl⟩ := word_nat (getD_ok ha i)
  obtain ⟨y, hy, hyl⟩ := word_nat (getD_ok hl i)
  obtain ⟨z, hz, hzl⟩ := word_nat (getD_ok hs i)
  rw [hx, hy, hz]
  obtain ⟨w, hw, hwl, _⟩ := jo_word hxl hyl hzl
  rw [hw]
  exact nat_word hwl
theorem join_in {n : Nat} {s a l : List Int} (hs : setOk n s) (ha : setOk n a) (hl : setOk n l) (u : Nat) (hu : u < 64 * n) : inS (joinP s a l n) u = (inS s u || (inS a u && !inS l u)) := by
  unfold inS
  have hin : u / 64 < n := by omega
  have hi2 : u / 64 < s.length := by rw [hs.1]; exact hin
  have e : (joinP s a l n).getD (u / 64) 0 = jo (a.getD (u / 64) 0) (l.getD (u / 64) 0) (s.getD (u / 64) 0) := by
    rw [List.getD_eq_getElem?_getD, List.getElem?_eq_getElem (by rw [joinP_len]; exact hi2)]
    simp [joinP, hin, rd_getD, List.getD_eq_getElem?_getD, hi2]
  rw [e]
  obtain ⟨x, hx, hxl⟩ := word_nat (getD_ok ha (u / 64))
  obtain ⟨y, hy, hyl⟩ := word_nat (getD_ok hl (u / 64))
  obtain ⟨z, hz, hzl⟩ := word_nat (getD_ok hs (u / 64))
  rw [hx, hy, hz]
  obtain ⟨w, hw, hwl, hb⟩ := jo_word hxl hyl hzl
  rw [hw]
  simp only [Int.toNat_natCast]
  exact hb _ (Nat.mod_lt _ (by decide))
theorem joinQ_in {n : Nat} {s a l : List Int} (hs : setOk n s) (ha : setOk n a) (hl : setOk n l) : joinQ s a l n = true ↔ ∃ u, u < 64 * n ∧ (inS a u = true ∧ inS l u = false ∧ inS s u = false) := by
  unfold joinQ
  rw [List.any_eq_true]
  constructor
  · rintro ⟨i, hi, hne⟩
    have hin : i < n := List.mem_range.1 hi
    rw [rd_getD, rd_getD, rd_getD] at hne
    obtain ⟨x, hx, hxl⟩ := word_nat (getD_ok ha i)
    obtain ⟨y, hy, hyl⟩ := word_nat (getD_ok hl i)
    obtain ⟨z, hz, hzl⟩ := word_nat (getD_ok hs i)
    rw [hx, hy, hz] at hne
    obtain ⟨w, hw, hwl, hb⟩ := jw_word hxl hyl hzl
    rw [hw] at hne
    have hw0 : w ≠ 0 := by
      intro e
      subst e
      simp at hne
    obtain ⟨j, hj⟩ := Nat.exists_testBit_of_ne_zero hw0
    rw [hb] at hj
    simp only [Bool.and_eq_true, Bool.not_eq_true', decide_eq_true_eq] at hj
    obtain ⟨h1, h2, h3, h4⟩ := hj
    refine ⟨64 * i + j, by omega, ?_⟩
    unfold inS
    rw [show (64 * i + j) / 64 = i by omega, show (64 * i + j) % 64 = j by omega, hx, hy, hz]
    simp only [Int.toNat_natCast]
    exact ⟨h1, h2, h3⟩
  · rintro ⟨u, hu, h1, h2, h3⟩
    refine ⟨u / 64, List.mem_range.2 (by omega), ?_⟩
    rw [rd_getD, rd_getD, rd_getD]
    unfold inS at h1 h2 h3
    obtain ⟨x, hx, hxl⟩ := word_nat (getD_ok ha (u / 64))
    obtain ⟨y, hy, hyl⟩ := word_nat (getD_ok hl (u / 64))
    obtain ⟨z, hz, hzl⟩ := word_nat (getD_ok hs (u / 64))
    rw [hx] at h1 ⊢
    rw [hy] at h2 ⊢
    rw [hz] at h3 ⊢
    simp only [Int.toNat_natCast] at h1 h2 h3
    obtain ⟨w, hw, hwl, hb⟩ := jw_word hxl hyl hzl
    rw [hw]
    have : w ≠ 0 := by
      intro e
      have := hb (u % 64)
      rw [h1, h2, h3, e] at this
      simp at this
      omega
    simpa using this
end Go.Proofs.YtanhnfhpajaolaaDoor.Fo
/- live.Live, told plainly. -/
namespace Go.Proofs.YtanhnfhpajaolaaDoor.Fo
open Go Go.RowKit Go.Proofs.YtanhnfhpajaolaaDoorW.PrintWords Go.Proofs.YtanhnfhpajaolaaDoorW.PrintLast Go.Proofs.YtanhnfhpajaolaaDoorW.PrintMore Go.Proofs.YtanhnfhpajaolaaDoor.F Go.Proofs.YtanhnfhpajaolaaDoor.Cf Go.Proofs.YtanhnfhpajaolaaDoor.Sc
set_option linter.unusedVariables false
set_option linter.unusedSimpArgs false
def zerosG (n : Nat) : List Int := List.replicate n 0
def askG (ds a : List Int) (v : Int) : List Int := if hasG ds v then a else putG a v
def setsB (x : S49) : Bool := !(x.f0 == 7) && (!(x.f0 == 8) && !(x.f0 == 10))
def blkI (p : List Int × List Int) (x : S49) : List Int × List Int := (if x.f0 = 1 then p.1 else x.f3.foldl (askG p.2) p.1, if setsB x = true then putG p.2 x.f2 else p.2)
def blkE (b : S43) (p : List Int × List Int) : List Int := if b.f1.f0 = 2 ∨ b.f1.f0 = 3 then askG p.2 p.1 b.f1.f1 else p.1
def blkG (b : S43) (n : Nat) : List Int × List Int := (blkE b (b.f0.foldl blkI (zerosG n, zerosG n)), (b.f0.foldl blkI (zerosG n, zerosG n)).2)
def phiA (row : List Int) : Nat → List Int → List (List Int) → List (List Int)
  | _, [], o => o
  | k, v :: t, o => phiA row (k + 1) t (o.set (rd row k).toNat (putG (rd_L2 o (rd row k)) v))
def phiB (row : List Int) : List S49 → List (List Int) → List (List Int)
  | [], o => o
  | x :: xs, o => phiB row xs (if x.f0 = 1 then phiA row 0 x.f3 o else o)
def phiAll : List (List Int) → List S43 → List (List Int) → List (List Int)
  | r :: rs, b :: bs, o => phiAll rs bs (phiB r b.f0 o)
  | _, _, o => o
def nextJ (into : List (List Int)) (none : List Int) : List Int → List Int × Bool → List Int × Bool
  | [], p => p
  | k :: ks, p => nextJ into none ks (joinP p.1 (rd_L2 into k) none p.1.length, joinQ p.1 (rd_L2 into k) none p.1.length || p.2)
/-- One block of a pass: into, out, changed. -/
def stepJ (bs : List S43) (does : List (List Int)) (none : List Int) (i : Nat) (s : List (List Int) × List (List Int) × Bool) : List (List Int) × List (List Int) × Bool :=
  let p := nextJ s.1 none (nextOf bs i) (rd_L2 s.2.1 i, s.2.2)
  (s.1.set i (joinP (rd_L2 s.1 i) p.1 (rd_L2 does i) (rd_L2 s.1 i).length), s.2.1.set i p.1, joinQ (rd_L2 s.1 i) p.1 (rd_L2 does i) (rd_L2 s.1 i).length || p.2)
def passJ (bs : List S43) (does : List (List Int)) (none : List Int) : Nat → List (List Int) × List (List Int) × Bool → List (List Int) × List (List Int) × Bool
  | 0, s => s
  | i + 1, s => passJ bs does none i (stepJ bs does none i s)
def loopJ (bs : List S43) (does : List (List Int)) (none : List Int) : Nat → List (List Int) × List (List Int) → Option (List (List Int) × List (List Int))
  | 0, _ => Option.none
  | f + 1, s => if (passJ bs does none bs.length (s.1, s.2, false)).2.2 = true then loopJ bs does none f ((passJ bs does none bs.length (s.1, s.2, false)).1, (passJ bs does none bs.length (s.1, s.2, false)).2.1) else some ((passJ bs does none bs.length (s.1, s.2, false)).1, (passJ bs does none bs.length (s.1, s.2, false)).2.1)
def listG (nv : Nat) (s : List Int) : List Int := ((List.range nv).filter fun v : Nat => hasG s (v : Int)).map fun v : Nat => (v : Int)
def sizeN (g : S28) : Nat := g.f3.length / 64 + 1
def into0 (g : S28) : List (List Int) := g.f5.map fun b => (blkG b (sizeN g)).1
def does0 (g : S28) : List (List Int) := g.f5.map fun b => (blkG b (sizeN g)).2
def out0 (g : S28) : List (List Int) := phiAll (aheadL g.f5) g.f5 (g.f5.map fun _ => zerosG (sizeN g))
def liveG (f : Nat) (g : S28) : Option (List (List Int) × List (List Int)) :=
  (loopJ g.f5 (does0 g) (zerosG (sizeN g)) f (into0 g, out0 g)).map fun s => (s.1.map (listG g.f3.length), s.2.map (listG g.f3.length))
end Go.Proofs.YtanhnfhpajaolaaDoor.Fo
