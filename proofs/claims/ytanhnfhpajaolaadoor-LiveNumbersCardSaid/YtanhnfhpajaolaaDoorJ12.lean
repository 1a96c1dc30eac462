/- Texts of this proof, joined in build order: Lw. -/
import Derived.Test.YtanhnfhpajaolaaDoorJ07
import Derived.Test.YtanhnfhpajaolaaDoorJ10
import Derived.Test.YtanhnfhpajaolaaDoorJ11
import Derived.Scope
import Derived.ScopeJumps
/- live.Live from its label on. -/
namespace Go.Proofs.YtanhnfhpajaolaaDoor.Fo
open Go Go.RowKit Go.Proofs.YtanhnfhpajaolaaDoorW.PrintWords Go.Proofs.YtanhnfhpajaolaaDoorW.PrintLast Go.Proofs.YtanhnfhpajaolaaDoorW.PrintMore Go.Proofs.YtanhnfhpajaolaaDoor.F Go.Proofs.YtanhnfhpajaolaaDoor.Cf Go.Proofs.YtanhnfhpajaolaaDoor.Sc
set_option linter.unusedVariables false
set_option linter.unusedSimpArgs false
set_option maxHeartbeats 40000000 in
set_option maxRecDepth 100000 in
theorem live_pass (g : S28) (A1 A3 A4 A5 : Option Addr) (c1 c3 c4 c5 : Nat) (w : World)
    (hg : Kd.C k181 w (some ⟨2, 0, none⟩) 11 formsT) (hr1 : Kd.C (Kd.int .i64) w A1 g.f1.length g.f1) (hc1 : g.f1.length ≤ c1) (hr3 : Kd.C (Kd.int .u8) w A3 g.f3.length g.f3) (hc3 : g.f3.length ≤ c3) (hr4 : Kd.C k113 w A4 g.f4.length g.f4) (hc4 : g.f4.length ≤ c4) (hr5 : Kd.C k43 w A5 g.f5.length g.f5) (hc5 : g.f5.length ≤ c5) (hs : sizesA g) (hv : g.f3.length ≤ 8796093022208) (hal : aloneG g = true) (res : List (List Int) × List (List Int)) (m : Nat) (a' : Act) (w' : World) (hJ : LJ w g (#[.string g.f0, .slice A1 g.f1.length c1, .int .u8 g.f2, .slice A3 g.f3.length c3, .slice A4 g.f4.length c4, .slice A5 g.f5.length c5] : Array Value) res m a' w') :
    (tailOf Tryd.f15 0).wp Tryd.prog (Exit.jump 0 (fun a' w' => ∃ m', m' < m ∧ LJ w g (#[.string g.f0, .slice A1 g.f1.length c1, .int .u8 g.f2, .slice A3 g.f3.length c3, .slice A4 g.f4.length c4, .slice A5 g.f5.length c5] : Array Value) res m' a' w') (bodyPost Tryd.prog Tryd.f15 (LQ w (res.1.map (listG g.f3.length), res.2.map (listG g.f3.length))))) a' w' := by
  have HG := Aside0.mk hg
  have HR1 := Aside0.mk hr1
  have HC1 := Aside0.mk hc1
  have HR3 := Aside0.mk hr3
  have HC3 := Aside0.mk hc3
  have HR4 := Aside0.mk hr4
  have HC4 := Aside0.mk hc4
  have HR5 := Aside0.mk hr5
  have HC5 := Aside0.mk hc5
  have HS := Aside0.mk hs
  have HGO := Aside0.mk (good_of hal)
  have hN : g.f5.length ≤ 1099511627776 := hs.2.1
  have hn0 : sizeN g ≤ 4398046511105 := by unfold sizeN; omega
  have HSZ := Aside0.mk (show sizeN g = g.f3.length / 64 + 1 from rfl)
  clear hg hr1 hc1 hr3 hc3 hr4 hc4 hr5 hc5 hs hal
  unfold LJ at hJ
  obtain ⟨G, B, gN, s, HL, HSTA, hu⟩ := hJ
  obtain ⟨uu, rfl⟩ := hu
  obtain ⟨code, hcode⟩ : ∃ code, tailOf Tryd.f15 0 = code := ⟨_, rfl⟩
  rw [hcode]
  unfold tailOf restOf scopeOf Tryd.f15 at hcode
  dsimp only at hcode
  simp (config := { decide := true }) only [findLabel] at hcode
  dsimp only [Option.getD] at hcode
  subst hcode
  have hbc : ∀ j : Nat, w'.cell? ⟨w.heap.size, j, none⟩ = (#[.string g.f0, .slice A1 g.f1.length c1, .int .u8 g.f2, .slice A3 g.f3.length c3, .slice A4 g.f4.length c4, .slice A5 g.f5.length c5] : Array Value)[j]? := fun j => HSTA.out.b.boxc j
  go_wp2
  clear hbc
  obtain ⟨resP, hresP⟩ : ∃ resP, passJ g.f5 (does0 g) (zerosG (sizeN g)) g.f5.length (s.1, s.2, false) = resP := ⟨_, rfl⟩
  have HRP := Aside0.mk hresP
  clear hresP
  go_loopw [18, 19] (fun v18 v19 wr => ∃ i : Nat, i ≤ g.f5.length ∧ v19 = .int .i64 ((i : Int) - 1) ∧ ∃ (I O : List (List Int)) (ch : Bool), v18 = .bool ch ∧ Aside0 (passJ g.f5 (does0 g) (zerosG (sizeN g)) i (I, O, ch) = resP) ∧ Aside0 (Sta w wr (#[.string g.f0, .slice A1 g.f1.length c1, .int .u8 g.f2, .slice A3 g.f3.length c3, .slice A4 g.f4.length c4, .slice A5 g.f5.length c5] : Array Value) G B gN I O (does0 g) g.f5.length (sizeN g))) (fun _ v19 _ => (intOf v19 + 1).toNat)
  case atStart => exact ⟨g.f5.length, Nat.le_refl _, rfl, s.1, s.2, false, rfl, HRP, HSTA⟩
  case round =>
    clear HSTA
    obtain ⟨i, hi, rfl, I, O, ch, rfl, HP, HSTA⟩ := hrel
    cases i with
    | succ k =>
      have hlt : k < g.f5.length := by omega
      have e0 : ((k + 1 : Nat) : Int) - 1 = (k : Int) := by omega
      simp only [e0]
      clear e0
      have hbc : ∀ j : Nat, wr.cell? ⟨w.heap.size, j, none⟩ = (#[.string g.f0, .slice A1 g.f1.length c1, .int .u8 g.f2, .slice A3 g.f3.length c3, .slice A4 g.f4.length c4, .slice A5 g.f5.length c5] : Array Value)[j]? := fun j => HSTA.out.b.boxc j
      obtain ⟨ad, Ab, cb, hA5, hx0, hx1, hx2, hx3, hx4, hx5, hcb, hrb⟩ := at_T43 HR5.out (k : Int) (by omega) (by omega)
      subst hA5
      simp only [Int.toNat_natCast] at hx0 hx1 hx2 hx3 hx4 hx5
      replace hx0 := pw_cell_below HSTA.out.b.low hx0
      replace hx1 := pw_cell_below HSTA.out.b.low hx1
      replace hx2 := pw_cell_below HSTA.out.b.low hx2
      replace hx3 := pw_cell_below HSTA.out.b.low hx3
      replace hx4 := pw_cell_below HSTA.out.b.low hx4
      replace hx5 := pw_cell_below HSTA.out.b.low hx5
      have HOB := Aside0.mk (HGO.out.blk k hlt)
      rw [← rd43_get _ hlt] at HOB
      have hP := HP.out
      rw [passJ, stepJ] at hP
      simp only [nextOf] at hP
      clear hcb hrb HP
      generalize rd_T43 g.f5 (k : Int) = b at *
      obtain ⟨resN, hresN⟩ : ∃ resN, nextJ I (zerosG (sizeN g)) (nextL b.f1.f0 b.f1.f2.f0 b.f1.f2.f1) (rd_L2 O (k : Int), ch) = resN := ⟨_, rfl⟩
      rw [hresN] at hP
      have HP := Aside0.mk hP
      have HRN := Aside0.mk hresN
      have HNX := Aside0.mk (HOB.out.2.2)
      have hks : (nextL b.f1.f0 b.f1.f2.f0 b.f1.f2.f1).length ≤ 2 := by
        unfold nextL
        split
        · simp
        · split
          · split <;> simp
          · simp
      clear hP hresN HOB
      go_upto_region 31 with (go_at_call 49; refine (next_calls Ab b.f0.length cb b.f1.f0 b.f1.f1 b.f1.f2.f0 b.f1.f2.f1 b.f1.f3 _).mono ?_; rintro e w4 ⟨vk, rfl, hrk, hb4⟩; have HSTA4 := Aside0.mk (HSTA.out.below hb4); have HLT := Aside0.mk (fun a i ha hi => HSTA.out.b.st.lt a i ha hi : ∀ a i, a < 3 → i < g.f5.length → B a i < wr.heap.size); obtain ⟨Ak, ck, rfl, hck, _⟩ := Kd.R_reads hrk; have HRK := Aside0.mk (Kd.R_mono (Kd.R_bound hrk) (fun k hk => hk.2.1)); clear hrk hb4 hck hbc hx0 hx1 hx2 hx3 hx4 hx5)
      generalize nextL b.f1.f0 b.f1.f2.f0 b.f1.f2.f1 = ks at *
      clear HSTA
      generalize wr.heap.size = nb at *
      go_loopw [18, 130] (fun v18 v130 w5 => ∃ j : Nat, j ≤ ks.length ∧ v130 = .int .i64 j ∧ ∃ (q : List Int) (ch' : Bool), v18 = .bool ch' ∧ Aside0 (nextJ I (zerosG (sizeN g)) (ks.drop j) (q, ch') = resN) ∧ Aside0 (Sta w w5 (#[.string g.f0, .slice A1 g.f1.length c1, .int .u8 g.f2, .slice A3 g.f3.length c3, .slice A4 g.f4.length c4, .slice (some ad) g.f5.length c5] : Array Value) G B gN I (O.set k q) (does0 g) g.f5.length (sizeN g)) ∧ Aside0 (Kd.R (Kd.int .i64) 3 w5 nb (fun b => nb ≤ b) (.slice Ak ks.length ck) ks)) (fun _ v130 _ => ks.length - (intOf v130).toNat)
      case atStart => exact ⟨0, Nat.zero_le _, rfl, rd_L2 O (k : Int), ch, rfl, ⟨by rw [List.drop_zero]; exact HRN.out⟩, ⟨by rw [set_rd O k (by have h9 := HSTA4.out.b.st.len 1 (by decide); have h8 : (V3 I O (does0 g) 1).length = O.length := rfl; omega)]; exact HSTA4.out⟩, HRK⟩
      case round =>
        clear HRN HSTA4 HRK
        obtain ⟨j, hj, rfl, q, ch', rfl, HN, HSTA, HRK⟩ := hrel
        have hol : k < O.length := by have h9 := HSTA.out.b.st.len 1 (by decide); have h8 : (V3 I (O.set k q) (does0 g) 1).length = (O.set k q).length := rfl; rw [h8, List.length_set] at h9; omega
        have HRQ := Aside0.mk (show rd_L2 (O.set k q) (k : Int) = q by rw [rd_set _ _ _ _ hol, if_pos rfl])
        have HQL := Aside0.mk (show q.length = sizeN g by have h9 := R_len (HSTA.out.b.st.own 1 k (by decide) hlt); have h8 : rd_L2 (V3 I (O.set k q) (does0 g) 1) (k : Int) = rd_L2 (O.set k q) (k : Int) := rfl; rw [h8, HRQ.out] at h9; exact h9)
        clear hol
        by_cases hjl : j < ks.length
        · have hN := HN.out
          rw [List.drop_eq_getElem_cons hjl, nextJ] at hN
          have hnx := HNX.out _ (List.getElem_mem hjl)
          obtain ⟨adk, hAk, hv⟩ := Kd.at_int (Kd.R_reads' HRK.out).2.2 (j : Int) (by omega) (by omega)
          subst hAk
          simp only [Int.toNat_natCast] at hv
          rw [← rd_get _ hjl] at hN hnx
          obtain ⟨kk, hkk0⟩ := Int.eq_ofNat_of_zero_le (Int.le_of_lt hnx.1)
          rw [hkk0] at hN hnx hv
          have hkk : kk < g.f5.length := by omega
          obtain ⟨jq, hjq⟩ : ∃ jq, joinQ q (rd_L2 I (kk : Int)) (zerosG (sizeN g)) (sizeN g) = jq := ⟨_, rfl⟩
          simp only [HQL.out, hjq] at hN
          have HJQ := Aside0.mk (show joinQ (rd_L2 (O.set k q) (k : Int)) (rd_L2 I (kk : Int)) (zerosG (sizeN g)) (sizeN g) = jq by rw [HRQ.out]; exact hjq)
          clear hnx hkk0 HN hjq
          cases jq with
          | true =>
            simp only [Bool.true_or] at hN
            have HNN2 := Aside0.mk hN
            clear hN
            go_upto_region 33 with (fail)
            have e1 := HSTA.out.b.st.cell 1 k (by decide) hlt
            have e0 := HSTA.out.b.st.cell 0 kk (by decide) hkk
            refine start_ (n := 14) (S := fun w' => w'.cell? ⟨G 1, k, none⟩ = some (.slice (some ⟨B 1 k, 0, none⟩) (sizeN g) (sizeN g)) ∧ w'.cell? ⟨G 0, kk, none⟩ = some (.slice (some ⟨B 0 kk, 0, none⟩) (sizeN g) (sizeN g))) (ds := []) #[false, false, false, false, false, false, false, false, false, false, false, false, false, false] (by kernel_rfl) rfl rfl ⟨(pw_cell_below (below_drew (Below.refl _ _)) e1), (pw_cell_below (below_drew (Below.refl _ _)) e0)⟩ (fun hHeld => ?_)
            refine pure_ (i := 0) (N := some 134) (v := ?_) (a' := ?_) #[true, false, false, false, false, false, false, false, false, false, false, false, false, false] rfl rfl (by kernel_rfl) (fun _ _ _ h => h) (Or.inl ⟨by rfl, ?_⟩) ?_ ?_
            rotate_left
            · intro w'
              go_simp
              with_reducible rfl
            rotate_left
            · simp only [Act.put, List.setIfInBounds_toArray, List.set_cons_zero, List.set_cons_succ, i64_w, i32_w]
              rfl
            refine pure_ (i := 1) (N := some 135) (v := ?_) (a' := ?_) #[true, true, false, false, false, false, false, false, false, false, false, false, false, false] rfl rfl (by kernel_rfl) (fun _ _ _ h => h) (Or.inl ⟨by rfl, ?_⟩) ?_ ?_
            rotate_left
            · intro w'
              go_simp
              with_reducible rfl
            rotate_left
            · simp only [Act.put, List.setIfInBounds_toArray, List.set_cons_zero, List.set_cons_succ, i64_w, i32_w]
              rfl
            refine pure_ (i := 2) (N := some 136) (v := ?_) (a' := ?_) #[true, true, true, false, false, false, false, false, false, false, false, false, false, false] rfl rfl (by kernel_rfl) (fun _ _ _ h => h) (Or.inl ⟨by rfl, ?_⟩) ?_ ?_
            rotate_left
            · intro w'
              go_simp
              with_reducible rfl
            rotate_left
            · simp only [Act.put, List.setIfInBounds_toArray, List.set_cons_zero, List.set_cons_succ, i64_w, i32_w]
              rfl
            refine pure_ (i := 4) (N := some 138) (v := ?_) (a' := ?_) #[true, true, true, false, true, false, false, false, false, false, false, false, false, false] rfl rfl (by kernel_rfl) (fun _ _ _ h => h) (Or.inl ⟨by rfl, ?_⟩) ?_ ?_
            rotate_left
            · intro w'
              go_simp
              with_reducible rfl
            rotate_left
            · simp only [Act.put, List.setIfInBounds_toArray, List.set_cons_zero, List.set_cons_succ, i64_w, i32_w]
              rfl
            refine pure_ (i := 5) (N := some 139) (v := ?_) (a' := ?_) #[true, true, true, false, true, true, false, false, false, false, false, false, false, false] rfl rfl (by kernel_rfl) (fun _ _ _ h => h) (Or.inl ⟨by rfl, ?_⟩) ?_ ?_
            rotate_left
            · intro w'
              go_simp
              with_reducible rfl
            rotate_left
            · simp only [Act.put, List.setIfInBounds_toArray, List.set_cons_zero, List.set_cons_succ, i64_w, i32_w]
              rfl
            refine pure_ (i := 6) (N := some 140) (v := ?_) (a' := ?_) #[true, true, true, false, true, true, true, false, false, false, false, false, false, false] rfl rfl (by kernel_rfl) (fun _ _ _ h => h) (Or.inl ⟨by rfl, ?_⟩) ?_ ?_
            rotate_left
            · intro w'
              go_simp
              with_reducible rfl
            rotate_left
            · simp only [Act.put, List.setIfInBounds_toArray, List.set_cons_zero, List.set_cons_succ, i64_w, i32_w]
              rfl
            refine pure_ (i := 8) (N := some 142) (v := ?_) (a' := ?_) #[true, true, true, false, true, true, true, false, true, false, false, false, false, false] rfl rfl (by kernel_rfl) (fun _ _ _ h => h) (Or.inl ⟨by rfl, ?_⟩) ?_ ?_
            rotate_left
            · intro w'
              go_simp
              with_reducible rfl
            rotate_left
            · simp only [Act.put, List.setIfInBounds_toArray, List.set_cons_zero, List.set_cons_succ, i64_w, i32_w]
              rfl
            refine take_ (i := 3) (N := some 137) (v := ?_) (a' := ?_) #[true, true, true, true, true, true, true, false, true, false, false, false, false, false] rfl rfl (by kernel_rfl) (fun _ _ _ h => h) (Or.inl ⟨by rfl, ?_⟩) hHeld ?_ ?_
            rotate_left
            · rintro w' ⟨s0, s1⟩
              go_simp
              with_reducible rfl
            rotate_left
            · simp only [Act.put, List.setIfInBounds_toArray, List.set_cons_zero, List.set_cons_succ, i64_w, i32_w]
              rfl
            refine take_ (i := 7) (N := some 141) (v := ?_) (a' := ?_) #[true, true, true, true, true, true, true, true, true, false, false, false, false, false] rfl rfl (by kernel_rfl) (fun _ _ _ h => h) (Or.inl ⟨by rfl, ?_⟩) hHeld ?_ ?_
            rotate_left
            · rintro w' ⟨s0, s1⟩
              go_simp
              with_reducible rfl
            rotate_left
            · simp only [Act.put, List.setIfInBounds_toArray, List.set_cons_zero, List.set_cons_succ, i64_w, i32_w]
              rfl
            refine one_ (i := 9) (N := some 143) #[true, true, true, true, true, true, true, true, true, true, false, false, false, false] rfl rfl (by kernel_rfl) (by decide) (fun K hK => ?_)
            refine goes_ Tryd.func50 (by kernel_rfl) rfl #[.slice (some ⟨B 1 k, 0, none⟩) (sizeN g) (sizeN g), .slice (some ⟨B 0 kk, 0, none⟩) (sizeN g) (sizeN g), .slice (some ⟨gN, 0, none⟩) (sizeN g) (sizeN g)] (by rfl) rfl rfl (by simp only [List.map_toArray, List.map_cons, List.map_nil]; rfl) ?_
            with_reducible refine ((HSTA.out.below (below_drew (Below.refl _ _))).join_outB k kk hlt hkk true HJQ.out).mono ?_
            rintro e w8 ⟨rfl, hs8, hk8⟩
            refine ⟨_, rfl, ?_⟩
            refine hK.out _ _ ⟨(hs8.b.st.cell 1 k (by decide) hlt), (hs8.b.st.cell 0 kk (by decide) hkk)⟩ (fun hHeld => ?_)
            clear hK K
            refine norm_ (a' := ?_) ?_ ?_
            rotate_left
            · show Act.put _ (some 143) _ = _
              simp only [Act.put, List.setIfInBounds_toArray, List.set_cons_zero, List.set_cons_succ, i64_w, i32_w]
              rfl
            refine pure_ (i := 10) (N := some 144) (v := ?_) (a' := ?_) #[true, true, true, true, true, true, true, true, true, true, true, false, false, false] rfl rfl (by kernel_rfl) (fun _ _ _ h => h) (Or.inl ⟨by rfl, ?_⟩) ?_ ?_
            rotate_left
            · intro w'
              go_simp
              with_reducible rfl
            rotate_left
            · simp only [Act.put, List.setIfInBounds_toArray, List.set_cons_zero, List.set_cons_succ, i64_w, i32_w]
              rfl
            refine pure_ (i := 11) (N := some 145) (v := undef) (a' := ?_) #[true, true, true, true, true, true, true, true, true, true, true, true, false, false] rfl rfl (by kernel_rfl) (fun _ _ _ h => h) (Or.inr ⟨by rfl, rfl⟩) ?_ ?_
            rotate_left
            · simp only [Act.put, List.setIfInBounds_toArray, List.set_cons_zero, List.set_cons_succ, i64_w, i32_w]
              rfl
            refine pure_ (i := 12) (N := some 146) (v := ?_) (a' := ?_) #[true, true, true, true, true, true, true, true, true, true, true, true, true, false] rfl rfl (by kernel_rfl) (fun _ _ _ h => h) (Or.inl ⟨by rfl, ?_⟩) ?_ ?_
            rotate_left
            · intro w'
              go_simp
              with_reducible rfl
            rotate_left
            · simp only [Act.put, List.setIfInBounds_toArray, List.set_cons_zero, List.set_cons_succ, i64_w, i32_w]
              rfl
            refine pure_ (i := 13) (N := some 18) (v := ?_) (a' := ?_) #[true, true, true, true, true, true, true, true, true, true, true, true, true, true] rfl rfl (by kernel_rfl) (fun _ _ _ h => h) (Or.inl ⟨by rfl, ?_⟩) ?_ ?_
            rotate_left
            · intro w'
              go_simp
              with_reducible rfl
            rotate_left
            · simp only [Act.put, List.setIfInBounds_toArray, List.set_cons_zero, List.set_cons_succ, i64_w, i32_w]
              rfl
            refine done_ (by kernel_rfl) ?_
            have HSTA8 := Aside0.mk hs8
            have HRK8 := Aside0.mk (Kd.R_kept (Kd.R_drew HRK.out) hk8 (fun b h1 h2 => absurd (HLT.out 1 k (by decide) hlt) (by omega)))
            clear hs8 hk8 e0 e1
            go_wp2
            go_roundw
            case rel => exact ⟨j + 1, by omega, by go_num, _, _, rfl, HNN2, ⟨by have h9 := HSTA8.out; rw [HRQ.out, List.set_set] at h9; exact h9⟩, HRK8⟩
            case measure => (simp [intOf]; try omega)
          | false =>
            simp only [Bool.false_or] at hN
            have HNN2 := Aside0.mk hN
            clear hN
            go_upto_region 33 with (fail)
            have e1 := HSTA.out.b.st.cell 1 k (by decide) hlt
            have e0 := HSTA.out.b.st.cell 0 kk (by decide) hkk
            refine start_ (n := 14) (S := fun w' => w'.cell? ⟨G 1, k, none⟩ = some (.slice (some ⟨B 1 k, 0, none⟩) (sizeN g) (sizeN g)) ∧ w'.cell? ⟨G 0, kk, none⟩ = some (.slice (some ⟨B 0 kk, 0, none⟩) (sizeN g) (sizeN g))) (ds := []) #[false, false, false, false, false, false, false, false, false, false, false, false, false, false] (by kernel_rfl) rfl rfl ⟨(pw_cell_below (below_drew (Below.refl _ _)) e1), (pw_cell_below (below_drew (Below.refl _ _)) e0)⟩ (fun hHeld => ?_)
            refine pure_ (i := 0) (N := some 134) (v := ?_) (a' := ?_) #[true, false, false, false, false, false, false, false, false, false, false, false, false, false] rfl rfl (by kernel_rfl) (fun _ _ _ h => h) (Or.inl ⟨by rfl, ?_⟩) ?_ ?_
            rotate_left
            · intro w'
              go_simp
              with_reducible rfl
            rotate_left
            · simp only [Act.put, List.setIfInBounds_toArray, List.set_cons_zero, List.set_cons_succ, i64_w, i32_w]
              rfl
            refine pure_ (i := 1) (N := some 135) (v := ?_) (a' := ?_) #[true, true, false, false, false, false, false, false, false, false, false, false, false, false] rfl rfl (by kernel_rfl) (fun _ _ _ h => h) (Or.inl ⟨by rfl, ?_⟩) ?_ ?_
            rotate_left
            · intro w'
              go_simp
              with_reducible rfl
            rotate_left
            · simp only [Act.put, List.setIfInBounds_toArray, List.set_cons_zero, List.set_cons_succ, i64_w, i32_w]
              rfl
            refine pure_ (i := 2) (N := some 136) (v := ?_) (a' := ?_) #[true, true, true, false, false, false, false, false, false, false, false, false, false, false] rfl rfl (by kernel_rfl) (fun _ _ _ h => h) (Or.inl ⟨by rfl, ?_⟩) ?_ ?_
            rotate_left
            · intro w'
              go_simp
              with_reducible rfl
            rotate_left
            · simp only [Act.put, List.setIfInBounds_toArray, List.set_cons_zero, List.set_cons_succ, i64_w, i32_w]
              rfl
            refine pure_ (i := 4) (N := some 138) (v := ?_) (a' := ?_) #[true, true, true, false, true, false, false, false, false, false, false, false, false, false] rfl rfl (by kernel_rfl) (fun _ _ _ h => h) (Or.inl ⟨by rfl, ?_⟩) ?_ ?_
            rotate_left
            · intro w'
              go_simp
              with_reducible rfl
            rotate_left
            · simp only [Act.put, List.setIfInBounds_toArray, List.set_cons_zero, List.set_cons_succ, i64_w, i32_w]
              rfl
            refine pure_ (i := 5) (N := some 139) (v := ?_) (a' := ?_) #[true, true, true, false, true, true, false, false, false, false, false, false, false, false] rfl rfl (by kernel_rfl) (fun _ _ _ h => h) (Or.inl ⟨by rfl, ?_⟩) ?_ ?_
            rotate_left
            · intro w'
              go_simp
              with_reducible rfl
            rotate_left
            · simp only [Act.put, List.setIfInBounds_toArray, List.set_cons_zero, List.set_cons_succ, i64_w, i32_w]
              rfl
            refine pure_ (i := 6) (N := some 140) (v := ?_) (a' := ?_) #[true, true, true, false, true, true, true, false, false, false, false, false, false, false] rfl rfl (by kernel_rfl) (fun _ _ _ h => h) (Or.inl ⟨by rfl, ?_⟩) ?_ ?_
            rotate_left
            · intro w'
              go_simp
              with_reducible rfl
            rotate_left
            · simp only [Act.put, List.setIfInBounds_toArray, List.set_cons_zero, List.set_cons_succ, i64_w, i32_w]
              rfl
            refine pure_ (i := 8) (N := some 142) (v := ?_) (a' := ?_) #[true, true, true, false, true, true, true, false, true, false, false, false, false, false] rfl rfl (by kernel_rfl) (fun _ _ _ h => h) (Or.inl ⟨by rfl, ?_⟩) ?_ ?_
            rotate_left
            · intro w'
              go_simp
              with_reducible rfl
            rotate_left
            · simp only [Act.put, List.setIfInBounds_toArray, List.set_cons_zero, List.set_cons_succ, i64_w, i32_w]
              rfl
            refine take_ (i := 3) (N := some 137) (v := ?_) (a' := ?_) #[true, true, true, true, true, true, true, false, true, false, false, false, false, false] rfl rfl (by kernel_rfl) (fun _ _ _ h => h) (Or.inl ⟨by rfl, ?_⟩) hHeld ?_ ?_
            rotate_left
            · rintro w' ⟨s0, s1⟩
              go_simp
              with_reducible rfl
            rotate_left
            · simp only [Act.put, List.setIfInBounds_toArray, List.set_cons_zero, List.set_cons_succ, i64_w, i32_w]
              rfl
            refine take_ (i := 7) (N := some 141) (v := ?_) (a' := ?_) #[true, true, true, true, true, true, true, true, true, false, false, false, false, false] rfl rfl (by kernel_rfl) (fun _ _ _ h => h) (Or.inl ⟨by rfl, ?_⟩) hHeld ?_ ?_
            rotate_left
            · rintro w' ⟨s0, s1⟩
              go_simp
              with_reducible rfl
            rotate_left
            · simp only [Act.put, List.setIfInBounds_toArray, List.set_cons_zero, List.set_cons_succ, i64_w, i32_w]
              rfl
            refine one_ (i := 9) (N := some 143) #[true, true, true, true, true, true, true, true, true, true, false, false, false, false] rfl rfl (by kernel_rfl) (by decide) (fun K hK => ?_)
            refine goes_ Tryd.func50 (by kernel_rfl) rfl #[.slice (some ⟨B 1 k, 0, none⟩) (sizeN g) (sizeN g), .slice (some ⟨B 0 kk, 0, none⟩) (sizeN g) (sizeN g), .slice (some ⟨gN, 0, none⟩) (sizeN g) (sizeN g)] (by rfl) rfl rfl (by simp only [List.map_toArray, List.map_cons, List.map_nil]; rfl) ?_
            with_reducible refine ((HSTA.out.below (below_drew (Below.refl _ _))).join_outB k kk hlt hkk false HJQ.out).mono ?_
            rintro e w8 ⟨rfl, hs8, hk8⟩
            refine ⟨_, rfl, ?_⟩
            refine hK.out _ _ ⟨(hs8.b.st.cell 1 k (by decide) hlt), (hs8.b.st.cell 0 kk (by decide) hkk)⟩ (fun hHeld => ?_)
            clear hK K
            refine norm_ (a' := ?_) ?_ ?_
            rotate_left
            · show Act.put _ (some 143) _ = _
              simp only [Act.put, List.setIfInBounds_toArray, List.set_cons_zero, List.set_cons_succ, i64_w, i32_w]
              rfl
            refine pure_ (i := 10) (N := some 144) (v := ?_) (a' := ?_) #[true, true, true, true, true, true, true, true, true, true, true, false, false, false] rfl rfl (by kernel_rfl) (fun _ _ _ h => h) (Or.inl ⟨by rfl, ?_⟩) ?_ ?_
            rotate_left
            · intro w'
              go_simp
              with_reducible rfl
            rotate_left
            · simp only [Act.put, List.setIfInBounds_toArray, List.set_cons_zero, List.set_cons_succ, i64_w, i32_w]
              rfl
            refine pure_ (i := 11) (N := some 145) (v := ?_) (a' := ?_) #[true, true, true, true, true, true, true, true, true, true, true, true, false, false] rfl rfl (by kernel_rfl) (fun _ _ _ h => h) (Or.inl ⟨by rfl, ?_⟩) ?_ ?_
            rotate_left
            · intro w'
              go_simp
              with_reducible rfl
            rotate_left
            · simp only [Act.put, List.setIfInBounds_toArray, List.set_cons_zero, List.set_cons_succ, i64_w, i32_w]
              rfl
            refine pure_ (i := 12) (N := some 146) (v := ?_) (a' := ?_) #[true, true, true, true, true, true, true, true, true, true, true, true, true, false] rfl rfl (by kernel_rfl) (fun _ _ _ h => h) (Or.inl ⟨by rfl, ?_⟩) ?_ ?_
            rotate_left
            · intro w'
              go_simp
              with_reducible rfl
            rotate_left
            · simp only [Act.put, List.setIfInBounds_toArray, List.set_cons_zero, List.set_cons_succ, i64_w, i32_w]
              rfl
            refine pure_ (i := 13) (N := some 18) (v := ?_) (a' := ?_) #[true, true, true, true, true, true, true, true, true, true, true, true, true, true] rfl rfl (by kernel_rfl) (fun _ _ _ h => h) (Or.inl ⟨by rfl, ?_⟩) ?_ ?_
            rotate_left
            · intro w'
              go_simp
              with_reducible rfl
            rotate_left
            · simp only [Act.put, List.setIfInBounds_toArray, List.set_cons_zero, List.set_cons_succ, i64_w, i32_w]
              rfl
            refine done_ (by kernel_rfl) ?_
            have HSTA8 := Aside0.mk hs8
            have HRK8 := Aside0.mk (Kd.R_kept (Kd.R_drew HRK.out) hk8 (fun b h1 h2 => absurd (HLT.out 1 k (by decide) hlt) (by omega)))
            clear hs8 hk8 e0 e1
            go_wp2
            go_roundw
            case rel => exact ⟨j + 1, by omega, by go_num, _, _, rfl, HNN2, ⟨by have h9 := HSTA8.out; rw [HRQ.out, List.set_set] at h9; exact h9⟩, HRK8⟩
            case measure => (simp [intOf]; try omega)
        · obtain rfl : j = ks.length := by omega
          have hN := HN.out
          rw [List.drop_length, nextJ] at hN
          have hP := HP.out
          rw [← hN] at hP
          simp only at hP
          have hiln : (rd_L2 I (k : Int)).length = sizeN g := R_len (HSTA.out.b.st.own 0 k (by decide) hlt)
          obtain ⟨jq, hjq⟩ : ∃ jq, joinQ (rd_L2 I (k : Int)) q (rd_L2 (does0 g) (k : Int)) (sizeN g) = jq := ⟨_, rfl⟩
          rw [hiln, hjq] at hP
          have HJQ := Aside0.mk (show joinQ (rd_L2 I (k : Int)) (rd_L2 (O.set k q) (k : Int)) (rd_L2 (does0 g) (k : Int)) (sizeN g) = jq by rw [HRQ.out]; exact hjq)
          clear hN hiln hjq HN HP
          cases jq with
          | true =>
            simp only [Bool.true_or] at hP
            have HPP := Aside0.mk (show passJ g.f5 (does0 g) (zerosG (sizeN g)) k (I.set k (joinP (rd_L2 I (k : Int)) (rd_L2 (O.set k q) (k : Int)) (rd_L2 (does0 g) (k : Int)) (sizeN g)), O.set k q, true) = resP by rw [HRQ.out]; exact hP)
            clear hP
            go_upto_region 35 with (fail)
            have e0 := HSTA.out.b.st.cell 0 k (by decide) hlt
            have e1 := HSTA.out.b.st.cell 1 k (by decide) hlt
            have e2 := HSTA.out.b.st.cell 2 k (by decide) hlt
            refine start_ (n := 17) (S := fun w' => w'.cell? ⟨G 0, k, none⟩ = some (.slice (some ⟨B 0 k, 0, none⟩) (sizeN g) (sizeN g)) ∧ w'.cell? ⟨G 1, k, none⟩ = some (.slice (some ⟨B 1 k, 0, none⟩) (sizeN g) (sizeN g)) ∧ w'.cell? ⟨G 2, k, none⟩ = some (.slice (some ⟨B 2 k, 0, none⟩) (sizeN g) (sizeN g))) (ds := []) #[false, false, false, false, false, false, false, false, false, false, false, false, false, false, false, false, false] (by kernel_rfl) rfl rfl ⟨(pw_cell_below (below_drew (Below.refl _ _)) e0), (pw_cell_below (below_drew (Below.refl _ _)) e1), (pw_cell_below (below_drew (Below.refl _ _)) e2)⟩ (fun hHeld => ?_)
            refine pure_ (i := 0) (N := some 148) (v := ?_) (a' := ?_) #[true, false, false, false, false, false, false, false, false, false, false, false, false, false, false, false, false] rfl rfl (by kernel_rfl) (fun _ _ _ h => h) (Or.inl ⟨by rfl, ?_⟩) ?_ ?_
            rotate_left
            · intro w'
              go_simp
              with_reducible rfl
            rotate_left
            · simp only [Act.put, List.setIfInBounds_toArray, List.set_cons_zero, List.set_cons_succ, i64_w, i32_w]
              rfl
            refine pure_ (i := 1) (N := some 149) (v := ?_) (a' := ?_) #[true, true, false, false, false, false, false, false, false, false, false, false, false, false, false, false, false] rfl rfl (by kernel_rfl) (fun _ _ _ h => h) (Or.inl ⟨by rfl, ?_⟩) ?_ ?_
            rotate_left
            · intro w'
              go_simp
              with_reducible rfl
            rotate_left
            · simp only [Act.put, List.setIfInBounds_toArray, List.set_cons_zero, List.set_cons_succ, i64_w, i32_w]
              rfl
            refine pure_ (i := 2) (N := some 150) (v := ?_) (a' := ?_) #[true, true, true, false, false, false, false, false, false, false, false, false, false, false, false, false, false] rfl rfl (by kernel_rfl) (fun _ _ _ h => h) (Or.inl ⟨by rfl, ?_⟩) ?_ ?_
            rotate_left
            · intro w'
              go_simp
              with_reducible rfl
            rotate_left
            · simp only [Act.put, List.setIfInBounds_toArray, List.set_cons_zero, List.set_cons_succ, i64_w, i32_w]
              rfl
            refine pure_ (i := 4) (N := some 152) (v := ?_) (a' := ?_) #[true, true, true, false, true, false, false, false, false, false, false, false, false, false, false, false, false] rfl rfl (by kernel_rfl) (fun _ _ _ h => h) (Or.inl ⟨by rfl, ?_⟩) ?_ ?_
            rotate_left
            · intro w'
              go_simp
              with_reducible rfl
            rotate_left
            · simp only [Act.put, List.setIfInBounds_toArray, List.set_cons_zero, List.set_cons_succ, i64_w, i32_w]
              rfl
            refine pure_ (i := 5) (N := some 153) (v := ?_) (a' := ?_) #[true, true, true, false, true, true, false, false, false, false, false, false, false, false, false, false, false] rfl rfl (by kernel_rfl) (fun _ _ _ h => h) (Or.inl ⟨by rfl, ?_⟩) ?_ ?_
            rotate_left
            · intro w'
              go_simp
              with_reducible rfl
            rotate_left
            · simp only [Act.put, List.setIfInBounds_toArray, List.set_cons_zero, List.set_cons_succ, i64_w, i32_w]
              rfl
            refine pure_ (i := 6) (N := some 154) (v := ?_) (a' := ?_) #[true, true, true, false, true, true, true, false, false, false, false, false, false, false, false, false, false] rfl rfl (by kernel_rfl) (fun _ _ _ h => h) (Or.inl ⟨by rfl, ?_⟩) ?_ ?_
            rotate_left
            · intro w'
              go_simp
              with_reducible rfl
            rotate_left
            · simp only [Act.put, List.setIfInBounds_toArray, List.set_cons_zero, List.set_cons_succ, i64_w, i32_w]
              rfl
            refine pure_ (i := 8) (N := some 156) (v := ?_) (a' := ?_) #[true, true, true, false, true, true, true, false, true, false, false, false, false, false, false, false, false] rfl rfl (by kernel_rfl) (fun _ _ _ h => h) (Or.inl ⟨by rfl, ?_⟩) ?_ ?_
            rotate_left
            · intro w'
              go_simp
              with_reducible rfl
            rotate_left
            · simp only [Act.put, List.setIfInBounds_toArray, List.set_cons_zero, List.set_cons_succ, i64_w, i32_w]
              rfl
            refine pure_ (i := 9) (N := some 157) (v := ?_) (a' := ?_) #[true, true, true, false, true, true, true, false, true, true, false, false, false, false, false, false, false] rfl rfl (by kernel_rfl) (fun _ _ _ h => h) (Or.inl ⟨by rfl, ?_⟩) ?_ ?_
            rotate_left
            · intro w'
              go_simp
              with_reducible rfl
            rotate_left
            · simp only [Act.put, List.setIfInBounds_toArray, List.set_cons_zero, List.set_cons_succ, i64_w, i32_w]
              rfl
            refine pure_ (i := 10) (N := some 158) (v := ?_) (a' := ?_) #[true, true, true, false, true, true, true, false, true, true, true, false, false, false, false, false, false] rfl rfl (by kernel_rfl) (fun _ _ _ h => h) (Or.inl ⟨by rfl, ?_⟩) ?_ ?_
            rotate_left
            · intro w'
              go_simp
              with_reducible rfl
            rotate_left
            · simp only [Act.put, List.setIfInBounds_toArray, List.set_cons_zero, List.set_cons_succ, i64_w, i32_w]
              rfl
            refine take_ (i := 3) (N := some 151) (v := ?_) (a' := ?_) #[true, true, true, true, true, true, true, false, true, true, true, false, false, false, false, false, false] rfl rfl (by kernel_rfl) (fun _ _ _ h => h) (Or.inl ⟨by rfl, ?_⟩) hHeld ?_ ?_
            rotate_left
            · rintro w' ⟨s0, s1, s2⟩
              go_simp
              with_reducible rfl
            rotate_left
            · simp only [Act.put, List.setIfInBounds_toArray, List.set_cons_zero, List.set_cons_succ, i64_w, i32_w]
              rfl
            refine take_ (i := 7) (N := some 155) (v := ?_) (a' := ?_) #[true, true, true, true, true, true, true, true, true, true, true, false, false, false, false, false, false] rfl rfl (by kernel_rfl) (fun _ _ _ h => h) (Or.inl ⟨by rfl, ?_⟩) hHeld ?_ ?_
            rotate_left
            · rintro w' ⟨s0, s1, s2⟩
              go_simp
              with_reducible rfl
            rotate_left
            · simp only [Act.put, List.setIfInBounds_toArray, List.set_cons_zero, List.set_cons_succ, i64_w, i32_w]
              rfl
            refine take_ (i := 11) (N := some 159) (v := ?_) (a' := ?_) #[true, true, true, true, true, true, true, true, true, true, true, true, false, false, false, false, false] rfl rfl (by kernel_rfl) (fun _ _ _ h => h) (Or.inl ⟨by rfl, ?_⟩) hHeld ?_ ?_
            rotate_left
            · rintro w' ⟨s0, s1, s2⟩
              go_simp
              with_reducible rfl
            rotate_left
            · simp only [Act.put, List.setIfInBounds_toArray, List.set_cons_zero, List.set_cons_succ, i64_w, i32_w]
              rfl
            refine one_ (i := 12) (N := some 160) #[true, true, true, true, true, true, true, true, true, true, true, true, true, false, false, false, false] rfl rfl (by kernel_rfl) (by decide) (fun K hK => ?_)
            refine goes_ Tryd.func50 (by kernel_rfl) rfl #[.slice (some ⟨B 0 k, 0, none⟩) (sizeN g) (sizeN g), .slice (some ⟨B 1 k, 0, none⟩) (sizeN g) (sizeN g), .slice (some ⟨B 2 k, 0, none⟩) (sizeN g) (sizeN g)] (by rfl) rfl rfl (by simp only [List.map_toArray, List.map_cons, List.map_nil]; rfl) ?_
            with_reducible refine ((HSTA.out.below (below_drew (Below.refl _ _))).join_intoB k hlt true HJQ.out).mono ?_
            rintro e w8 ⟨rfl, hs8, hk8⟩
            refine ⟨_, rfl, ?_⟩
            refine hK.out _ _ ⟨(hs8.b.st.cell 0 k (by decide) hlt), (hs8.b.st.cell 1 k (by decide) hlt), (hs8.b.st.cell 2 k (by decide) hlt)⟩ (fun hHeld => ?_)
            clear hK K
            refine norm_ (a' := ?_) ?_ ?_
            rotate_left
            · show Act.put _ (some 160) _ = _
              simp only [Act.put, List.setIfInBounds_toArray, List.set_cons_zero, List.set_cons_succ, i64_w, i32_w]
              rfl
            refine pure_ (i := 13) (N := some 161) (v := ?_) (a' := ?_) #[true, true, true, true, true, true, true, true, true, true, true, true, true, true, false, false, false] rfl rfl (by kernel_rfl) (fun _ _ _ h => h) (Or.inl ⟨by rfl, ?_⟩) ?_ ?_
            rotate_left
            · intro w'
              go_simp
              with_reducible rfl
            rotate_left
            · simp only [Act.put, List.setIfInBounds_toArray, List.set_cons_zero, List.set_cons_succ, i64_w, i32_w]
              rfl
            refine pure_ (i := 14) (N := some 162) (v := undef) (a' := ?_) #[true, true, true, true, true, true, true, true, true, true, true, true, true, true, true, false, false] rfl rfl (by kernel_rfl) (fun _ _ _ h => h) (Or.inr ⟨by rfl, rfl⟩) ?_ ?_
            rotate_left
            · simp only [Act.put, List.setIfInBounds_toArray, List.set_cons_zero, List.set_cons_succ, i64_w, i32_w]
              rfl
            refine pure_ (i := 15) (N := some 163) (v := ?_) (a' := ?_) #[true, true, true, true, true, true, true, true, true, true, true, true, true, true, true, true, false] rfl rfl (by kernel_rfl) (fun _ _ _ h => h) (Or.inl ⟨by rfl, ?_⟩) ?_ ?_
            rotate_left
            · intro w'
              go_simp
              with_reducible rfl
            rotate_left
            · simp only [Act.put, List.setIfInBounds_toArray, List.set_cons_zero, List.set_cons_succ, i64_w, i32_w]
              rfl
            refine pure_ (i := 16) (N := some 18) (v := ?_) (a' := ?_) #[true, true, true, true, true, true, true, true, true, true, true, true, true, true, true, true, true] rfl rfl (by kernel_rfl) (fun _ _ _ h => h) (Or.inl ⟨by rfl, ?_⟩) ?_ ?_
            rotate_left
            · intro w'
              go_simp
              with_reducible rfl
            rotate_left
            · simp only [Act.put, List.setIfInBounds_toArray, List.set_cons_zero, List.set_cons_succ, i64_w, i32_w]
              rfl
            refine done_ (by kernel_rfl) ?_
            have HSTA8 := Aside0.mk hs8
            clear hs8 hk8 e0 e1 e2
            go_wp2
            go_roundw
            case rel => exact ⟨k, by omega, by go_num, _, _, _, rfl, HPP, HSTA8⟩
            case measure => (simp [intOf]; try omega)
          | false =>
            simp only [Bool.false_or] at hP
            have HPP := Aside0.mk (show passJ g.f5 (does0 g) (zerosG (sizeN g)) k (I.set k (joinP (rd_L2 I (k : Int)) (rd_L2 (O.set k q) (k : Int)) (rd_L2 (does0 g) (k : Int)) (sizeN g)), O.set k q, ch') = resP by rw [HRQ.out]; exact hP)
            clear hP
            go_upto_region 35 with (fail)
            have e0 := HSTA.out.b.st.cell 0 k (by decide) hlt
            have e1 := HSTA.out.b.st.cell 1 k (by decide) hlt
            have e2 := HSTA.out.b.st.cell 2 k (by decide) hlt
            refine start_ (n := 17) (S := fun w' => w'.cell? ⟨G 0, k, none⟩ = some (.slice (some ⟨B 0 k, 0, none⟩) (sizeN g) (sizeN g)) ∧ w'.cell? ⟨G 1, k, none⟩ = some (.slice (some ⟨B 1 k, 0, none⟩) (sizeN g) (sizeN g)) ∧ w'.cell? ⟨G 2, k, none⟩ = some (.slice (some ⟨B 2 k, 0, none⟩) (sizeN g) (sizeN g))) (ds := []) #[false, false, false, false, false, false, false, false, false, false, false, false, false, false, false, false, false] (by kernel_rfl) rfl rfl ⟨(pw_cell_below (below_drew (Below.refl _ _)) e0), (pw_cell_below (below_drew (Below.refl _ _)) e1), (pw_cell_below (below_drew (Below.refl _ _)) e2)⟩ (fun hHeld => ?_)
            refine pure_ (i := 0) (N := some 148) (v := ?_) (a' := ?_) #[true, false, false, false, false, false, false, false, false, false, false, false, false, false, false, false, false] rfl rfl (by kernel_rfl) (fun _ _ _ h => h) (Or.inl ⟨by rfl, ?_⟩) ?_ ?_
            rotate_left
            · intro w'
              go_simp
              with_reducible rfl
            rotate_left
            · simp only [Act.put, List.setIfInBounds_toArray, List.set_cons_zero, List.set_cons_succ, i64_w, i32_w]
              rfl
            refine pure_ (i := 1) (N := some 149) (v := ?_) (a' := ?_) #[true, true, false, false, false, false, false, false, false, false, false, false, false, false, false, false, false] rfl rfl (by kernel_rfl) (fun _ _ _ h => h) (Or.inl ⟨by rfl, ?_⟩) ?_ ?_
            rotate_left
            · intro w'
              go_simp
              with_reducible rfl
            rotate_left
            · simp only [Act.put, List.setIfInBounds_toArray, List.set_cons_zero, List.set_cons_succ, i64_w, i32_w]
              rfl
            refine pure_ (i := 2) (N := some 150) (v := ?_) (a' := ?_) #[true, true, true, false, false, false, false, false, false, false, false, false, false, false, false, false, false] rfl rfl (by kernel_rfl) (fun _ _ _ h => h) (Or.inl ⟨by rfl, ?_⟩) ?_ ?_
            rotate_left
            · intro w'
              go_simp
              with_reducible rfl
            rotate_left
            · simp only [Act.put, List.setIfInBounds_toArray, List.set_cons_zero, List.set_cons_succ, i64_w, i32_w]
              rfl
            refine pure_ (i := 4) (N := some 152) (v := ?_) (a' := ?_) #[true, true, true, false, true, false, false, false, false, false, false, false, false, false, false, false, false] rfl rfl (by kernel_rfl) (fun _ _ _ h => h) (Or.inl ⟨by rfl, ?_⟩) ?_ ?_
            rotate_left
            · intro w'
              go_simp
              with_reducible rfl
            rotate_left
            · simp only [Act.put, List.setIfInBounds_toArray, List.set_cons_zero, List.set_cons_succ, i64_w, i32_w]
              rfl
            refine pure_ (i := 5) (N := some 153) (v := ?_) (a' := ?_) #[true, true, true, false, true, true, false, false, false, false, false, false, false, false, false, false, false] rfl rfl (by kernel_rfl) (fun _ _ _ h => h) (Or.inl ⟨by rfl, ?_⟩) ?_ ?_
            rotate_left
            · intro w'
              go_simp
              with_reducible rfl
            rotate_left
            · simp only [Act.put, List.setIfInBounds_toArray, List.set_cons_zero, List.set_cons_succ, i64_w, i32_w]
              rfl
            refine pure_ (i := 6) (N := some 154) (v := ?_) (a' := ?_) #[true, true, true, false, true, true, true, false, false, false, false, false, false, false, false, false, false] rfl rfl (by kernel_rfl) (fun _ _ _ h => h) (Or.inl ⟨by rfl, ?_⟩) ?_ ?_
            rotate_left
            · intro w'
              go_simp
              with_reducible rfl
            rotate_left
            · simp only [Act.put, List.setIfInBounds_toArray, List.set_cons_zero, List.set_cons_succ, i64_w, i32_w]
              rfl
            refine pure_ (i := 8) (N := some 156) (v := ?_) (a' := ?_) #[true, true, true, false, true, true, true, false, true, false, false, false, false, false, false, false, false] rfl rfl (by kernel_rfl) (fun _ _ _ h => h) (Or.inl ⟨by rfl, ?_⟩) ?_ ?_
            rotate_left
            · intro w'
              go_simp
              with_reducible rfl
            rotate_left
            · simp only [Act.put, List.setIfInBounds_toArray, List.set_cons_zero, List.set_cons_succ, i64_w, i32_w]
              rfl
            refine pure_ (i := 9) (N := some 157) (v := ?_) (a' := ?_) #[true, true, true, false, true, true, true, false, true, true, false, false, false, false, false, false, false] rfl rfl (by kernel_rfl) (fun _ _ _ h => h) (Or.inl ⟨by rfl, ?_⟩) ?_ ?_
            rotate_left
            · intro w'
              go_simp
              with_reducible rfl
            rotate_left
            · simp only [Act.put, List.setIfInBounds_toArray, List.set_cons_zero, List.set_cons_succ, i64_w, i32_w]
              rfl
            refine pure_ (i := 10) (N := some 158) (v := ?_) (a' := ?_) #[true, true, true, false, true, true, true, false, true, true, true, false, false, false, false, false, false] rfl rfl (by kernel_rfl) (fun _ _ _ h => h) (Or.inl ⟨by rfl, ?_⟩) ?_ ?_
            rotate_left
            · intro w'
              go_simp
              with_reducible rfl
            rotate_left
            · simp only [Act.put, List.setIfInBounds_toArray, List.set_cons_zero, List.set_cons_succ, i64_w, i32_w]
              rfl
            refine take_ (i := 3) (N := some 151) (v := ?_) (a' := ?_) #[true, true, true, true, true, true, true, false, true, true, true, false, false, false, false, false, false] rfl rfl (by kernel_rfl) (fun _ _ _ h => h) (Or.inl ⟨by rfl, ?_⟩) hHeld ?_ ?_
            rotate_left
            · rintro w' ⟨s0, s1, s2⟩
              go_simp
              with_reducible rfl
            rotate_left
            · simp only [Act.put, List.setIfInBounds_toArray, List.set_cons_zero, List.set_cons_succ, i64_w, i32_w]
              rfl
            refine take_ (i := 7) (N := some 155) (v := ?_) (a' := ?_) #[true, true, true, true, true, true, true, true, true, true, true, false, false, false, false, false, false] rfl rfl (by kernel_rfl) (fun _ _ _ h => h) (Or.inl ⟨by rfl, ?_⟩) hHeld ?_ ?_
            rotate_left
            · rintro w' ⟨s0, s1, s2⟩
              go_simp
              with_reducible rfl
            rotate_left
            · simp only [Act.put, List.setIfInBounds_toArray, List.set_cons_zero, List.set_cons_succ, i64_w, i32_w]
              rfl
            refine take_ (i := 11) (N := some 159) (v := ?_) (a' := ?_) #[true, true, true, true, true, true, true, true, true, true, true, true, false, false, false, false, false] rfl rfl (by kernel_rfl) (fun _ _ _ h => h) (Or.inl ⟨by rfl, ?_⟩) hHeld ?_ ?_
            rotate_left
            · rintro w' ⟨s0, s1, s2⟩
              go_simp
              with_reducible rfl
            rotate_left
            · simp only [Act.put, List.setIfInBounds_toArray, List.set_cons_zero, List.set_cons_succ, i64_w, i32_w]
              rfl
            refine one_ (i := 12) (N := some 160) #[true, true, true, true, true, true, true, true, true, true, true, true, true, false, false, false, false] rfl rfl (by kernel_rfl) (by decide) (fun K hK => ?_)
            refine goes_ Tryd.func50 (by kernel_rfl) rfl #[.slice (some ⟨B 0 k, 0, none⟩) (sizeN g) (sizeN g), .slice (some ⟨B 1 k, 0, none⟩) (sizeN g) (sizeN g), .slice (some ⟨B 2 k, 0, none⟩) (sizeN g) (sizeN g)] (by rfl) rfl rfl (by simp only [List.map_toArray, List.map_cons, List.map_nil]; rfl) ?_
            with_reducible refine ((HSTA.out.below (below_drew (Below.refl _ _))).join_intoB k hlt false HJQ.out).mono ?_
            rintro e w8 ⟨rfl, hs8, hk8⟩
            refine ⟨_, rfl, ?_⟩
            refine hK.out _ _ ⟨(hs8.b.st.cell 0 k (by decide) hlt), (hs8.b.st.cell 1 k (by decide) hlt), (hs8.b.st.cell 2 k (by decide) hlt)⟩ (fun hHeld => ?_)
            clear hK K
            refine norm_ (a' := ?_) ?_ ?_
            rotate_left
            · show Act.put _ (some 160) _ = _
              simp only [Act.put, List.setIfInBounds_toArray, List.set_cons_zero, List.set_cons_succ, i64_w, i32_w]
              rfl
            refine pure_ (i := 13) (N := some 161) (v := ?_) (a' := ?_) #[true, true, true, true, true, true, true, true, true, true, true, true, true, true, false, false, false] rfl rfl (by kernel_rfl) (fun _ _ _ h => h) (Or.inl ⟨by rfl, ?_⟩) ?_ ?_
            rotate_left
            · intro w'
              go_simp
              with_reducible rfl
            rotate_left
            · simp only [Act.put, List.setIfInBounds_toArray, List.set_cons_zero, List.set_cons_succ, i64_w, i32_w]
              rfl
            refine pure_ (i := 14) (N := some 162) (v := ?_) (a' := ?_) #[true, true, true, true, true, true, true, true, true, true, true, true, true, true, true, false, false] rfl rfl (by kernel_rfl) (fun _ _ _ h => h) (Or.inl ⟨by rfl, ?_⟩) ?_ ?_
            rotate_left
            · intro w'
              go_simp
              with_reducible rfl
            rotate_left
            · simp only [Act.put, List.setIfInBounds_toArray, List.set_cons_zero, List.set_cons_succ, i64_w, i32_w]
              rfl
            refine pure_ (i := 15) (N := some 163) (v := ?_) (a' := ?_) #[true, true, true, true, true, true, true, true, true, true, true, true, true, true, true, true, false] rfl rfl (by kernel_rfl) (fun _ _ _ h => h) (Or.inl ⟨by rfl, ?_⟩) ?_ ?_
            rotate_left
            · intro w'
              go_simp
              with_reducible rfl
            rotate_left
            · simp only [Act.put, List.setIfInBounds_toArray, List.set_cons_zero, List.set_cons_succ, i64_w, i32_w]
              rfl
            refine pure_ (i := 16) (N := some 18) (v := ?_) (a' := ?_) #[true, true, true, true, true, true, true, true, true, true, true, true, true, true, true, true, true] rfl rfl (by kernel_rfl) (fun _ _ _ h => h) (Or.inl ⟨by rfl, ?_⟩) ?_ ?_
            rotate_left
            · intro w'
              go_simp
              with_reducible rfl
            rotate_left
            · simp only [Act.put, List.setIfInBounds_toArray, List.set_cons_zero, List.set_cons_succ, i64_w, i32_w]
              rfl
            refine done_ (by kernel_rfl) ?_
            have HSTA8 := Aside0.mk hs8
            clear hs8 hk8 e0 e1 e2
            go_wp2
            go_roundw
            case rel => exact ⟨k, by omega, by go_num, _, _, _, rfl, HPP, HSTA8⟩
            case measure => (simp [intOf]; try omega)
    | zero =>
      simp only [show ((0 : Nat) : Int) - 1 = -1 from rfl]
      have hP := HP.out
      rw [passJ] at hP
      have hL := HL.out
      cases m with
      | zero => rw [loopJ] at hL; cases hL
      | succ m =>
        rw [loopJ, HRP.out, ← hP] at hL
        simp only at hL
        clear hP HP HRP HL
        cases ch with
        | true =>
          rw [if_pos rfl] at hL
          have HL := Aside0.mk hL
          clear hL
          go_wp2
          go_step3
          exact ⟨rfl, m, Nat.lt_succ_self m, G, B, gN, (I, O), HL, HSTA, lj_frame _ _ _ _ _ _ _ rfl rfl rfl rfl rfl rfl rfl⟩
        | false =>
          rw [if_neg (by decide)] at hL
          obtain rfl := Option.some.inj hL
          clear hL
          have hbc : ∀ j : Nat, wr.cell? ⟨w.heap.size, j, none⟩ = (#[.string g.f0, .slice A1 g.f1.length c1, .int .u8 g.f2, .slice A3 g.f3.length c3, .slice A4 g.f4.length c4, .slice A5 g.f5.length c5] : Array Value)[j]? := fun j => HSTA.out.b.boxc j
          go_upto_region 37 with (fail)
          have hmk := make31 g.f5.length hN
          go_cut [22, 23] (fun s22 s23 wx => ∃ ga gb : Nat, s22 = .slice (some ⟨ga, 0, none⟩) g.f5.length g.f5.length ∧ s23 = .slice (some ⟨gb, 0, none⟩) g.f5.length g.f5.length ∧ ga ≠ gb ∧ wx.heap[ga]? = some (.cells (nils g.f5.length) 22 (0, 0)) ∧ wx.heap[gb]? = some (.cells (nils g.f5.length) 22 (0, 0)) ∧ wr.heap.size ≤ ga ∧ wr.heap.size ≤ gb ∧ Below wr.heap.size wr wx)
          case first =>
            have hq := hbc 5
            go_region_held3 (fun w' => w'.cell? ⟨w.heap.size, 5, none⟩ = some (.slice A5 g.f5.length c5)) (go_keep) (fail)
            all_goals
              go_wp2_with (fail)
              go_meet
              first
                | exact ⟨wr.heap.size, wr.heap.size + 1, rfl, rfl, by omega, dl1 _ _ _, dl2 _ _ _, Nat.le_refl _, Nat.le_succ _, below2_ _ _ _⟩
                | exact ⟨wr.heap.size + 1, wr.heap.size, rfl, rfl, by omega, dl2 _ _ _, dl1 _ _ _, Nat.le_succ _, Nat.le_refl _, below2_ _ _ _⟩
          case rest =>
            obtain ⟨ga, gb, rfl, rfl, hab, hca, hcb, hla, hlb, hbx⟩ := hcut
            have HGAB := Aside0.mk hab
            have HWL := Aside0.mk HSTA.out.b.low.size
            have HLA := Aside0.mk (Nat.le_trans HSTA.out.b.low.size hla)
            have HLB := Aside0.mk (Nat.le_trans HSTA.out.b.low.size hlb)
            have HSTA2 := Aside0.mk (HSTA.out.below hbx)
            have HRA := Aside0.mk (Rst.zero (base := w.heap.size) (nb := wc.heap.size) (I.map (listG g.f3.length)) hca)
            have HRB := Aside0.mk (Rst.zero (base := w.heap.size) (nb := wc.heap.size) (O.map (listG g.f3.length)) hcb)
            clear HSTA hab hca hcb hla hlb hbx hbc hmk
            have hbc : ∀ j : Nat, wc.cell? ⟨w.heap.size, j, none⟩ = (#[.string g.f0, .slice A1 g.f1.length c1, .int .u8 g.f2, .slice A3 g.f3.length c3, .slice A4 g.f4.length c4, .slice A5 g.f5.length c5] : Array Value)[j]? := fun j => HSTA2.out.b.boxc j
            go_wp2
            clear hbc
            go_loopw [176] (fun v176 wr => ∃ k : Nat, k ≤ g.f5.length ∧ v176 = .int .i64 k ∧ Aside0 (Sta w wr (#[.string g.f0, .slice A1 g.f1.length c1, .int .u8 g.f2, .slice A3 g.f3.length c3, .slice A4 g.f4.length c4, .slice A5 g.f5.length c5] : Array Value) G B gN I O (does0 g) g.f5.length (sizeN g)) ∧ ∃ na nb : Nat, Aside0 (Rst w.heap.size wr ga (I.map (listG g.f3.length)) g.f5.length k na) ∧ Aside0 (Rst w.heap.size wr gb (O.map (listG g.f3.length)) g.f5.length k nb)) (fun v176 _ => g.f5.length - (intOf v176).toNat)
            case atStart => exact ⟨0, Nat.zero_le _, rfl, HSTA2, _, _, HRA, HRB⟩
            case round =>
              clear HSTA2 HRA HRB
              obtain ⟨k, hk, rfl, HSTA, na, nb, HRA', HRB'⟩ := hrel
              have HRA := Aside0.mk HRA'.out.fresh
              have HRB := Aside0.mk HRB'.out.fresh
              clear HRA' HRB'
              have hlI : I.length = g.f5.length := HSTA.out.b.st.len 0 (by decide)
              have hlO : O.length = g.f5.length := HSTA.out.b.st.len 1 (by decide)
              have HLNI := Aside0.mk hlI
              have HLNO := Aside0.mk hlO
              clear hlI hlO
              by_cases hlt : k < g.f5.length
              · go_upto_region 41 with (fail)
                have e0 := HSTA.out.b.st.cell 0 k (by decide) hlt
                have e1 := HSTA.out.b.st.cell 1 k (by decide) hlt
                have e2 : wr.cell? ⟨w.heap.size, 3, none⟩ = some (.slice A3 g.f3.length c3) := HSTA.out.b.boxc 3
                have HRI := Aside0.mk (HSTA.out.b.st.own 0 k (by decide) hlt)
                have HRO := Aside0.mk (HSTA.out.b.st.own 1 k (by decide) hlt)
                have HLI := Aside0.mk (show (rd_L2 I (k : Int)).length = sizeN g from R_len HRI.out)
                have HLO := Aside0.mk (show (rd_L2 O (k : Int)).length = sizeN g from R_len HRO.out)
                have HCI := Aside0.mk (show Kd.C (Kd.int .u64) wr (some ⟨B 0 k, 0, none⟩) (rd_L2 I (k : Int)).length (rd_L2 I (k : Int)) from (Kd.R_reads' HRI.out).2.2)
                have HCO := Aside0.mk (show Kd.C (Kd.int .u64) wr (some ⟨B 1 k, 0, none⟩) (rd_L2 O (k : Int)).length (rd_L2 O (k : Int)) from (Kd.R_reads' HRO.out).2.2)
                have HNB := Aside0.mk (show sizeN g ≤ 35184372088832 by omega)
                have HNV := Aside0.mk (show g.f3.length < 64 * sizeN g by have := HSZ.out; omega)
                have HNL := Aside0.mk (show g.f3.length < 17592186044416 by omega)
                obtain ⟨ca, hga, hsa, -, -⟩ := id HRA.out
                obtain ⟨cb, hgb, hsb, -, -⟩ := id HRB.out
                refine start_ (n := 24) (S := fun w' => w'.cell? ⟨G 0, k, none⟩ = some (.slice (some ⟨B 0 k, 0, none⟩) (sizeN g) (sizeN g)) ∧ w'.cell? ⟨G 1, k, none⟩ = some (.slice (some ⟨B 1 k, 0, none⟩) (sizeN g) (sizeN g)) ∧ w'.cell? ⟨w.heap.size, 3, none⟩ = some (.slice A3 g.f3.length c3)) (ds := [21, 23]) #[false, false, false, false, false, false, false, false, false, false, false, false, false, false, false, false, false, false, false, false, false, false, false, false] (by kernel_rfl) rfl rfl ⟨(pw_cell_below (below_drew (Below.refl _ _)) e0), (pw_cell_below (below_drew (Below.refl _ _)) e1), (pw_cell_below (below_drew (Below.refl _ _)) e2)⟩ (fun hHeld => ?_)
                refine pure_ (i := 0) (N := some 179) (v := ?_) (a' := ?_) #[true, false, false, false, false, false, false, false, false, false, false, false, false, false, false, false, false, false, false, false, false, false, false, false] rfl rfl (by kernel_rfl) (fun _ _ _ h => h) (Or.inl ⟨by rfl, ?_⟩) ?_ ?_
                rotate_left
                · intro w'
                  go_simp
                  with_reducible rfl
                rotate_left
                · simp only [Act.put, List.setIfInBounds_toArray, List.set_cons_zero, List.set_cons_succ, i64_w, i32_w]
                  rfl
                refine pure_ (i := 1) (N := some 180) (v := ?_) (a' := ?_) #[true, true, false, false, false, false, false, false, false, false, false, false, false, false, false, false, false, false, false, false, false, false, false, false] rfl rfl (by kernel_rfl) (fun _ _ _ h => h) (Or.inl ⟨by rfl, ?_⟩) ?_ ?_
                rotate_left
                · intro w'
                  go_simp
                  with_reducible rfl
                rotate_left
                · simp only [Act.put, List.setIfInBounds_toArray, List.set_cons_zero, List.set_cons_succ, i64_w, i32_w]
                  rfl
                refine pure_ (i := 2) (N := some 181) (v := ?_) (a' := ?_) #[true, true, true, false, false, false, false, false, false, false, false, false, false, false, false, false, false, false, false, false, false, false, false, false] rfl rfl (by kernel_rfl) (fun _ _ _ h => h) (Or.inl ⟨by rfl, ?_⟩) ?_ ?_
                rotate_left
                · intro w'
                  go_simp
                  with_reducible rfl
                rotate_left
                · simp only [Act.put, List.setIfInBounds_toArray, List.set_cons_zero, List.set_cons_succ, i64_w, i32_w]
                  rfl
                refine pure_ (i := 3) (N := some 182) (v := ?_) (a' := ?_) #[true, true, true, true, false, false, false, false, false, false, false, false, false, false, false, false, false, false, false, false, false, false, false, false] rfl rfl (by kernel_rfl) (fun _ _ _ h => h) (Or.inl ⟨by rfl, ?_⟩) ?_ ?_
                rotate_left
                · intro w'
                  go_simp
                  with_reducible rfl
                rotate_left
                · simp only [Act.put, List.setIfInBounds_toArray, List.set_cons_zero, List.set_cons_succ, i64_w, i32_w]
                  rfl
                refine pure_ (i := 4) (N := some 183) (v := ?_) (a' := ?_) #[true, true, true, true, true, false, false, false, false, false, false, false, false, false, false, false, false, false, false, false, false, false, false, false] rfl rfl (by kernel_rfl) (fun _ _ _ h => h) (Or.inl ⟨by rfl, ?_⟩) ?_ ?_
                rotate_left
                · intro w'
                  go_simp
                  with_reducible rfl
                rotate_left
                · simp only [Act.put, List.setIfInBounds_toArray, List.set_cons_zero, List.set_cons_succ, i64_w, i32_w]
                  rfl
                refine pure_ (i := 5) (N := some 184) (v := ?_) (a' := ?_) #[true, true, true, true, true, true, false, false, false, false, false, false, false, false, false, false, false, false, false, false, false, false, false, false] rfl rfl (by kernel_rfl) (fun _ _ _ h => h) (Or.inl ⟨by rfl, ?_⟩) ?_ ?_
                rotate_left
                · intro w'
                  go_simp
                  with_reducible rfl
                rotate_left
                · simp only [Act.put, List.setIfInBounds_toArray, List.set_cons_zero, List.set_cons_succ, i64_w, i32_w]
                  rfl
                refine pure_ (i := 6) (N := some 185) (v := ?_) (a' := ?_) #[true, true, true, true, true, true, true, false, false, false, false, false, false, false, false, false, false, false, false, false, false, false, false, false] rfl rfl (by kernel_rfl) (fun _ _ _ h => h) (Or.inl ⟨by rfl, ?_⟩) ?_ ?_
                rotate_left
                · intro w'
                  go_simp
                  with_reducible rfl
                rotate_left
                · simp only [Act.put, List.setIfInBounds_toArray, List.set_cons_zero, List.set_cons_succ, i64_w, i32_w]
                  rfl
                refine pure_ (i := 8) (N := some 187) (v := ?_) (a' := ?_) #[true, true, true, true, true, true, true, false, true, false, false, false, false, false, false, false, false, false, false, false, false, false, false, false] rfl rfl (by kernel_rfl) (fun _ _ _ h => h) (Or.inl ⟨by rfl, ?_⟩) ?_ ?_
                rotate_left
                · intro w'
                  go_simp
                  with_reducible rfl
                rotate_left
                · simp only [Act.put, List.setIfInBounds_toArray, List.set_cons_zero, List.set_cons_succ, i64_w, i32_w]
                  rfl
                refine pure_ (i := 12) (N := some 191) (v := ?_) (a' := ?_) #[true, true, true, true, true, true, true, false, true, false, false, false, true, false, false, false, false, false, false, false, false, false, false, false] rfl rfl (by kernel_rfl) (fun _ _ _ h => h) (Or.inl ⟨by rfl, ?_⟩) ?_ ?_
                rotate_left
                · intro w'
                  go_simp
                  with_reducible rfl
                rotate_left
                · simp only [Act.put, List.setIfInBounds_toArray, List.set_cons_zero, List.set_cons_succ, i64_w, i32_w]
                  rfl
                refine pure_ (i := 13) (N := some 192) (v := ?_) (a' := ?_) #[true, true, true, true, true, true, true, false, true, false, false, false, true, true, false, false, false, false, false, false, false, false, false, false] rfl rfl (by kernel_rfl) (fun _ _ _ h => h) (Or.inl ⟨by rfl, ?_⟩) ?_ ?_
                rotate_left
                · intro w'
                  go_simp
                  with_reducible rfl
                rotate_left
                · simp only [Act.put, List.setIfInBounds_toArray, List.set_cons_zero, List.set_cons_succ, i64_w, i32_w]
                  rfl
                refine pure_ (i := 14) (N := some 193) (v := ?_) (a' := ?_) #[true, true, true, true, true, true, true, false, true, false, false, false, true, true, true, false, false, false, false, false, false, false, false, false] rfl rfl (by kernel_rfl) (fun _ _ _ h => h) (Or.inl ⟨by rfl, ?_⟩) ?_ ?_
                rotate_left
                · intro w'
                  go_simp
                  with_reducible rfl
                rotate_left
                · simp only [Act.put, List.setIfInBounds_toArray, List.set_cons_zero, List.set_cons_succ, i64_w, i32_w]
                  rfl
                refine pure_ (i := 16) (N := some 195) (v := ?_) (a' := ?_) #[true, true, true, true, true, true, true, false, true, false, false, false, true, true, true, false, true, false, false, false, false, false, false, false] rfl rfl (by kernel_rfl) (fun _ _ _ h => h) (Or.inl ⟨by rfl, ?_⟩) ?_ ?_
                rotate_left
                · intro w'
                  go_simp
                  with_reducible rfl
                rotate_left
                · simp only [Act.put, List.setIfInBounds_toArray, List.set_cons_zero, List.set_cons_succ, i64_w, i32_w]
                  rfl
                refine take_ (i := 7) (N := some 186) (v := ?_) (a' := ?_) #[true, true, true, true, true, true, true, true, true, false, false, false, true, true, true, false, true, false, false, false, false, false, false, false] rfl rfl (by kernel_rfl) (fun _ _ _ h => h) (Or.inl ⟨by rfl, ?_⟩) hHeld ?_ ?_
                rotate_left
                · rintro w' ⟨s0, s1, s2⟩
                  go_simp
                  with_reducible rfl
                rotate_left
                · simp only [Act.put, List.setIfInBounds_toArray, List.set_cons_zero, List.set_cons_succ, i64_w, i32_w]
                  rfl
                refine take_ (i := 9) (N := some 188) (v := ?_) (a' := ?_) #[true, true, true, true, true, true, true, true, true, true, false, false, true, true, true, false, true, false, false, false, false, false, false, false] rfl rfl (by kernel_rfl) (fun _ _ _ h => h) (Or.inl ⟨by rfl, ?_⟩) hHeld ?_ ?_
                rotate_left
                · rintro w' ⟨s0, s1, s2⟩
                  go_simp
                  with_reducible rfl
                rotate_left
                · simp only [Act.put, List.setIfInBounds_toArray, List.set_cons_zero, List.set_cons_succ, i64_w, i32_w]
                  rfl
                refine pure_ (i := 10) (N := some 189) (v := ?_) (a' := ?_) #[true, true, true, true, true, true, true, true, true, true, true, false, true, true, true, false, true, false, false, false, false, false, false, false] rfl rfl (by kernel_rfl) (fun _ _ _ h => h) (Or.inl ⟨by rfl, ?_⟩) ?_ ?_
                rotate_left
                · intro w'
                  go_simp
                  with_reducible rfl
                rotate_left
                · simp only [Act.put, List.setIfInBounds_toArray, List.set_cons_zero, List.set_cons_succ, i64_w, i32_w]
                  rfl
                refine take_ (i := 15) (N := some 194) (v := ?_) (a' := ?_) #[true, true, true, true, true, true, true, true, true, true, true, false, true, true, true, true, true, false, false, false, false, false, false, false] rfl rfl (by kernel_rfl) (fun _ _ _ h => h) (Or.inl ⟨by rfl, ?_⟩) hHeld ?_ ?_
                rotate_left
                · rintro w' ⟨s0, s1, s2⟩
                  go_simp
                  with_reducible rfl
                rotate_left
                · simp only [Act.put, List.setIfInBounds_toArray, List.set_cons_zero, List.set_cons_succ, i64_w, i32_w]
                  rfl
                refine take_ (i := 17) (N := some 196) (v := ?_) (a' := ?_) #[true, true, true, true, true, true, true, true, true, true, true, false, true, true, true, true, true, true, false, false, false, false, false, false] rfl rfl (by kernel_rfl) (fun _ _ _ h => h) (Or.inl ⟨by rfl, ?_⟩) hHeld ?_ ?_
                rotate_left
                · rintro w' ⟨s0, s1, s2⟩
                  go_simp
                  with_reducible rfl
                rotate_left
                · simp only [Act.put, List.setIfInBounds_toArray, List.set_cons_zero, List.set_cons_succ, i64_w, i32_w]
                  rfl
                refine pure_ (i := 18) (N := some 197) (v := ?_) (a' := ?_) #[true, true, true, true, true, true, true, true, true, true, true, false, true, true, true, true, true, true, true, false, false, false, false, false] rfl rfl (by kernel_rfl) (fun _ _ _ h => h) (Or.inl ⟨by rfl, ?_⟩) ?_ ?_
                rotate_left
                · intro w'
                  go_simp
                  with_reducible rfl
                rotate_left
                · simp only [Act.put, List.setIfInBounds_toArray, List.set_cons_zero, List.set_cons_succ, i64_w, i32_w]
                  rfl
                refine one_ (i := 11) (N := some 190) #[true, true, true, true, true, true, true, true, true, true, true, true, true, true, true, true, true, true, true, false, false, false, false, false] rfl rfl (by kernel_rfl) (by decide) (fun K hK => ?_)
                refine goes_ Tryd.func51 (by kernel_rfl) rfl #[.slice (some ⟨B 0 k, 0, none⟩) (sizeN g) (sizeN g), .int .i64 (g.f3.length : Int)] (by rfl) rfl rfl (by simp only [List.map_toArray, List.map_cons, List.map_nil]; rfl) ?_
                with_reducible refine (list_calls (sizeN g) g.f3.length _ (sizeN g) (rd_L2 I (k : Int)) _ HLI.out HNB.out HNV.out HNL.out (Kd.C_below HCI.out (below_drew (Below.refl _ _))) (Nat.le_of_eq HLI.out)).mono ?_
                rintro e w8 ⟨v1, rfl, hr1, hb1⟩
                refine ⟨_, rfl, ?_⟩
                obtain ⟨A8, c8, rfl, _, _⟩ := Kd.R_reads hr1
                refine hK.out _ _ ⟨(pw_cell_below hb1 hHeld.1), (pw_cell_below hb1 hHeld.2.1), (pw_cell_below hb1 hHeld.2.2)⟩ (fun hHeld => ?_)
                clear hK K
                refine norm_ (a' := ?_) ?_ ?_
                rotate_left
                · show Act.put _ (some 190) _ = _
                  simp only [Act.put, List.setIfInBounds_toArray, List.set_cons_zero, List.set_cons_succ, i64_w, i32_w]
                  rfl
                refine one_ (i := 19) (N := some 198) #[true, true, true, true, true, true, true, true, true, true, true, true, true, true, true, true, true, true, true, true, false, false, false, false] rfl rfl (by kernel_rfl) (by decide) (fun K hK => ?_)
                refine goes_ Tryd.func51 (by kernel_rfl) rfl #[.slice (some ⟨B 1 k, 0, none⟩) (sizeN g) (sizeN g), .int .i64 (g.f3.length : Int)] (by rfl) rfl rfl (by simp only [List.map_toArray, List.map_cons, List.map_nil]; rfl) ?_
                with_reducible refine (list_calls (sizeN g) g.f3.length _ (sizeN g) (rd_L2 O (k : Int)) _ HLO.out HNB.out HNV.out HNL.out (Kd.C_below (Kd.C_below HCO.out (below_drew (Below.refl _ _))) hb1) (Nat.le_of_eq HLO.out)).mono ?_
                rintro e w9 ⟨v2, rfl, hr2, hb2⟩
                refine ⟨_, rfl, ?_⟩
                obtain ⟨A9, c9, rfl, _, _⟩ := Kd.R_reads hr2
                have hw9 := below_step (below_step (below_drew (Below.refl wr.heap.size wr)) hb1) hb2
                have hga9 := blk_below hga hw9
                have hgb9 := blk_below hgb hw9
                have hqa := (blk_cell hga9 k).trans (Array.getElem?_eq_getElem (show k < ca.size by omega))
                have hqaf := blk_frozen hga9 k
                have hgb10 := (Below.heap_setCell w9 ⟨ga, k, none⟩ (.slice A8 (listG g.f3.length (rd_L2 I (k : Int))).length c8) gb (Ne.symm HGAB.out)).trans hgb9
                have hqb := (blk_cell hgb10 k).trans (Array.getElem?_eq_getElem (show k < cb.size by omega))
                have hqbf := blk_frozen hgb10 k
                refine hK.out _ _ ⟨(pw_cell_below hb2 hHeld.1), (pw_cell_below hb2 hHeld.2.1), (pw_cell_below hb2 hHeld.2.2)⟩ (fun hHeld => ?_)
                clear hK K
                refine norm_ (a' := ?_) ?_ ?_
                rotate_left
                · show Act.put _ (some 198) _ = _
                  simp only [Act.put, List.setIfInBounds_toArray, List.set_cons_zero, List.set_cons_succ, i64_w, i32_w]
                  rfl
                refine pure_ (i := 20) (N := some 199) (v := ?_) (a' := ?_) #[true, true, true, true, true, true, true, true, true, true, true, true, true, true, true, true, true, true, true, true, true, false, false, false] rfl rfl (by kernel_rfl) (fun _ _ _ h => h) (Or.inl ⟨by rfl, ?_⟩) ?_ ?_
                rotate_left
                · intro w'
                  go_simp
                  with_reducible rfl
                rotate_left
                · simp only [Act.put, List.setIfInBounds_toArray, List.set_cons_zero, List.set_cons_succ, i64_w, i32_w]
                  rfl
                refine last_ (i := 21) (N := none) #[true, true, true, true, true, true, true, true, true, true, true, true, true, true, true, true, true, true, true, true, true, true, false, false] rfl rfl (by kernel_rfl) (by decide) (fun K hK => ?_)
                refine skip_ (w1 := ?_) (by rfl) rfl ?_ ?_
                rotate_left
                · go_simp
                  rfl
                refine hK.out _ _ ?_
                clear hK K
                refine pure_ (i := 22) (N := some 200) (v := ?_) (a' := ?_) #[true, true, true, true, true, true, true, true, true, true, true, true, true, true, true, true, true, true, true, true, true, true, true, false] rfl rfl (by kernel_rfl) (fun _ _ _ h => h) (Or.inl ⟨by rfl, ?_⟩) ?_ ?_
                rotate_left
                · intro w'
                  go_simp
                  with_reducible rfl
                rotate_left
                · simp only [Act.put, List.setIfInBounds_toArray, List.set_cons_zero, List.set_cons_succ, i64_w, i32_w]
                  rfl
                refine last_ (i := 23) (N := none) #[true, true, true, true, true, true, true, true, true, true, true, true, true, true, true, true, true, true, true, true, true, true, true, true] rfl rfl (by kernel_rfl) (by decide) (fun K hK => ?_)
                refine skip_ (w1 := ?_) (by rfl) rfl ?_ ?_
                rotate_left
                · go_simp
                  rfl
                refine hK.out _ _ ?_
                clear hK K
                refine done_ (by kernel_rfl) ?_
                have hab := HGAB.out
                have hst9 := HSTA.out.below hw9
                have hsz9 := Nat.le_trans (below_drew (Below.refl wr.heap.size wr)).size (Nat.le_trans hb1.size hb2.size)
                have hra9 := (HRA.out.below hw9).put hlt (nb' := w9.heap.size) (v := .slice A8 (listG g.f3.length (rd_L2 I (k : Int))).length c8) (by
                  rw [getD_map HLNI.out hlt]
                  exact Kd.R_lower (Kd.R_below hr1 hb2) (Nat.le_trans HSTA.out.b.low.size (below_drew (Below.refl wr.heap.size wr)).size)) (fun b hb => Kd.R_base hr1 b hb) (fun b hb => Kd.R_lt (Kd.R_below hr1 hb2) b hb) hsz9
                have hra10 := hra9.other hgb10 hab k (.slice A9 (listG g.f3.length (rd_L2 O (k : Int))).length c9)
                have hrb9 := (HRB.out.below hw9).other hga9 (Ne.symm hab) k (.slice A8 (listG g.f3.length (rd_L2 I (k : Int))).length c8)
                have hrb10 := hrb9.put hlt (nb' := w9.heap.size) (v := .slice A9 (listG g.f3.length (rd_L2 O (k : Int))).length c9) (by
                  rw [getD_map HLNO.out hlt]
                  exact Kd.R_set (Kd.R_lower hr2 (Nat.le_trans HSTA.out.b.low.size (Nat.le_trans (below_drew (Below.refl wr.heap.size wr)).size hb1.size))) hga9 hty3 _ _) (fun b hb => Nat.le_trans hb1.size (Kd.R_base hr2 b hb)) (fun b hb => Kd.R_lt hr2 b hb) hsz9
                have hst11 := hst9.write2 (Nat.le_trans HSTA.out.b.low.size hw9.size) HLA.out HLB.out hga9 k (.slice A8 (listG g.f3.length (rd_L2 I (k : Int))).length c8) (.slice A9 (listG g.f3.length (rd_L2 O (k : Int))).length c9) hgb10
                have HRA10 := Aside0.mk hra10
                have HRB10 := Aside0.mk hrb10
                have HSTA11 := Aside0.mk hst11
                clear hab hsz9 hst9 hra9 hra10 hrb9 hrb10 hst11 hga hgb hga9 hgb9 hgb10 hqa hqaf hqb hqbf hw9 e0 e1 e2 hb1 hb2 hr1 hr2 hHeld
                go_wp2
                go_roundw
                case rel => exact ⟨k + 1, by omega, by go_num, HSTA11, _, _, HRA10, HRB10⟩
                case measure => (simp [intOf]; try omega)
              · obtain rfl : k = g.f5.length := by omega
                go_wp2
                simp only [Exit.jump]
                go_ret3
                obtain ⟨ca, hga, -⟩ := id HRA.out
                obtain ⟨cb, hgb, -⟩ := id HRB.out
                exact ⟨_, _, rfl, HRA.out.done (by rw [List.length_map]; exact HLNI.out) hN HLA.out hgb HGAB.out, HRB.out.done (by rw [List.length_map]; exact HLNO.out) hN HLB.out hga (Ne.symm HGAB.out), HSTA.out.b.low⟩
end Go.Proofs.YtanhnfhpajaolaaDoor.Fo
