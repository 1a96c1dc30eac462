/- The walk of MovesDo: for every list of numbers the call returns true. -/
import Derived.Test.YtchmddbenohmnaaMvE
import Derived.Deep.DeepCutAuto
import Derived.Deep.CutBlock
import Derived.Deep.RegionWith
namespace Go.Proofs.Ytchmddbenohmnaa.Mv
open Go Go.RowKit Go.Proofs.YtchmddbenohmnaaW.PrintWords Go.Proofs.YtchmddbenohmnaaW.PrintLast Go.Proofs.YtchmddbenohmnaaW.PrintMore Go.Proofs.Ytchmddbenohmnaa.Mi Go.Proofs.Ytchmddbenohmnaa.F
set_option linter.unusedVariables false
set_option linter.unusedSimpArgs false

set_option maxHeartbeats 8000000 in
set_option maxRecDepth 100000 in
theorem do_calls (A : Option Addr) (c : Nat) (l : List Int) (w : World) (hr : Kd.C (Kd.int .i64) w A l.length l) (hc : l.length ≤ c) :
    Calls Try.prog 6 #[.slice A l.length c] w fun e w' => e = .returned (.bool true) ∧ Below w.heap.size w w' := by
  obtain ⟨n, hn1, hn2, hn3⟩ : ∃ n : Nat, n ≤ 400 ∧ n ≤ l.length ∧ (l.length ≤ 400 → n = l.length) ∧ (400 < l.length → n = 400) := by
    by_cases h : l.length ≤ 400
    · exact ⟨l.length, h, Nat.le_refl _, fun _ => rfl, fun h' => by omega⟩
    · exact ⟨400, Nat.le_refl _, by omega, fun h' => absurd h' h, fun _ => rfl⟩
  obtain ⟨K, hK, ⟨a, ha1, ha2, ha3, ha4, ha5, ha6⟩, hb⟩ := do_facts l n hn1
  have HR := Aside0.mk hr
  have HC := Aside0.mk hc
  have HN := Aside0.mk hn3
  have HA1 := Aside0.mk ha1
  have HA2 := Aside0.mk ha2
  have HA3 := Aside0.mk ha3
  have HA4 := Aside0.mk ha4
  have HA5 := Aside0.mk ha5
  have HA6 := Aside0.mk ha6
  have HBB := Aside0.mk hb
  have HK := Aside0.mk hK
  have HLM := Aside0.mk hr.2.1
  clear hr hc hn3 ha1 ha2 ha3 ha4 ha5 ha6 hb hK
  go_enter Try.func6, Try.ntmps6
  go_wp2_with fail
  refine (smithylaw22_awake.calls K true w (awake_true K (by have := HK.out; omega))).mono ?_
  rintro e w1 ⟨rfl, hb⟩
  have HB1 := Aside0.mk hb
  clear hb
  go_upto_if 17 with (fail)
  go_cut [0] (fun v0 wx => ∃ c' : Nat, v0 = .slice A n c' ∧ n ≤ c' ∧ wx = w1)
  case first =>
    by_cases h : l.length ≤ 400
    · obtain rfl : n = l.length := HN.out.1 h
      have hh : ¬ 400 < l.length := by omega
      go_wp2_with fail
      go_meet
      exact ⟨c, rfl, HC.out, rfl⟩
    · have hh : 400 < l.length := by omega
      obtain rfl : n = 400 := HN.out.2 hh
      obtain ⟨ad, rfl, _⟩ := Kd.at_int HR.out 0 (by omega) (by omega)
      have hcc := HC.out
      have h4 : 400 ≤ c := by omega
      go_wp2_with fail
      go_meet
      exact ⟨c, rfl, h4, rfl⟩
  case rest =>
    obtain ⟨c', rfl, hc', rfl⟩ := hcut
    go_wp2
    go_loopw [4, 5, 6] (fun v4 v5 v6 wr => ∃ j : Nat, j ≤ n ∧ v6 = .int .i64 (j : Int) ∧ v5 = .int .i64 (nbusy (mkj l n j) : Int) ∧ Aside0 (Kd.R k43 43 wr w.heap.size (fun _ => True) v4 (mkj l n j)) ∧ Aside0 (Below w.heap.size w wr)) (fun _ _ i _ => n - (intOf i).toNat)
    case atStart => exact ⟨0, Nat.zero_le _, rfl, rfl, ⟨Kd.R_nil _ _ _ _ _⟩, HB1⟩
    case round =>
      clear HB1
      obtain ⟨j, hj, rfl, rfl, HO, HB⟩ := hrel
      have HSr := HB.out.size
      by_cases hlt : j < n
      · obtain ⟨ad, rfl, hx0⟩ := Kd.at_int (Kd.C_below HR.out HB.out) (j : Int) (by omega) (by omega)
        simp only [Int.toNat_natCast] at hx0
        have HJ := Aside0.mk (mkj_succ l n j)
        have HL := Aside0.mk (mkj_len l n j)
        have HNB := Aside0.mk (nbusy_succ l n j)
        have HNL := Aside0.mk (nbusy_le l n j)
        have hb1 : (nbusy (mkj l n j) : Int) ≤ 400 := by have := HNL.out; omega
        obtain ⟨x, hx⟩ : ∃ x, pk (rd l j) n = x := ⟨_, rfl⟩
        have hpk := pick_some (rd l j) n
        rw [hx] at hpk HJ HNB
        have HPK := Aside0.mk hpk
        clear hpk hx
        have hsz : n ≤ l.length := hn2
        go_wp2_with fail
        refine (smithykit_Pick.calls _ _ x _ HPK.out).mono ?_
        rintro e w' ⟨rfl, ⟨m, rfl⟩⟩
        have HO2 := Aside0.mk (Kd.R_drewN HO.out m)
        have HB2 := Aside0.mk (pw_below_drewN HB.out m)
        by_cases hxj : x = (j : Int)
        · have b1 := beq_iff_eq.2 hxj
          have b2 : (x != (j : Int)) = false := by rw [bne, b1]; rfl
          have HXJ := Aside0.mk hxj
          clear hxj
          go_wp2_with (first | ((with_reducible refine gate_builtin (b := .append) (xs := #[.tmp 33, .tmp 37]) rfl ?_); at_builtin; go_loud (refine Kd.R_append k43 (w0 := w) w.heap.size rfl (.tmp 33) (.tmp 37) 22 43 (.agg #[.int .i64 0, .int .i64 0]) 16 rfl Try.underlying22 info43 rfl (by decide) (by omega) u4 (mkj l n j) (⟨(j : Int), x⟩ : S43) [.int .i64 (j : Int), .int .i64 x] (fun _ => True) (fun _ => False) rfl ?aX ?aP (fun _ hk => hk.elim) ?aF ?aO ?aB ?aS ?aL ?_; (case aX => first | rfl | (simp [Act.eval]; done)); (case aP => exact k43_mkM _ _ _ (⟨(j : Int), x⟩ : S43)); (case aB => exact HB2.out); (case aF => exact (fun _ _ => trivial)); (case aO => exact HO2.out); (case aS => exact HB2.out.size); (case aL => have := HL.out; omega); intro v169 w4 ho hb hg hat; have HO4 := Aside0.mk ho; have HB4 := Aside0.mk hb; clear ho hb hg hat)))
          go_roundw
          case rel => exact ⟨j + 1, by omega, by go_num, by rw [HNB.out, if_pos HXJ.out, Nat.add_zero], ⟨by rw [HJ.out]; exact HO4.out⟩, HB4⟩
          case measure => simp [intOf]; omega
        · have b1 := beq_eq_false_iff_ne.2 hxj
          have b2 : (x != (j : Int)) = true := by rw [bne, b1]; rfl
          have HXJ := Aside0.mk hxj
          clear hxj
          go_wp2_with (first | ((with_reducible refine gate_builtin (b := .append) (xs := #[.tmp 33, .tmp 37]) rfl ?_); at_builtin; go_loud (refine Kd.R_append k43 (w0 := w) w.heap.size rfl (.tmp 33) (.tmp 37) 22 43 (.agg #[.int .i64 0, .int .i64 0]) 16 rfl Try.underlying22 info43 rfl (by decide) (by omega) u4 (mkj l n j) (⟨(j : Int), x⟩ : S43) [.int .i64 (j : Int), .int .i64 x] (fun _ => True) (fun _ => False) rfl ?bX ?bP (fun _ hk => hk.elim) ?bF ?bO ?bB ?bS ?bL ?_; (case bX => first | rfl | (simp [Act.eval]; done)); (case bP => exact k43_mkM _ _ _ (⟨(j : Int), x⟩ : S43)); (case bB => exact HB2.out); (case bF => exact (fun _ _ => trivial)); (case bO => exact HO2.out); (case bS => exact HB2.out.size); (case bL => have := HL.out; omega); intro v169 w4 ho hb hg hat; have HO4 := Aside0.mk ho; have HB4 := Aside0.mk hb; clear ho hb hg hat)))
          go_roundw
          case rel => exact ⟨j + 1, by omega, by go_num, by rw [HNB.out, if_neg HXJ.out]; go_num, ⟨by rw [HJ.out]; exact HO4.out⟩, HB4⟩
          case measure => simp [intOf]; omega
      · obtain rfl : j = n := by omega
        obtain ⟨A4, c4, rfl, hc4, hC4⟩ := Kd.R_reads HO.out
        have HLJ := Aside0.mk (mkj_len l j j)
        have HC4 := Aside0.mk hc4
        have HCC4 := Aside0.mk hC4
        have HNL := Aside0.mk (nbusy_le l j j)
        clear hc4 hC4
        go_wp2_with fail
        refine (moves_Row.calls K _ _ _ _ a 0 _ HCC4.out HC4.out HA1.out).mono ?_
        rintro e w2 ⟨v1, rfl, ho, hb⟩
        have HO2 := Aside0.mk ho
        have HO2a := Aside0.mk (Kd.R_below HO.out hb)
        have HB2 := Aside0.mk (below_then HB.out HB.out.size hb)
        have HS2 := Aside0.mk hb.size
        clear ho hb
        obtain ⟨A8, c8, rfl, hc8, hC8⟩ := Kd.R_reads HO2.out
        have HC8 := Aside0.mk hc8
        have HCC8 := Aside0.mk hC8
        clear hc8 hC8
        have hal := HA2.out
        have hnl := HNL.out
        have hcmp : 2 * (a.length : Int) ≤ 3 * (nbusy (mkj l j j) : Int) := by have := HA3.out; omega
        go_wp2_with fail
        have hnum : smithylaw22_numbers.f K ((j : Int) + 1) = some (nums (j + 1)) := by
          have := numbers_some (n := j + 1) (by omega) (k := K) (by have := HK.out; omega)
          rw [Int.natCast_add] at this
          exact this
        refine (smithylaw22_numbers.calls K _ _ _ hnum).mono ?_
        clear hnum
        rintro e w3 ⟨v2, rfl, ho, hb⟩
        obtain ⟨A9, c9, rfl, hc9, hC9⟩ := Kd.R_reads ho
        have HC9 := Aside0.mk hc9
        have HCC9 := Aside0.mk hC9
        have HB3 := Aside0.mk (below_then HB2.out HB2.out.size hb)
        have HC8a := Aside0.mk (Kd.C_below HCC8.out hb)
        have HC4a := Aside0.mk (Kd.C_below (Kd.C_below HCC4.out (Below.refl _ _)) (Below.refl _ _))
        have HO2b := Aside0.mk (Kd.R_below HO2a.out hb)
        clear ho hb hc9 hC9
        go_wp2_with fail
        refine (moves_Did.calls _ _ _ _ _ _ _ _ HC8a.out HC8.out HCC9.out HC9.out HA4.out).mono ?_
        rintro e w4 ⟨v3, rfl, ho, hb⟩
        have HB4 := Aside0.mk (below_then HB3.out HB3.out.size hb)
        have HO2c := Aside0.mk (Kd.R_below HO2b.out hb)
        have HO4 := Aside0.mk ho
        clear ho hb
        obtain ⟨now, hnow⟩ : ∃ now, didL a (nums (j + 1)) = now := ⟨_, rfl⟩
        rw [hnow] at HO4 HA5 HA6
        clear hnow
        obtain ⟨A10, c10, rfl, hc10, hC10⟩ := Kd.R_reads HO4.out
        have hnl5 : now.length = j + 1 := HA5.out
        rw [hnl5] at hc10 hC10 HO4 ⊢
        clear hnl5
        have HC10 := Aside0.mk hc10
        have HCC10 := Aside0.mk hC10
        clear hc10 hC10
        go_wp2_with fail
        clear hcmp
        have HT := Aside0.mk (Kd.R_reads' (Kd.R_take HO4.out (m := j) (by have := HA5.out; omega)))
        have HTT : Aside0 ((now.take j).length = j) := ⟨by rw [List.length_take, HA5.out]; omega⟩
        have HMJ := Aside0.mk (Kd.R_reads' HO2c.out)
        have HDS := Aside0.mk (did_some (z := l) (n := j) (by omega) (k := K) (by have := HK.out; omega))
        have HSS := Aside0.mk (same_true HA6.out (by rw [HTT.out]; omega) (k := K) (by rw [HTT.out]; have := HK.out; omega))
        have q5 : j ≤ c10 := by have := HC10.out; omega
        have didc : ∀ W : World, Below w4.heap.size w4 W → Calls Try.prog 23 #[.slice A4 (mkj l j j).length c4, .int .i64 (j : Int)] W fun e w' => ∃ A c, e = .returned (.slice A j c) ∧ j ≤ c ∧ Kd.C (Kd.int .i64) w' A j (tgt l j) ∧ Below W.heap.size W w' := by
          intro W hW
          refine (smithylaw22_did.calls K _ _ _ _ _ W (Kd.C_below HMJ.out.2.2 hW) HC4.out HDS.out).mono ?_
          rintro e w' ⟨v, rfl, ho, hb⟩
          obtain ⟨A, c, rfl, hc, hC⟩ := Kd.R_reads ho
          rw [tgt_len] at hc hC ⊢
          exact ⟨A, c, rfl, hc, hC, hb⟩
        have samec : ∀ (W : World) (A : Option Addr) (c : Nat), Below w4.heap.size w4 W → j ≤ c → Kd.C (Kd.int .i64) W A j (tgt l j) → Calls Try.prog 19 #[.slice A10 j c10, .slice A j c] W fun e w' => e = .returned (.bool true) ∧ Drawn0 W w' := by
          intro W A c hW hc hC
          have h1 := Kd.C_below HT.out.2.2 hW
          rw [HTT.out] at h1
          have := smithykit_SameInts.calls K A10 c10 (now.take j) A c (tgt l j) true W (by rw [HTT.out]; exact h1) (by rw [HTT.out]; exact q5) (by rw [tgt_len]; exact hC) (by rw [tgt_len]; exact hc) HSS.out
          rw [HTT.out, tgt_len] at this
          exact this
        have DIDC := Aside0.mk didc
        have SAMEC := Aside0.mk samec
        clear didc samec
        have bn4 : ((j : Int) + 1 != wrap64 ((j : Int) + 1)) = false := by rw [wrap64_small (by omega) (by omega)]; simp
        go_cut [79] (fun v79 wx => v79 = .bool false ∧ Aside0 (Below w4.heap.size w4 wx))
        case first =>
          refine start_ (n := 15) (S := fun w' => Below w4.heap.size w4 w') (ds := []) #[false, false, false, false, false, false, false, false, false, false, false, false, false, false, false] (by kernel_rfl) rfl rfl ((below_drew (Below.refl _ _))) (fun hHeld => ?_)
          refine pure_ (i := 0) (N := some 65) (v := ?_) (a' := ?_) #[true, false, false, false, false, false, false, false, false, false, false, false, false, false, false] rfl rfl (by kernel_rfl) (fun _ _ _ h => h) (Or.inl ⟨by rfl, ?_⟩) ?_ ?_
          rotate_left
          · intro w'
            go_simp
            with_reducible rfl
          rotate_left
          · simp only [Act.put, List.setIfInBounds_toArray, List.set_cons_zero, List.set_cons_succ, i64_w, i32_w]
            rfl
          refine pure_ (i := 1) (N := some 66) (v := ?_) (a' := ?_) #[true, true, false, false, false, false, false, false, false, false, false, false, false, false, false] rfl rfl (by kernel_rfl) (fun _ _ _ h => h) (Or.inl ⟨by rfl, ?_⟩) ?_ ?_
          rotate_left
          · intro w'
            go_simp
            with_reducible rfl
          rotate_left
          · simp only [Act.put, List.setIfInBounds_toArray, List.set_cons_zero, List.set_cons_succ, i64_w, i32_w]
            rfl
          refine pure_ (i := 2) (N := some 67) (v := ?_) (a' := ?_) #[true, true, true, false, false, false, false, false, false, false, false, false, false, false, false] rfl rfl (by kernel_rfl) (fun _ _ _ h => h) (Or.inl ⟨by rfl, ?_⟩) ?_ ?_
          rotate_left
          · intro w'
            go_simp
            with_reducible rfl
          rotate_left
          · simp only [Act.put, List.setIfInBounds_toArray, List.set_cons_zero, List.set_cons_succ, i64_w, i32_w]
            rfl
          refine pure_ (i := 3) (N := some 68) (v := ?_) (a' := ?_) #[true, true, true, true, false, false, false, false, false, false, false, false, false, false, false] rfl rfl (by kernel_rfl) (fun _ _ _ h => h) (Or.inl ⟨by rfl, ?_⟩) ?_ ?_
          rotate_left
          · intro w'
            go_simp
            with_reducible rfl
          rotate_left
          · simp only [Act.put, List.setIfInBounds_toArray, List.set_cons_zero, List.set_cons_succ, i64_w, i32_w]
            rfl
          refine pure_ (i := 4) (N := some 69) (v := ?_) (a' := ?_) #[true, true, true, true, true, false, false, false, false, false, false, false, false, false, false] rfl rfl (by kernel_rfl) (fun _ _ _ h => h) (Or.inl ⟨by rfl, ?_⟩) ?_ ?_
          rotate_left
          · intro w'
            go_simp
            with_reducible rfl
          rotate_left
          · simp only [Act.put, List.setIfInBounds_toArray, List.set_cons_zero, List.set_cons_succ, i64_w, i32_w]
            rfl
          refine pure_ (i := 5) (N := some 70) (v := ?_) (a' := ?_) #[true, true, true, true, true, true, false, false, false, false, false, false, false, false, false] rfl rfl (by kernel_rfl) (fun _ _ _ h => h) (Or.inl ⟨by rfl, ?_⟩) ?_ ?_
          rotate_left
          · intro w'
            go_simp
            with_reducible rfl
          rotate_left
          · simp only [Act.put, List.setIfInBounds_toArray, List.set_cons_zero, List.set_cons_succ, i64_w, i32_w]
            rfl
          refine pure_ (i := 6) (N := some 71) (v := ?_) (a' := ?_) #[true, true, true, true, true, true, true, false, false, false, false, false, false, false, false] rfl rfl (by kernel_rfl) (fun _ _ _ h => h) (Or.inl ⟨by rfl, ?_⟩) ?_ ?_
          rotate_left
          · intro w'
            go_simp
            with_reducible rfl
          rotate_left
          · simp only [Act.put, List.setIfInBounds_toArray, List.set_cons_zero, List.set_cons_succ, i64_w, i32_w]
            rfl
          refine pure_ (i := 7) (N := some 72) (v := ?_) (a' := ?_) #[true, true, true, true, true, true, true, true, false, false, false, false, false, false, false] rfl rfl (by kernel_rfl) (fun _ _ _ h => h) (Or.inl ⟨by rfl, ?_⟩) ?_ ?_
          rotate_left
          · intro w'
            go_simp
            with_reducible rfl
          rotate_left
          · simp only [Act.put, List.setIfInBounds_toArray, List.set_cons_zero, List.set_cons_succ, i64_w, i32_w]
            rfl
          refine pure_ (i := 8) (N := some 73) (v := ?_) (a' := ?_) #[true, true, true, true, true, true, true, true, true, false, false, false, false, false, false] rfl rfl (by kernel_rfl) (fun _ _ _ h => h) (Or.inl ⟨by rfl, ?_⟩) ?_ ?_
          rotate_left
          · intro w'
            go_simp
            with_reducible rfl
          rotate_left
          · simp only [Act.put, List.setIfInBounds_toArray, List.set_cons_zero, List.set_cons_succ, i64_w, i32_w]
            rfl
          refine pure_ (i := 9) (N := some 74) (v := ?_) (a' := ?_) #[true, true, true, true, true, true, true, true, true, true, false, false, false, false, false] rfl rfl (by kernel_rfl) (fun _ _ _ h => h) (Or.inl ⟨by rfl, ?_⟩) ?_ ?_
          rotate_left
          · intro w'
            go_simp
            with_reducible rfl
          rotate_left
          · simp only [Act.put, List.setIfInBounds_toArray, List.set_cons_zero, List.set_cons_succ, i64_w, i32_w]
            rfl
          refine pure_ (i := 10) (N := some 75) (v := ?_) (a' := ?_) #[true, true, true, true, true, true, true, true, true, true, true, false, false, false, false] rfl rfl (by kernel_rfl) (fun _ _ _ h => h) (Or.inl ⟨by rfl, ?_⟩) ?_ ?_
          rotate_left
          · intro w'
            go_simp
            with_reducible rfl
          rotate_left
          · simp only [Act.put, List.setIfInBounds_toArray, List.set_cons_zero, List.set_cons_succ, i64_w, i32_w]
            rfl
          refine one_ (i := 11) (N := some 76) #[true, true, true, true, true, true, true, true, true, true, true, true, false, false, false] rfl rfl (by kernel_rfl) (by decide) (fun K hK => ?_)
          refine goes_ Try.func23 (by kernel_rfl) rfl #[.slice A4 (mkj l j j).length c4, .int .i64 (j : Int)] (by rfl) rfl rfl (by simp only [List.map_toArray, List.map_cons, List.map_nil]; rfl) ?_
          with_reducible refine (DIDC.out _ hHeld).mono ?_
          rintro e w5 ⟨A11, c11, rfl, hc11, hC11, hb11⟩
          refine ⟨_, rfl, ?_⟩
          have HC11 := Aside0.mk hc11
          have HCC11 := Aside0.mk hC11
          have HB11 := Aside0.mk hb11
          clear hc11 hC11 hb11
          refine hK.out _ _ ((below_then hHeld hHeld.size HB11.out)) (fun hHeld => ?_)
          clear hK K
          refine norm_ (a' := ?_) ?_ ?_
          rotate_left
          · show Act.put _ (some 76) _ = _
            simp only [Act.put, List.setIfInBounds_toArray, List.set_cons_zero, List.set_cons_succ, i64_w, i32_w]
            rfl
          refine one_ (i := 12) (N := some 77) #[true, true, true, true, true, true, true, true, true, true, true, true, true, false, false] rfl rfl (by kernel_rfl) (by decide) (fun K hK => ?_)
          refine goes_ Try.func19 (by kernel_rfl) rfl #[.slice A10 j c10, .slice A11 j c11] (by rfl) rfl rfl (by simp only [List.map_toArray, List.map_cons, List.map_nil]; rfl) ?_
          with_reducible refine (SAMEC.out _ _ _ hHeld HC11.out HCC11.out).mono ?_
          rintro e w6 ⟨rfl, ⟨m, rfl⟩⟩
          refine ⟨_, rfl, ?_⟩
          refine hK.out _ _ ((pw_below_drewN hHeld m)) (fun hHeld => ?_)
          clear hK K
          refine norm_ (a' := ?_) ?_ ?_
          rotate_left
          · show Act.put _ (some 77) _ = _
            simp only [Act.put, List.setIfInBounds_toArray, List.set_cons_zero, List.set_cons_succ, i64_w, i32_w]
            rfl
          refine pure_ (i := 13) (N := some 78) (v := ?_) (a' := ?_) #[true, true, true, true, true, true, true, true, true, true, true, true, true, true, false] rfl rfl (by kernel_rfl) (fun _ _ _ h => h) (Or.inl ⟨by rfl, ?_⟩) ?_ ?_
          rotate_left
          · intro w'
            go_simp
            with_reducible rfl
          rotate_left
          · simp only [Act.put, List.setIfInBounds_toArray, List.set_cons_zero, List.set_cons_succ, i64_w, i32_w]
            rfl
          refine pure_ (i := 14) (N := some 79) (v := ?_) (a' := ?_) #[true, true, true, true, true, true, true, true, true, true, true, true, true, true, true] rfl rfl (by kernel_rfl) (fun _ _ _ h => h) (Or.inl ⟨by rfl, ?_⟩) ?_ ?_
          rotate_left
          · intro w'
            go_simp
            with_reducible rfl
          rotate_left
          · simp only [Act.put, List.setIfInBounds_toArray, List.set_cons_zero, List.set_cons_succ, i64_w, i32_w]
            rfl
          refine done_ (by kernel_rfl) ?_
          go_wp2_with fail
          go_meet
          exact ⟨rfl, ⟨hHeld⟩⟩
        case rest =>
          obtain ⟨rfl, HB5⟩ := hcut
          clear bn4
          have HC4d := Aside0.mk (Kd.C_below HMJ.out.2.2 HB5.out)
          have HB5w := Aside0.mk (below_then HB4.out HB4.out.size HB5.out)
          rcases HBB.out with ⟨hb1, hb2⟩ | ⟨b, hb1, hb2, hb3⟩
          · have HB1' := Aside0.mk hb1
            have hbz : (1 : Int) < (nbusy (mkj l j j) : Int) := by omega
            clear hb1 hb2
            go_wp2_with fail
            refine (moves_Row.calls K _ _ _ _ [] 4 _ HC4d.out HC4.out HB1'.out).mono ?_
            rintro e w6 ⟨v4, rfl, ho, hb⟩
            obtain ⟨A12, c12, rfl, hc12, hC12⟩ := Kd.R_reads ho
            have HB6 := Aside0.mk (below_then HB5w.out HB5w.out.size hb)
            clear ho hb hc12 hC12
            go_wp2
            go_ret
            exact ⟨by simp [hbz], HB6.out⟩
          · have HB1' := Aside0.mk hb1
            have HB3' := Aside0.mk hb3
            have hbz : (b.length : Int) ≤ (nbusy (mkj l j j) : Int) := by omega
            clear hb1 hb2 hb3
            go_wp2_with fail
            refine (moves_Row.calls K _ _ _ _ b 0 _ HC4d.out HC4.out HB1'.out).mono ?_
            rintro e w6 ⟨v4, rfl, ho, hb⟩
            obtain ⟨A12, c12, rfl, hc12, hC12⟩ := Kd.R_reads ho
            have HB6 := Aside0.mk (below_then HB5w.out HB5w.out.size hb)
            have HC12 := Aside0.mk hc12
            have HCC12 := Aside0.mk hC12
            have HC4e := Aside0.mk (Kd.C_below HC4d.out hb)
            clear ho hb hc12 hC12
            go_wp2_with fail
            refine (smithylaw22_numbers.calls K _ _ _ (numbers_some (n := j) (by omega) (k := K) (by have := HK.out; omega))).mono ?_
            rintro e w7 ⟨v5, rfl, ho, hb⟩
            obtain ⟨A13, c13, rfl, hc13, hC13⟩ := Kd.R_reads ho
            have HC13 := Aside0.mk hc13
            have HCC13 := Aside0.mk hC13
            have HB7 := Aside0.mk (below_then HB6.out HB6.out.size hb)
            have HC12a := Aside0.mk (Kd.C_below HCC12.out hb)
            have HC4f := Aside0.mk (Kd.C_below HC4e.out hb)
            clear ho hb hc13 hC13
            go_wp2_with fail
            refine (moves_Did.calls _ _ _ _ _ _ _ _ HC12a.out HC12.out HCC13.out HC13.out HB3'.out).mono ?_
            rintro e w8 ⟨v6, rfl, ho, hb⟩
            obtain ⟨A14, c14, rfl, hc14, hC14⟩ := Kd.R_reads ho
            have HC14 := Aside0.mk hc14
            have HCC14 := Aside0.mk hC14
            have HB8 := Aside0.mk (below_then HB7.out HB7.out.size hb)
            have HC4g := Aside0.mk (Kd.C_below HC4f.out hb)
            clear ho hb hc14 hC14
            go_wp2_with fail
            refine (smithylaw22_did.calls K _ _ _ _ _ _ HC4g.out HC4.out HDS.out).mono ?_
            rintro e w9 ⟨v7, rfl, ho, hb⟩
            obtain ⟨A15, c15, rfl, hc15, hC15⟩ := Kd.R_reads ho
            have HC15 := Aside0.mk hc15
            have HCC15 := Aside0.mk hC15
            have HB9 := Aside0.mk (below_then HB8.out HB8.out.size hb)
            have HC14a := Aside0.mk (Kd.C_below HCC14.out hb)
            clear ho hb hc15 hC15
            go_wp2_with fail
            refine (smithykit_SameInts.calls K _ _ _ _ _ _ true _ HC14a.out HC14.out HCC15.out HC15.out (same_true rfl (by rw [tgt_len]; omega) (by rw [tgt_len]; have := HK.out; omega))).mono ?_
            rintro e w10 ⟨rfl, ⟨m, rfl⟩⟩
            go_wp2
            go_ret
            exact ⟨rfl, pw_below_drewN HB9.out m⟩

theorem do_walk (a0 : Option Addr) (len0 cap0 : Nat) (z0 : List Int) (w : World) (w0 : (a0 = none ∧ len0 = 0 ∧ cap0 = 0 ∧ z0 = []) ∨ ∃ x, a0 = some x ∧ len0 ≤ cap0 ∧ cap0 ≤ maxLen ∧ z0.length = cap0 ∧ (∀ i, i < z0.length → w.cell? (x.add i) = some (.int .i64 (z0.getD i 0))) ∧ ∀ n ∈ z0, (Lit.int .i64 n).wf = true) (y0 : len0 * 8 ≤ 140737488351232) :
    Calls Try.prog 6 #[.slice a0 len0 cap0] w fun e w' => e = .returned (.bool true) ∧ Below w.heap.size w w' := by
  obtain ⟨l0, rfl, hr0, hm0, hw0, hc0⟩ := ReadsInt.ofRowC w0
  exact do_calls _ _ _ _ (Kd.C_of_reads (d := (0 : Int)) (h1 := fun _ => rfl) hr0) hc0
end Go.Proofs.Ytchmddbenohmnaa.Mv
