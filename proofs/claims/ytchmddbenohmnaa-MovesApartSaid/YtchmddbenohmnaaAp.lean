/- The walk of MovesApart: for every two lists of numbers the call returns true. -/
import Derived.Test.YtchmddbenohmnaaMvF
namespace Go.Proofs.Ytchmddbenohmnaa.Mv
open Go Go.RowKit Go.Proofs.YtchmddbenohmnaaW.PrintWords Go.Proofs.YtchmddbenohmnaaW.PrintLast Go.Proofs.YtchmddbenohmnaaW.PrintMore Go.Proofs.Ytchmddbenohmnaa.Mi Go.Proofs.Ytchmddbenohmnaa.F
set_option linter.unusedVariables false
set_option linter.unusedSimpArgs false

set_option maxHeartbeats 8000000 in
set_option maxRecDepth 100000 in
theorem apart_long (A0 : Option Addr) (c0 : Nat) (l0 : List Int) (A1 : Option Addr) (c1 : Nat) (l1 : List Int) (w : World) (h : 300 < l0.length ∨ 300 < l1.length) :
    Calls Try.prog 7 #[.slice A0 l0.length c0, .slice A1 l1.length c1] w fun e w' => e = .returned (.bool true) ∧ Below w.heap.size w w' := by
  by_cases h0 : 300 < l0.length
  · clear h
    go_enter Try.func7, Try.ntmps7
    go_wp2_with fail
    refine (smithylaw22_awake.calls 30 true w (awake_true 30 (Nat.le_refl _))).mono ?_
    rintro e w1 ⟨rfl, hb⟩
    have HB1 := Aside0.mk hb
    clear hb
    go_wp2
    go_ret
    exact ⟨rfl, HB1.out⟩
  · have h1 : 300 < l1.length := h.resolve_left h0
    clear h
    go_enter Try.func7, Try.ntmps7
    go_wp2_with fail
    refine (smithylaw22_awake.calls 30 true w (awake_true 30 (Nat.le_refl _))).mono ?_
    rintro e w1 ⟨rfl, hb⟩
    have HB1 := Aside0.mk hb
    clear hb
    go_wp2
    go_ret
    exact ⟨rfl, HB1.out⟩

set_option maxHeartbeats 8000000 in
set_option maxRecDepth 100000 in
theorem apart_short (A0 : Option Addr) (c0 : Nat) (l0 : List Int) (A1 : Option Addr) (c1 : Nat) (l1 : List Int) (w : World) (hr0 : Kd.C (Kd.int .i64) w A0 l0.length l0) (hc0 : l0.length ≤ c0) (hr1 : Kd.C (Kd.int .i64) w A1 l1.length l1) (hc1 : l1.length ≤ c1)
    (h0 : ¬ 300 < l0.length) (h1 : ¬ 300 < l1.length) :
    Calls Try.prog 7 #[.slice A0 l0.length c0, .slice A1 l1.length c1] w fun e w' => e = .returned (.bool true) ∧ Below w.heap.size w w' := by
  have HR0 := Aside0.mk hr0
  have HR1 := Aside0.mk hr1
  have HC1 := Aside0.mk hc1
  clear hr0 hr1 hc1 hc0
  go_enter Try.func7, Try.ntmps7
  go_wp2_with fail
  refine (smithylaw22_awake.calls 30 true w (awake_true 30 (Nat.le_refl _))).mono ?_
  rintro e w1 ⟨rfl, hb⟩
  have HB1 := Aside0.mk hb
  clear hb
  go_wp2
  go_loopw [6, 7] (fun v6 v7 wr => ∃ j : Nat, j ≤ l0.length ∧ v7 = .int .i64 (j : Int) ∧ Aside0 (Kd.R k43 43 wr w.heap.size (fun _ => True) v6 (mka l0 l0.length j)) ∧ Aside0 (Below w.heap.size w wr)) (fun _ i _ => l0.length - (intOf i).toNat)
  case atStart => exact ⟨0, Nat.zero_le _, rfl, ⟨Kd.R_nil _ _ _ _ _⟩, HB1⟩
  case round =>
    clear HB1
    obtain ⟨j, hj, rfl, HO, HB⟩ := hrel
    have HSr := HB.out.size
    by_cases hlt : j < l0.length
    · obtain ⟨ad, rfl, hx0⟩ := Kd.at_int (Kd.C_below HR0.out HB.out) (j : Int) (by omega) (by omega)
      simp only [Int.toNat_natCast] at hx0
      have HJ := Aside0.mk (mka_succ l0 l0.length j)
      have HL := Aside0.mk (mka_len l0 l0.length j)
      obtain ⟨x, hx⟩ : ∃ x, pk (rd l0 j) ((l0.length : Int) + 9) = x := ⟨_, rfl⟩
      have hpk := pick_some (rd l0 j) ((l0.length : Int) + 9)
      rw [hx] at hpk HJ
      have HPK := Aside0.mk hpk
      clear hpk hx
      go_wp2_with fail
      refine (smithykit_Pick.calls _ _ x _ HPK.out).mono ?_
      rintro e w' ⟨rfl, ⟨m, rfl⟩⟩
      have HO2 := Aside0.mk (Kd.R_drewN HO.out m)
      have HB2 := Aside0.mk (pw_below_drewN HB.out m)
      go_wp2_with (first | ((with_reducible refine gate_builtin (b := .append) (xs := #[.tmp 27, .tmp 40]) rfl ?_); at_builtin; go_loud (refine Kd.R_append k43 (w0 := w) w.heap.size rfl (.tmp 27) (.tmp 40) 22 43 (.agg #[.int .i64 0, .int .i64 0]) 16 rfl Try.underlying22 info43 rfl (by decide) (by omega) u6 (mka l0 l0.length j) (⟨(l0.length : Int) + 9 + (j : Int), x⟩ : S43) [.int .i64 ((l0.length : Int) + 9 + (j : Int)), .int .i64 x] (fun _ => True) (fun _ => False) rfl ?aX ?aP (fun _ hk => hk.elim) ?aF ?aO ?aB ?aS ?aL ?_; (case aX => first | rfl | (simp [Act.eval]; done)); (case aP => exact k43_mkM _ _ _ (⟨(l0.length : Int) + 9 + (j : Int), x⟩ : S43)); (case aB => exact HB2.out); (case aF => exact (fun _ _ => trivial)); (case aO => exact HO2.out); (case aS => exact HB2.out.size); (case aL => have := HL.out; omega); intro v169 w4 ho hb hg hat; have HO4 := Aside0.mk ho; have HB4 := Aside0.mk hb; clear ho hb hg hat)))
      go_roundw
      case rel => exact ⟨j + 1, by omega, by go_num, ⟨by rw [HJ.out]; exact HO4.out⟩, HB4⟩
      case measure => simp [intOf]; omega
    · obtain rfl : j = l0.length := by omega
      clear hlt hj
      go_wp2
      have HO0 : Aside0 (Kd.R k43 43 wr w.heap.size (fun _ => True) u6 (mka l0 l0.length l0.length)) := HO
      have HB0 : Aside0 (Below w.heap.size w wr) := HB
      clear HO HB HSr
      go_loopw [1] (fun v1 wr => ∃ (A : Option Addr) (c : Nat) (xs : List Int), v1 = .slice A xs.length c ∧ xs.length ≤ 1000 ∧ Aside0 (xs.length ≤ c) ∧ Aside0 (Kd.C (Kd.int .i64) wr A xs.length xs) ∧ Aside0 (Kd.R k43 43 wr w.heap.size (fun _ => True) u6 (mka l0 l0.length l0.length)) ∧ Aside0 (Below w.heap.size w wr))
        (fun v1 _ => 1000 - (match v1 with | .slice _ n _ => n | _ => 0))
      case atStart => exact ⟨A1, c1, l1, rfl, by omega, HC1, ⟨Kd.C_below HR1.out HB0.out⟩, HO0, HB0⟩
      case round =>
        clear HO0 HB0
        obtain ⟨A, c, xs, rfl, hxs, HC, HX, HO, HB⟩ := hrel
        have HSr := HB.out.size
        by_cases hlt : xs.length < 2 * l0.length + 9
        · have hlt' : (xs.length : Int) < 2 * (l0.length : Int) + 9 := by omega
          have hcp : smithykit_CopyInts.f xs = some xs := by unfold smithykit_CopyInts.f; rw [if_pos (by simp; omega)]; simp
          have HCP := Aside0.mk hcp
          clear hcp
          go_wp2_with fail
          refine (smithykit_CopyInts.calls _ _ _ _ _ HX.out HC.out HCP.out).mono ?_
          rintro e w2 ⟨v, rfl, ho, hb⟩
          have HO2 := Aside0.mk (Kd.R_below HO.out hb)
          have HB2 := Aside0.mk (below_then HB.out HB.out.size hb)
          have HV2 := Aside0.mk (Kd.R_lower ho HB.out.size)
          clear ho hb
          go_wp2_with (first | ((with_reducible refine gate_builtin (b := .append) (xs := #[.tmp 49, .tmp 53]) rfl ?_); at_builtin; go_loud (refine Kd.R_append (Kd.int .i64) (w0 := w) w.heap.size rfl (.tmp 49) (.tmp 53) 35 3 (.int .i64 0) 8 rfl Try.underlying35 info3 rfl (by decide) (by omega) v xs (-(xs.length : Int)) [.int .i64 (-(xs.length : Int))] (fun _ => True) (fun _ => False) rfl ?bX ?bP (fun _ hk => hk.elim) ?bF ?bO ?bB ?bS ?bL ?_; (case bX => first | rfl | (simp [Act.eval]; done)); (case bP => exact rfl); (case bB => exact HB2.out); (case bF => exact (fun _ _ => trivial)); (case bO => exact HV2.out); (case bS => exact HB2.out.size); (case bL => omega); intro v169 w4 ho hb hg hat; have HV4 := Aside0.mk ho; have HB4 := Aside0.mk hb; have HO4 := Aside0.mk (Kd.R_over HO2.out HV2.out (by decide) hg); clear ho hb hg hat)))
          obtain ⟨A9, c9, rfl, hc9, hC9⟩ := Kd.R_reads HV4.out
          have hl9 : (xs ++ [-(xs.length : Int)]).length = xs.length + 1 := by simp
          have HC9 := Aside0.mk hc9
          have HCC9 := Aside0.mk hC9
          clear hc9 hC9 HV4
          go_roundw
          case rel => exact ⟨A9, c9, xs ++ [-(xs.length : Int)], rfl, by omega, HC9, HCC9, HO4, HB4⟩
          case measure => simp; omega
        · have hge' : ¬ (xs.length : Int) < 2 * (l0.length : Int) + 9 := by omega
          obtain ⟨K, hK, a, ha1, ha2, ha3, ha4⟩ := apart_facts l0 xs l0.length (by omega) (by omega) (by omega)
          have HK := Aside0.mk hK
          have HA1 := Aside0.mk ha1
          have HA2 := Aside0.mk ha2
          have HA3 := Aside0.mk ha3
          have HA4 := Aside0.mk ha4
          clear hK ha1 ha2 ha3 ha4
          obtain ⟨A6, c6, rfl, hc6, hC6⟩ := Kd.R_reads HO.out
          have HC6 := Aside0.mk hc6
          have HCC6 := Aside0.mk hC6
          clear hc6 hC6
          go_wp2_with fail
          refine (moves_Row.calls K _ _ _ _ a 0 _ HCC6.out HC6.out HA1.out).mono ?_
          rintro e w6 ⟨v4, rfl, ho, hb⟩
          obtain ⟨A12, c12, rfl, hc12, hC12⟩ := Kd.R_reads ho
          have HB6 := Aside0.mk (below_then HB.out HB.out.size hb)
          have HC12 := Aside0.mk hc12
          have HCC12 := Aside0.mk hC12
          have HX6 := Aside0.mk (Kd.C_below HX.out hb)
          have HC6e := Aside0.mk (Kd.C_below HCC6.out hb)
          have hal : (a.length : Int) = (l0.length : Int) := by have := HA2.out; omega
          have hab := beq_iff_eq.2 hal
          clear ho hb hc12 hC12 hal
          go_wp2_with fail
          refine (moves_Did.calls _ _ _ _ _ _ _ _ HCC12.out HC12.out HX6.out HC.out HA3.out).mono ?_
          rintro e w8 ⟨v6, rfl, ho, hb⟩
          obtain ⟨A14, c14, rfl, hc14, hC14⟩ := Kd.R_reads ho
          have HC14 := Aside0.mk hc14
          have HCC14 := Aside0.mk hC14
          have HB8 := Aside0.mk (below_then HB6.out HB6.out.size hb)
          have HX8 := Aside0.mk (Kd.C_below HX6.out hb)
          have HC6g := Aside0.mk (Kd.C_below HC6e.out hb)
          clear ho hb hc14 hC14
          go_wp2_with fail
          refine (moves_Did.calls _ _ _ _ _ _ _ _ HC6g.out HC6.out HX8.out HC.out HA4.out).mono ?_
          rintro e w9 ⟨v7, rfl, ho, hb⟩
          obtain ⟨A15, c15, rfl, hc15, hC15⟩ := Kd.R_reads ho
          have HC15 := Aside0.mk hc15
          have HCC15 := Aside0.mk hC15
          have HB9 := Aside0.mk (below_then HB8.out HB8.out.size hb)
          have HC14a := Aside0.mk (Kd.C_below HCC14.out hb)
          clear ho hb hc15 hC15
          go_wp2_with fail
          refine (smithykit_SameInts.calls K _ _ _ _ _ _ true _ HC14a.out HC14.out HCC15.out HC15.out (same_true rfl (by rw [didL_len]; omega) (by rw [didL_len]; have := HK.out; omega))).mono ?_
          rintro e w10 ⟨rfl, ⟨m, rfl⟩⟩
          go_wp2
          go_ret
          exact ⟨rfl, pw_below_drewN HB9.out m⟩

theorem apart_calls (A0 : Option Addr) (c0 : Nat) (l0 : List Int) (A1 : Option Addr) (c1 : Nat) (l1 : List Int) (w : World) (hr0 : Kd.C (Kd.int .i64) w A0 l0.length l0) (hc0 : l0.length ≤ c0) (hr1 : Kd.C (Kd.int .i64) w A1 l1.length l1) (hc1 : l1.length ≤ c1) :
    Calls Try.prog 7 #[.slice A0 l0.length c0, .slice A1 l1.length c1] w fun e w' => e = .returned (.bool true) ∧ Below w.heap.size w w' := by
  by_cases h : 300 < l0.length ∨ 300 < l1.length
  · exact apart_long A0 c0 l0 A1 c1 l1 w h
  · exact apart_short A0 c0 l0 A1 c1 l1 w hr0 hc0 hr1 hc1 (fun h' => h (.inl h')) (fun h' => h (.inr h'))

theorem apart_walk (a0 : Option Addr) (len0 cap0 : Nat) (z0 : List Int) (a1 : Option Addr) (len1 cap1 : Nat) (z1 : List Int) (w : World) (w0 : (a0 = none ∧ len0 = 0 ∧ cap0 = 0 ∧ z0 = []) ∨ ∃ x, a0 = some x ∧ len0 ≤ cap0 ∧ cap0 ≤ maxLen ∧ z0.length = cap0 ∧ (∀ i, i < z0.length → w.cell? (x.add i) = some (.int .i64 (z0.getD i 0))) ∧ ∀ n ∈ z0, (Lit.int .i64 n).wf = true) (y0 : len0 * 8 ≤ 140737488351232)
    (w1 : (a1 = none ∧ len1 = 0 ∧ cap1 = 0 ∧ z1 = []) ∨ ∃ x, a1 = some x ∧ len1 ≤ cap1 ∧ cap1 ≤ maxLen ∧ z1.length = cap1 ∧ (∀ i, i < z1.length → w.cell? (x.add i) = some (.int .i64 (z1.getD i 0))) ∧ ∀ n ∈ z1, (Lit.int .i64 n).wf = true) (y1 : len1 * 8 ≤ 140737488351232) :
    Calls Try.prog 7 #[.slice a0 len0 cap0, .slice a1 len1 cap1] w fun e w' => e = .returned (.bool true) ∧ Below w.heap.size w w' := by
  obtain ⟨l0, rfl, hr0, hm0, hw0, hc0⟩ := ReadsInt.ofRowC w0
  obtain ⟨l1, rfl, hr1, hm1, hw1, hc1⟩ := ReadsInt.ofRowC w1
  exact apart_calls _ _ _ _ _ _ _ (Kd.C_of_reads (d := (0 : Int)) (h1 := fun _ => rfl) hr0) hc0 (Kd.C_of_reads (d := (0 : Int)) (h1 := fun _ => rfl) hr1) hc1
end Go.Proofs.Ytchmddbenohmnaa.Mv
