/- The walk of scan.Holds. -/
import Derived.Test.YtcmbpboeilojmaaGreatHd
import Derived.Test.YtcmbpboeilojmaaGreatOr
import Derived.Test.YtcmbpboeilojmaaGreatSrt
namespace Go.Proofs.YtcmbpboeilojmaaGreat.Sw
open Go Go.RowKit Go.Proofs.YtcmbpboeilojmaaGreatW.PrintWords Go.Proofs.YtcmbpboeilojmaaGreatW.PrintLast Go.Proofs.YtcmbpboeilojmaaGreatW.PrintMore Go.Proofs.YtcmbpboeilojmaaGreat.Mi Go.Proofs.YtcmbpboeilojmaaGreat.F Go.Proofs.YtcmbpboeilojmaaGreat.Scan
set_option linter.unusedVariables false
set_option linter.unusedSimpArgs false
def spH (x : S36) : Nat → Value := fun i => if i = 0 then .int .i64 x.f0 else if i = 1 then .int .i64 x.f1 else .int .i64 x.f2
theorem spH_new (w : World) (x : S36) : (w.alloc (.cells #[.int .i64 x.f0, .int .i64 x.f1, .int .i64 x.f2] 36)).rowIs w.heap.size 36 3 (spH x) := World.rowIs_alloc w #[.int .i64 x.f0, .int .i64 x.f1, .int .i64 x.f2] 36 (spH x) (fun i hi => by
  have hi' : i < 3 := hi
  match i, hi' with
  | 0, _ => rfl
  | 1, _ => rfl
  | 2, _ => rfl)
theorem rd_ho (h : List S48) (k : Nat) : rd_T48 h (k : Int) = ho h k := by unfold rd_T48 ho; rw [Int.toNat_natCast]; rfl

set_option maxHeartbeats 4000000 in
set_option maxRecDepth 100000 in
theorem holds_calls (A0 : Option Addr) (c0 : Nat) (l : List S36) (A1 : Option Addr) (c1 : Nat) (h : List S48) (regs : Int) (w : World) (hr0 : Kd.C k36 w A0 l.length l) (hc0 : l.length ≤ c0) (hr1 : Kd.C k48 w A1 h.length h) (hc1 : h.length ≤ c1) (hlen : l.length ≤ 1000000) (hwf : wfS l) :
    Calls Tryz.prog 11 #[.slice A0 l.length c0, .slice A1 h.length c1, .int .i64 regs] w fun e w' => e = .returned (.bool (holdsB l h regs)) ∧ Below w.heap.size w w' := by
  have HR0 := Aside0.mk hr0
  have HWF := Aside0.mk hwf
  have CO := Aside0.mk (fun W : World => (fun h => (ordered_calls A0 c0 l W h hlen hwf) : Kd.C k36 W A0 l.length l → _))
  clear hr0 hwf
  by_cases g1 : regs < 0
  · have e0 : holdsB l h regs = false := by
      unfold holdsB mayB
      rw [decide_eq_false (by omega : ¬ 0 ≤ regs)]; rfl
    rw [e0]
    clear e0 hr1
    go_enter Tryz.func11, Tryz.ntmps11
    go_wp2
    go_ret
    exact ⟨rfl, Below.refl _ _⟩
  by_cases g2 : regs > 64
  · have e0 : holdsB l h regs = false := by
      unfold holdsB mayB
      rw [decide_eq_false (by omega : ¬ regs ≤ 64), Bool.and_false]; rfl
    rw [e0]
    clear e0 hr1
    go_enter Tryz.func11, Tryz.ntmps11
    go_wp2
    go_ret
    exact ⟨rfl, Below.refl _ _⟩
  cases g3 : ordB l with
  | false =>
    have e0 : holdsB l h regs = false := by
      unfold holdsB mayB
      rw [g3, Bool.and_false]; rfl
    rw [e0]
    rw [g3] at CO
    clear e0 hr1 g3
    go_enter Tryz.func11, Tryz.ntmps11
    go_wp2_with (go_at_call 12; refine (CO.out _ HR0.out).mono ?_; rintro e w1 ⟨rfl, hb1⟩)
    go_ret
    exact ⟨rfl, hb1⟩
  | true =>
    have hm : mayB l regs = true := by
      unfold mayB
      rw [decide_eq_true (by omega), decide_eq_true (by omega), g3]; rfl
    have hord : Ord l := ordB_ord g3
    rw [g3] at CO
    clear g3
    by_cases hq : h.length = l.length
    rotate_left
    · have e0 : holdsB l h regs = false := by
        unfold holdsB
        rw [hm, decide_eq_false hq]; rfl
      rw [e0]
      have hq' : ¬ (h.length : Int) = (l.length : Int) := by omega
      clear e0 hr1 hm
      go_enter Tryz.func11, Tryz.ntmps11
      go_wp2_with (go_at_call 12; refine (CO.out _ HR0.out).mono ?_; rintro e w1 ⟨rfl, hb1⟩)
      go_ret
      exact ⟨rfl, hb1⟩
    have HM := Aside0.mk hm
    have HQ := Aside0.mk hq
    rw [hq] at hr1 hc1
    rw [hq]
    have HR1 := Aside0.mk hr1
    clear hm hq hr1
    go_enter Tryz.func11, Tryz.ntmps11
    go_wp2_with (go_at_call 12; refine (CO.out _ HR0.out).mono ?_; rintro e w1 ⟨rfl, hb1⟩)
    change Code.wp _ _ _ _ (World.alloc (World.alloc w1 (.cells (List.replicate 64 (Value.int .i64 0)).toArray 84)) (.cells (List.replicate 64 (Value.bool false)).toArray 40))
    obtain ⟨w2, e2⟩ : ∃ w2, w2 = (w1.alloc (.cells (List.replicate 64 (Value.int .i64 0)).toArray 84)).alloc (.cells (List.replicate 64 (Value.bool false)).toArray 40) := ⟨_, rfl⟩
    have HD0 := Aside0.mk (Hd.start w w1 w2 h hb1 e2)
    rw [← e2]
    obtain ⟨e9, he9⟩ : ∃ e9, e9 = w1.heap.size + 1 := ⟨_, rfl⟩
    obtain ⟨e8, he8⟩ : ∃ e8, e8 = w1.heap.size := ⟨_, rfl⟩
    rw [← he9, ← he8] at HD0
    rw [← he9, ← he8]
    clear e2 he8 he9 CO
    go_loopw [7, 35] (fun v7 v35 wr => ∃ k : Nat, k ≤ l.length ∧ v35 = .int .i64 k ∧ Aside0 (Hd w wr e8 e9 h k) ∧ Aside0 (RI w wr v7 (slotsOf (h.take k))) ∧ Aside0 (∀ i, i < k → atB l h regs i = true)) (fun _ i _ => l.length - (intOf i).toNat)
    case atStart => exact ⟨0, Nat.zero_le _, rfl, HD0, ⟨Kd.R_nil _ _ _ _ _⟩, ⟨fun i hi => absurd hi (by omega)⟩⟩
    case round =>
      clear HD0
      obtain ⟨k, hk, rfl, HD, HR, HA⟩ := hrel
      by_cases hlt : k < l.length
      · have hlt1 : (k : Int) < l.length := by omega
        have hk0 : (0 : Int) ≤ (k : Int) := by omega
        obtain ⟨ad, rfl, x0, x1, x2⟩ := at_T36 (Kd.C_below HR0.out HD.out.B) (k : Int) hk0 hlt1
        obtain ⟨ah, rfl, z0w, z1w, z2w⟩ := at_T48 HR1.out (k : Int) hk0 hlt1
        simp only [Int.toNat_natCast, rd_sp, rd_ho] at x0 x1 x2 z0w z1w z2w
        obtain ⟨sv, es⟩ : ∃ sv, sv = sp l k := ⟨_, rfl⟩
        obtain ⟨xv, exv⟩ : ∃ xv, xv = ho h k := ⟨_, rfl⟩
        rw [← es] at x0 x1 x2
        rw [← exv] at z0w z1w z2w
        have SV := Aside0.mk es
        have XV := Aside0.mk exv
        have HLT := Aside0.mk hlt
        have hkh : k < h.length := by rw [HQ.out]; exact hlt
        have HKH := Aside0.mk hkh
        clear es exv hkh
        go_wp2
        obtain ⟨wx, ex⟩ : ∃ wx, wx = wr.alloc (.cells #[.int .i64 sv.f0, .int .i64 sv.f1, .int .i64 sv.f2] 36) := ⟨_, rfl⟩
        obtain ⟨bx, eb⟩ : ∃ bx, bx = wr.heap.size := ⟨_, rfl⟩
        have hax : Below wr.heap.size wr wx := by rw [ex]; exact below_alloc (Below.refl _ _) _
        have HDx := Aside0.mk (HD.out.below hax)
        have HRx := Aside0.mk (Kd.R_below HR.out hax)
        have HBX := Aside0.mk (show wx.rowIs bx 36 3 (spH sv) by rw [ex, eb]; exact spH_new wr sv)
        rw [← ex, ← eb]
        clear ex eb HD HR x0 x1 x2 hax
        have y0 : wx.cell? ⟨bx, 0, none⟩ = some (.int .i64 sv.f0) := HBX.out.cell (i := 0) (by omega)
        have y1 : wx.cell? ⟨bx, 1, none⟩ = some (.int .i64 sv.f1) := HBX.out.cell (i := 1) (by omega)
        have y2 : wx.cell? ⟨bx, 2, none⟩ = some (.int .i64 sv.f2) := HBX.out.cell (i := 2) (by omega)
        have z0 := pw_cell_below HDx.out.B z0w
        have z1 := pw_cell_below HDx.out.B z1w
        have z2 := pw_cell_below HDx.out.B z2w
        obtain ⟨ob, hob⟩ : ∃ ob, oneB sv xv regs = ob := ⟨_, rfl⟩
        have HOB := Aside0.mk hob
        have CL := Aside0.mk (show ∀ W : World, Calls Tryz.prog 22 #[.agg #[.int .i64 sv.f0, .int .i64 sv.f1, .int .i64 sv.f2], .agg #[.int .i64 xv.f0, .int .i64 xv.f1, .int .i64 xv.f2], .int .i64 regs] W fun e w' => e = .returned (.bool ob) ∧ Below W.heap.size W w' from fun W => scan_one.calls 1 _ _ _ _ _ _ _ _ _ (by rw [← hob]; exact one_f sv xv regs 0))
        clear hob
        refine start_ (n := 8) (S := fun w' => w'.cell? ⟨bx, 0, none⟩ = some (.int .i64 sv.f0) ∧ w'.cell? ⟨bx, 1, none⟩ = some (.int .i64 sv.f1) ∧ w'.cell? ⟨bx, 2, none⟩ = some (.int .i64 sv.f2) ∧ w'.cell? (ah.add (k * 3)) = some (.int .i64 xv.f0) ∧ w'.cell? ⟨(ah.add (k * 3)).block, (ah.add (k * 3)).off + 1, none⟩ = some (.int .i64 xv.f1) ∧ w'.cell? ⟨(ah.add (k * 3)).block, (ah.add (k * 3)).off + 2, none⟩ = some (.int .i64 xv.f2)) (ds := []) #[false, false, false, false, false, false, false, false] (by kernel_rfl) rfl rfl ⟨(pw_cell_below (below_drew (Below.refl _ _)) y0), (pw_cell_below (below_drew (Below.refl _ _)) y1), (pw_cell_below (below_drew (Below.refl _ _)) y2), (pw_cell_below (below_drew (Below.refl _ _)) z0), (pw_cell_below (below_drew (Below.refl _ _)) z1), (pw_cell_below (below_drew (Below.refl _ _)) z2)⟩ (fun hHeld => ?_)
        refine pure_ (i := 1) (N := some 41) (v := ?_) (a' := ?_) #[false, true, false, false, false, false, false, false] rfl rfl (by kernel_rfl) (fun _ _ _ h => h) (Or.inl ⟨by rfl, ?_⟩) ?_ ?_
        rotate_left
        · intro w'
          go_simp
          with_reducible rfl
        rotate_left
        · simp only [Act.put, List.setIfInBounds_toArray, List.set_cons_zero, List.set_cons_succ, i64_w, i32_w]
          rfl
        refine pure_ (i := 2) (N := some 42) (v := ?_) (a' := ?_) #[false, true, true, false, false, false, false, false] rfl rfl (by kernel_rfl) (fun _ _ _ h => h) (Or.inl ⟨by rfl, ?_⟩) ?_ ?_
        rotate_left
        · intro w'
          go_simp
          with_reducible rfl
        rotate_left
        · simp only [Act.put, List.setIfInBounds_toArray, List.set_cons_zero, List.set_cons_succ, i64_w, i32_w]
          rfl
        refine pure_ (i := 3) (N := some 43) (v := ?_) (a' := ?_) #[false, true, true, true, false, false, false, false] rfl rfl (by kernel_rfl) (fun _ _ _ h => h) (Or.inl ⟨by rfl, ?_⟩) ?_ ?_
        rotate_left
        · intro w'
          go_simp
          with_reducible rfl
        rotate_left
        · simp only [Act.put, List.setIfInBounds_toArray, List.set_cons_zero, List.set_cons_succ, i64_w, i32_w]
          rfl
        refine pure_ (i := 5) (N := some 45) (v := ?_) (a' := ?_) #[false, true, true, true, false, true, false, false] rfl rfl (by kernel_rfl) (fun _ _ _ h => h) (Or.inl ⟨by rfl, ?_⟩) ?_ ?_
        rotate_left
        · intro w'
          go_simp
          with_reducible rfl
        rotate_left
        · simp only [Act.put, List.setIfInBounds_toArray, List.set_cons_zero, List.set_cons_succ, i64_w, i32_w]
          rfl
        refine take_ (i := 0) (N := some 40) (v := ?_) (a' := ?_) #[true, true, true, true, false, true, false, false] rfl rfl (by kernel_rfl) (fun _ _ _ h => h) (Or.inl ⟨by rfl, ?_⟩) hHeld ?_ ?_
        rotate_left
        · rintro w' ⟨s0, s1, s2, s3, s4, s5⟩
          go_simp
          with_reducible rfl
        rotate_left
        · simp only [Act.put, List.setIfInBounds_toArray, List.set_cons_zero, List.set_cons_succ, i64_w, i32_w]
          rfl
        refine take_ (i := 4) (N := some 44) (v := ?_) (a' := ?_) #[true, true, true, true, true, true, false, false] rfl rfl (by kernel_rfl) (fun _ _ _ h => h) (Or.inl ⟨by rfl, ?_⟩) hHeld ?_ ?_
        rotate_left
        · rintro w' ⟨s0, s1, s2, s3, s4, s5⟩
          go_simp
          with_reducible rfl
        rotate_left
        · simp only [Act.put, List.setIfInBounds_toArray, List.set_cons_zero, List.set_cons_succ, i64_w, i32_w]
          rfl
        refine one_ (i := 6) (N := some 46) #[true, true, true, true, true, true, true, false] rfl rfl (by kernel_rfl) (by decide) (fun K hK => ?_)
        refine goes_ Tryz.func22 (by kernel_rfl) rfl #[.agg #[.int .i64 sv.f0, .int .i64 sv.f1, .int .i64 sv.f2], .agg #[.int .i64 xv.f0, .int .i64 xv.f1, .int .i64 xv.f2], .int .i64 regs] (by rfl) rfl rfl (by simp only [List.map_toArray, List.map_cons, List.map_nil]; rfl) ?_
        with_reducible refine (CL.out _).mono ?_
        rintro e w4 ⟨rfl, hb4⟩
        have HB4 := Aside0.mk hb4
        refine ⟨_, rfl, ?_⟩
        refine hK.out _ _ ⟨(pw_cell_below hb4 hHeld.1), (pw_cell_below hb4 hHeld.2.1), (pw_cell_below hb4 hHeld.2.2.1), (pw_cell_below hb4 hHeld.2.2.2.1), (pw_cell_below hb4 hHeld.2.2.2.2.1), (pw_cell_below hb4 hHeld.2.2.2.2.2)⟩ (fun hHeld => ?_)
        clear hK K
        refine norm_ (a' := ?_) ?_ ?_
        rotate_left
        · show Act.put _ (some 46) _ = _
          simp only [Act.put, List.setIfInBounds_toArray, List.set_cons_zero, List.set_cons_succ, i64_w, i32_w]
          rfl
        refine pure_ (i := 7) (N := some 47) (v := ?_) (a' := ?_) #[true, true, true, true, true, true, true, true] rfl rfl (by kernel_rfl) (fun _ _ _ h => h) (Or.inl ⟨by rfl, ?_⟩) ?_ ?_
        rotate_left
        · intro w'
          go_simp
          with_reducible rfl
        rotate_left
        · simp only [Act.put, List.setIfInBounds_toArray, List.set_cons_zero, List.set_cons_succ, i64_w, i32_w]
          rfl
        refine done_ (by kernel_rfl) ?_

        clear hHeld
        have HD4 := Aside0.mk (HDx.out.drew.below HB4.out)
        have HR4 := Aside0.mk (Kd.R_below (Kd.R_below HRx.out (below_drew (Below.refl _ _))) HB4.out)
        have HX4 := Aside0.mk (rowIs_below HBX.out.drew HB4.out)
        clear HB4 HDx HRx HBX y0 y1 y2 z0 z1 z2 CL
        cases ob with
        | false =>
          go_wp2
          go_ret
          exact ⟨by rw [holdsB_bad HLT.out (.inl (by rw [← SV.out, ← XV.out]; exact HOB.out))]; rfl, HD4.out.B⟩
        | true =>
          have HF0 := Aside0.mk (show xv.f0 < 64 by
            have h1 := HOB.out
            unfold oneB at h1
            by_cases c : xv.f0 < -1 ∨ regs ≤ xv.f0 ∨ xv.f1 < -1
            · rw [if_pos c] at h1; cases h1
            · omega)
          have HSL := Aside0.mk (show (slotsOf (h.take k)).length ≤ 1000000 by have := slots_len h k; omega)
          have hkh := HKH.out
          have z1 := pw_cell_below HD4.out.B z1w
          by_cases s0 : 0 ≤ xv.f1
          · clear hkh
            have hkh := HKH.out
            have HSS := Aside0.mk (show slotsOf (h.take (k + 1)) = slotsOf (h.take k) ++ [xv.f1] by rw [slotsOf_succ hkh, ← XV.out, if_pos s0])
            by_cases r0 : xv.f0 < 0
            · go_wp2_with (first | ((with_reducible refine gate_builtin (b := .append) (xs := #[.tmp 54, .tmp 60]) rfl ?_); at_builtin; go_loud (refine Kd.R_append (Kd.int .i64) (w0 := w) w.heap.size rfl (.tmp 54) (.tmp 60) 22 3 (.int .i64 0) 8 rfl Tryz.underlying22 info3 rfl (by decide) (by omega) u7 (slotsOf (h.take k)) xv.f1 [.int .i64 xv.f1] (fun _ => True) (fun _ => False) rfl ?bX ?bP (fun _ hk => hk.elim) ?bF ?bO ?bB ?bS ?bL ?_; (case bX => first | rfl | (simp [Act.eval]; done)); (case bP => rfl); (case bB => exact HD4.out.B); (case bF => exact (fun _ _ => trivial)); (case bO => exact HR4.out); (case bS => exact HD4.out.B.size); (case bL => have := HSL.out; omega); intro v8 w5 ho hb hg hat; have HR5 := Aside0.mk ho; have HD5 := Aside0.mk (HD4.out.grown HR4.out hg hb); have HX5 := Aside0.mk (rowIs_grown HX4.out hg (R_ne HR4.out HX4.out (by decide))); have z0 := pw_cell_below hb z0w; have z2 := pw_cell_below hb z2w; clear ho hb hg hat)))
              have HRE := HR5
              have HDE := Aside0.mk (HD5.out.next (by rw [← XV.out]; exact r0))
              have HAT := Aside0.mk (show atB l h regs k = true by
                unfold atB pairB
                rw [← SV.out, ← XV.out, HOB.out, if_neg (by omega)]; rfl)
              go_roundw
              case rel => exact ⟨k + 1, by omega, by go_num, HDE, ⟨by rw [HSS.out]; exact HRE.out⟩, ⟨fun i hi => by
                  rcases (by omega : i < k ∨ i = k) with hi | rfl
                  · exact HA.out i hi
                  · exact HAT.out⟩⟩
              case measure => simp [intOf]; omega
            · obtain ⟨r, er⟩ : ∃ r : Nat, xv.f0 = (r : Int) := ⟨xv.f0.toNat, by omega⟩
              have hr64 : r < 64 := by have := HF0.out; omega
              have hr64i : (r : Int) < 64 := by omega
              have hr0i : (0 : Int) ≤ (r : Int) := by omega
              have ER := Aside0.mk er
              rw [er] at z0w r0
              clear er
              go_wp2_with (first | ((with_reducible refine gate_builtin (b := .append) (xs := #[.tmp 54, .tmp 60]) rfl ?_); at_builtin; go_loud (refine Kd.R_append (Kd.int .i64) (w0 := w) w.heap.size rfl (.tmp 54) (.tmp 60) 22 3 (.int .i64 0) 8 rfl Tryz.underlying22 info3 rfl (by decide) (by omega) u7 (slotsOf (h.take k)) xv.f1 [.int .i64 xv.f1] (fun _ => True) (fun _ => False) rfl ?bX ?bP (fun _ hk => hk.elim) ?bF ?bO ?bB ?bS ?bL ?_; (case bX => first | rfl | (simp [Act.eval]; done)); (case bP => rfl); (case bB => exact HD4.out.B); (case bF => exact (fun _ _ => trivial)); (case bO => exact HR4.out); (case bS => exact HD4.out.B.size); (case bL => have := HSL.out; omega); intro v8 w5 ho hb hg hat; have HR5 := Aside0.mk ho; have HD5 := Aside0.mk (HD4.out.grown HR4.out hg hb); have HX5 := Aside0.mk (rowIs_grown HX4.out hg (R_ne HR4.out HX4.out (by decide))); have z0 := pw_cell_below hb z0w; have z2 := pw_cell_below hb z2w; clear ho hb hg hat)))
              have HD := HD5
              have HR := HR5
              cases hl : lastOf h (r : Int) k with
              | none =>
                have u9 := HD.out.W.cell (i := r) hr64
                have u8 := HD.out.E.cell (i := r) hr64
                obtain ⟨ev, hev⟩ : ∃ ev, ev = endV h (r : Int) k := ⟨_, rfl⟩
                simp only [wasF, endF, hl, Option.isSome_none, ← hev] at u9 u8
                have HAT := Aside0.mk (show atB l h regs k = true by
                  unfold atB pairB
                  rw [← SV.out, ← XV.out, HOB.out, ER.out, hl]; simp)
                clear hl
                refine start_ (n := 11) (S := fun w' => w'.cell? ⟨e9, r, none⟩ = some (.bool false)) (ds := []) #[false, false, false, false, false, false, false, false, false, false, false] (by kernel_rfl) rfl rfl ((pw_cell_below (below_drew (Below.refl _ _)) u9)) (fun hHeld => ?_)
                refine pure_ (i := 0) (N := some 69) (v := ?_) (a' := ?_) #[true, false, false, false, false, false, false, false, false, false, false] rfl rfl (by kernel_rfl) (fun _ _ _ h => h) (Or.inl ⟨by rfl, ?_⟩) ?_ ?_
                rotate_left
                · intro w'
                  go_simp
                  with_reducible rfl
                rotate_left
                · simp only [Act.put, List.setIfInBounds_toArray, List.set_cons_zero, List.set_cons_succ, i64_w, i32_w]
                  rfl
                refine pure_ (i := 1) (N := some 70) (v := ?_) (a' := ?_) #[true, true, false, false, false, false, false, false, false, false, false] rfl rfl (by kernel_rfl) (fun _ _ _ h => h) (Or.inl ⟨by rfl, ?_⟩) ?_ ?_
                rotate_left
                · intro w'
                  go_simp
                  with_reducible rfl
                rotate_left
                · simp only [Act.put, List.setIfInBounds_toArray, List.set_cons_zero, List.set_cons_succ, i64_w, i32_w]
                  rfl
                refine take_ (i := 2) (N := some 71) (v := ?_) (a' := ?_) #[true, true, true, false, false, false, false, false, false, false, false] rfl rfl (by kernel_rfl) (fun _ _ _ h => h) (Or.inl ⟨by rfl, ?_⟩) hHeld ?_ ?_
                rotate_left
                · intro w' s0
                  go_simp
                  with_reducible rfl
                rotate_left
                · simp only [Act.put, List.setIfInBounds_toArray, List.set_cons_zero, List.set_cons_succ, i64_w, i32_w]
                  rfl
                refine pure_ (i := 3) (N := some 72) (v := ?_) (a' := ?_) #[true, true, true, true, false, false, false, false, false, false, false] rfl rfl (by kernel_rfl) (fun _ _ _ h => h) (Or.inl ⟨by rfl, ?_⟩) ?_ ?_
                rotate_left
                · intro w'
                  go_simp
                  with_reducible rfl
                rotate_left
                · simp only [Act.put, List.setIfInBounds_toArray, List.set_cons_zero, List.set_cons_succ, i64_w, i32_w]
                  rfl
                refine pure_ (i := 4) (N := some 73) (v := undef) (a' := ?_) #[true, true, true, true, true, false, false, false, false, false, false] rfl rfl (by kernel_rfl) (fun _ _ _ h => h) (Or.inr ⟨by rfl, rfl⟩) ?_ ?_
                rotate_left
                · simp only [Act.put, List.setIfInBounds_toArray, List.set_cons_zero, List.set_cons_succ, i64_w, i32_w]
                  rfl
                refine pure_ (i := 5) (N := some 74) (v := undef) (a' := ?_) #[true, true, true, true, true, true, false, false, false, false, false] rfl rfl (by kernel_rfl) (fun _ _ _ h => h) (Or.inr ⟨by rfl, rfl⟩) ?_ ?_
                rotate_left
                · simp only [Act.put, List.setIfInBounds_toArray, List.set_cons_zero, List.set_cons_succ, i64_w, i32_w]
                  rfl
                refine pure_ (i := 6) (N := some 75) (v := undef) (a' := ?_) #[true, true, true, true, true, true, true, false, false, false, false] rfl rfl (by kernel_rfl) (fun _ _ _ h => h) (Or.inr ⟨by rfl, rfl⟩) ?_ ?_
                rotate_left
                · simp only [Act.put, List.setIfInBounds_toArray, List.set_cons_zero, List.set_cons_succ, i64_w, i32_w]
                  rfl
                refine pure_ (i := 7) (N := some 76) (v := undef) (a' := ?_) #[true, true, true, true, true, true, true, true, false, false, false] rfl rfl (by kernel_rfl) (fun _ _ _ h => h) (Or.inr ⟨by rfl, rfl⟩) ?_ ?_
                rotate_left
                · simp only [Act.put, List.setIfInBounds_toArray, List.set_cons_zero, List.set_cons_succ, i64_w, i32_w]
                  rfl
                refine pure_ (i := 8) (N := some 77) (v := undef) (a' := ?_) #[true, true, true, true, true, true, true, true, true, false, false] rfl rfl (by kernel_rfl) (fun _ _ _ h => h) (Or.inr ⟨by rfl, rfl⟩) ?_ ?_
                rotate_left
                · simp only [Act.put, List.setIfInBounds_toArray, List.set_cons_zero, List.set_cons_succ, i64_w, i32_w]
                  rfl
                refine pure_ (i := 9) (N := some 78) (v := undef) (a' := ?_) #[true, true, true, true, true, true, true, true, true, true, false] rfl rfl (by kernel_rfl) (fun _ _ _ h => h) (Or.inr ⟨by rfl, rfl⟩) ?_ ?_
                rotate_left
                · simp only [Act.put, List.setIfInBounds_toArray, List.set_cons_zero, List.set_cons_succ, i64_w, i32_w]
                  rfl
                refine pure_ (i := 10) (N := some 79) (v := ?_) (a' := ?_) #[true, true, true, true, true, true, true, true, true, true, true] rfl rfl (by kernel_rfl) (fun _ _ _ h => h) (Or.inl ⟨by rfl, ?_⟩) ?_ ?_
                rotate_left
                · intro w'
                  go_simp
                  with_reducible rfl
                rotate_left
                · simp only [Act.put, List.setIfInBounds_toArray, List.set_cons_zero, List.set_cons_succ, i64_w, i32_w]
                  rfl
                refine done_ (by kernel_rfl) ?_

                clear hHeld
                have HD := Aside0.mk HD.out.drew
                have HR := Aside0.mk (Kd.R_below HR.out (below_drew (Below.refl _ _)))
                have u8 := HD.out.E.cell (i := r) hr64
                simp only [endF, ← hev] at u8
                clear u9
                go_wp2
                have u9 := HD.out.drew.W.cell (i := r) hr64
                have f9 := HD.out.drew.W.frozen r
                refine start_ (n := 11) (S := fun w' => w'.cell? ⟨(ah.add (k * 3)).block, (ah.add (k * 3)).off + 2, none⟩ = some (.int .i64 xv.f2) ∧ w'.cell? ⟨e8, r, none⟩ = some (.int .i64 (endV h (r : Int) k)) ∧ w'.frozen? ⟨e8, r, none⟩ = false) (ds := [10]) #[false, false, false, false, false, false, false, false, false, false, false] (by kernel_rfl) rfl rfl ⟨(pw_cell_below HD.out.drew.B z2w), (HD.out.drew.E.cell hr64), (HD.out.drew.E.frozen r)⟩ (fun hHeld => ?_)
                refine pure_ (i := 0) (N := some 80) (v := ?_) (a' := ?_) #[true, false, false, false, false, false, false, false, false, false, false] rfl rfl (by kernel_rfl) (fun _ _ _ h => h) (Or.inl ⟨by rfl, ?_⟩) ?_ ?_
                rotate_left
                · intro w'
                  go_simp
                  with_reducible rfl
                rotate_left
                · simp only [Act.put, List.setIfInBounds_toArray, List.set_cons_zero, List.set_cons_succ, i64_w, i32_w]
                  rfl
                refine pure_ (i := 1) (N := some 81) (v := ?_) (a' := ?_) #[true, true, false, false, false, false, false, false, false, false, false] rfl rfl (by kernel_rfl) (fun _ _ _ h => h) (Or.inl ⟨by rfl, ?_⟩) ?_ ?_
                rotate_left
                · intro w'
                  go_simp
                  with_reducible rfl
                rotate_left
                · simp only [Act.put, List.setIfInBounds_toArray, List.set_cons_zero, List.set_cons_succ, i64_w, i32_w]
                  rfl
                refine pure_ (i := 2) (N := some 82) (v := ?_) (a' := ?_) #[true, true, true, false, false, false, false, false, false, false, false] rfl rfl (by kernel_rfl) (fun _ _ _ h => h) (Or.inl ⟨by rfl, ?_⟩) ?_ ?_
                rotate_left
                · intro w'
                  go_simp
                  with_reducible rfl
                rotate_left
                · simp only [Act.put, List.setIfInBounds_toArray, List.set_cons_zero, List.set_cons_succ, i64_w, i32_w]
                  rfl
                refine pure_ (i := 3) (N := some 83) (v := ?_) (a' := ?_) #[true, true, true, true, false, false, false, false, false, false, false] rfl rfl (by kernel_rfl) (fun _ _ _ h => h) (Or.inl ⟨by rfl, ?_⟩) ?_ ?_
                rotate_left
                · intro w'
                  go_simp
                  with_reducible rfl
                rotate_left
                · simp only [Act.put, List.setIfInBounds_toArray, List.set_cons_zero, List.set_cons_succ, i64_w, i32_w]
                  rfl
                refine pure_ (i := 4) (N := some 84) (v := ?_) (a' := ?_) #[true, true, true, true, true, false, false, false, false, false, false] rfl rfl (by kernel_rfl) (fun _ _ _ h => h) (Or.inl ⟨by rfl, ?_⟩) ?_ ?_
                rotate_left
                · intro w'
                  go_simp
                  with_reducible rfl
                rotate_left
                · simp only [Act.put, List.setIfInBounds_toArray, List.set_cons_zero, List.set_cons_succ, i64_w, i32_w]
                  rfl
                refine pure_ (i := 5) (N := some 85) (v := ?_) (a' := ?_) #[true, true, true, true, true, true, false, false, false, false, false] rfl rfl (by kernel_rfl) (fun _ _ _ h => h) (Or.inl ⟨by rfl, ?_⟩) ?_ ?_
                rotate_left
                · intro w'
                  go_simp
                  with_reducible rfl
                rotate_left
                · simp only [Act.put, List.setIfInBounds_toArray, List.set_cons_zero, List.set_cons_succ, i64_w, i32_w]
                  rfl
                refine pure_ (i := 7) (N := some 87) (v := ?_) (a' := ?_) #[true, true, true, true, true, true, false, true, false, false, false] rfl rfl (by kernel_rfl) (fun _ _ _ h => h) (Or.inl ⟨by rfl, ?_⟩) ?_ ?_
                rotate_left
                · intro w'
                  go_simp
                  with_reducible rfl
                rotate_left
                · simp only [Act.put, List.setIfInBounds_toArray, List.set_cons_zero, List.set_cons_succ, i64_w, i32_w]
                  rfl
                refine take_ (i := 6) (N := some 86) (v := ?_) (a' := ?_) #[true, true, true, true, true, true, true, true, false, false, false] rfl rfl (by kernel_rfl) (fun _ _ _ h => h) (Or.inl ⟨by rfl, ?_⟩) hHeld ?_ ?_
                rotate_left
                · rintro w' ⟨s0, s1, s2⟩
                  go_simp
                  with_reducible rfl
                rotate_left
                · simp only [Act.put, List.setIfInBounds_toArray, List.set_cons_zero, List.set_cons_succ, i64_w, i32_w]
                  rfl
                refine one_ (i := 8) (N := none) #[true, true, true, true, true, true, true, true, true, false, false] rfl rfl (by kernel_rfl) (by decide) (fun K hK => ?_)
                refine skip_ (w1 := ?_) (by rfl) rfl ?_ ?_
                rotate_left
                · go_simp
                  rfl
                refine hK.out _ _ ⟨(pw_cell_below (HD.out.drew.B.setCell HD.out.a9 _) z2w), ((HD.out.drew.E.setOther (rowIs_ne HD.out.drew.E HD.out.drew.W (by decide)) _).cell hr64), ((HD.out.drew.E.setOther (rowIs_ne HD.out.drew.E HD.out.drew.W (by decide)) _).frozen r)⟩ (fun hHeld => ?_)
                clear hK K
                refine pure_ (i := 9) (N := some 88) (v := ?_) (a' := ?_) #[true, true, true, true, true, true, true, true, true, true, false] rfl rfl (by kernel_rfl) (fun _ _ _ h => h) (Or.inl ⟨by rfl, ?_⟩) ?_ ?_
                rotate_left
                · intro w'
                  go_simp
                  with_reducible rfl
                rotate_left
                · simp only [Act.put, List.setIfInBounds_toArray, List.set_cons_zero, List.set_cons_succ, i64_w, i32_w]
                  rfl
                refine last_ (i := 10) (N := none) #[true, true, true, true, true, true, true, true, true, true, true] rfl rfl (by kernel_rfl) (by decide) (fun K hK => ?_)
                refine skip_ (w1 := ?_) (by rfl) rfl ?_ ?_
                rotate_left
                · go_simp
                  rfl
                refine hK.out _ _ ?_
                clear hK K
                refine done_ (by kernel_rfl) ?_

                clear hHeld
                go_wp2
                have hp := HD.out.drew.put (r := r) hr64 (by rw [← XV.out]; exact ER.out) (Kd.R_below HR.out (below_drew (Below.refl _ _))) (x := xv.f2) (by rw [XV.out])
                have HDE := Aside0.mk hp.1
                have HRE := Aside0.mk hp.2
                clear hp
                go_roundw
                case rel => exact ⟨k + 1, by omega, by go_num, HDE, ⟨by rw [HSS.out]; exact HRE.out⟩, ⟨fun i hi => by
                    rcases (by omega : i < k ∨ i = k) with hi | rfl
                    · exact HA.out i hi
                    · exact HAT.out⟩⟩
                case measure => simp [intOf]; omega
              | some j =>
                have u9 := HD.out.W.cell (i := r) hr64
                have u8 := HD.out.E.cell (i := r) hr64
                obtain ⟨ev, hev⟩ : ∃ ev, ev = endV h (r : Int) k := ⟨_, rfl⟩
                simp only [wasF, endF, hl, Option.isSome_some, ← hev] at u9 u8
                have EV := Aside0.mk (show (ho h j).f2 = ev by rw [hev]; unfold endV; rw [hl])
                have HL := Aside0.mk hl
                have HEV := Aside0.mk hev
                have y1 : w5.cell? ⟨bx, 1, none⟩ = some (.int .i64 sv.f1) := HX5.out.cell (i := 1) (by omega)
                clear hl hev
                by_cases d : sv.f1 < ev
                · have b1 : decide (sv.f1 < ev) = true := decide_eq_true d
                  refine start_ (n := 11) (S := fun w' => w'.cell? ⟨e9, r, none⟩ = some (.bool true) ∧ w'.cell? ⟨e8, r, none⟩ = some (.int .i64 ev) ∧ w'.cell? ⟨bx, 1, none⟩ = some (.int .i64 sv.f1)) (ds := []) #[false, false, false, false, false, false, false, false, false, false, false] (by kernel_rfl) rfl rfl ⟨(pw_cell_below (below_drew (Below.refl _ _)) u9), (pw_cell_below (below_drew (Below.refl _ _)) u8), (pw_cell_below (below_drew (Below.refl _ _)) y1)⟩ (fun hHeld => ?_)
                  refine pure_ (i := 0) (N := some 69) (v := ?_) (a' := ?_) #[true, false, false, false, false, false, false, false, false, false, false] rfl rfl (by kernel_rfl) (fun _ _ _ h => h) (Or.inl ⟨by rfl, ?_⟩) ?_ ?_
                  rotate_left
                  · intro w'
                    go_simp
                    with_reducible rfl
                  rotate_left
                  · simp only [Act.put, List.setIfInBounds_toArray, List.set_cons_zero, List.set_cons_succ, i64_w, i32_w]
                    rfl
                  refine pure_ (i := 1) (N := some 70) (v := ?_) (a' := ?_) #[true, true, false, false, false, false, false, false, false, false, false] rfl rfl (by kernel_rfl) (fun _ _ _ h => h) (Or.inl ⟨by rfl, ?_⟩) ?_ ?_
                  rotate_left
                  · intro w'
                    go_simp
                    with_reducible rfl
                  rotate_left
                  · simp only [Act.put, List.setIfInBounds_toArray, List.set_cons_zero, List.set_cons_succ, i64_w, i32_w]
                    rfl
                  refine take_ (i := 2) (N := some 71) (v := ?_) (a' := ?_) #[true, true, true, false, false, false, false, false, false, false, false] rfl rfl (by kernel_rfl) (fun _ _ _ h => h) (Or.inl ⟨by rfl, ?_⟩) hHeld ?_ ?_
                  rotate_left
                  · rintro w' ⟨s0, s1, s2⟩
                    go_simp
                    with_reducible rfl
                  rotate_left
                  · simp only [Act.put, List.setIfInBounds_toArray, List.set_cons_zero, List.set_cons_succ, i64_w, i32_w]
                    rfl
                  refine pure_ (i := 3) (N := some 72) (v := ?_) (a' := ?_) #[true, true, true, true, false, false, false, false, false, false, false] rfl rfl (by kernel_rfl) (fun _ _ _ h => h) (Or.inl ⟨by rfl, ?_⟩) ?_ ?_
                  rotate_left
                  · intro w'
                    go_simp
                    with_reducible rfl
                  rotate_left
                  · simp only [Act.put, List.setIfInBounds_toArray, List.set_cons_zero, List.set_cons_succ, i64_w, i32_w]
                    rfl
                  refine pure_ (i := 4) (N := some 73) (v := ?_) (a' := ?_) #[true, true, true, true, true, false, false, false, false, false, false] rfl rfl (by kernel_rfl) (fun _ _ _ h => h) (Or.inl ⟨by rfl, ?_⟩) ?_ ?_
                  rotate_left
                  · intro w'
                    go_simp
                    with_reducible rfl
                  rotate_left
                  · simp only [Act.put, List.setIfInBounds_toArray, List.set_cons_zero, List.set_cons_succ, i64_w, i32_w]
                    rfl
                  refine pure_ (i := 5) (N := some 74) (v := ?_) (a' := ?_) #[true, true, true, true, true, true, false, false, false, false, false] rfl rfl (by kernel_rfl) (fun _ _ _ h => h) (Or.inl ⟨by rfl, ?_⟩) ?_ ?_
                  rotate_left
                  · intro w'
                    go_simp
                    with_reducible rfl
                  rotate_left
                  · simp only [Act.put, List.setIfInBounds_toArray, List.set_cons_zero, List.set_cons_succ, i64_w, i32_w]
                    rfl
                  refine pure_ (i := 7) (N := some 76) (v := ?_) (a' := ?_) #[true, true, true, true, true, true, false, true, false, false, false] rfl rfl (by kernel_rfl) (fun _ _ _ h => h) (Or.inl ⟨by rfl, ?_⟩) ?_ ?_
                  rotate_left
                  · intro w'
                    go_simp
                    with_reducible rfl
                  rotate_left
                  · simp only [Act.put, List.setIfInBounds_toArray, List.set_cons_zero, List.set_cons_succ, i64_w, i32_w]
                    rfl
                  refine take_ (i := 6) (N := some 75) (v := ?_) (a' := ?_) #[true, true, true, true, true, true, true, true, false, false, false] rfl rfl (by kernel_rfl) (fun _ _ _ h => h) (Or.inl ⟨by rfl, ?_⟩) hHeld ?_ ?_
                  rotate_left
                  · rintro w' ⟨s0, s1, s2⟩
                    go_simp
                    with_reducible rfl
                  rotate_left
                  · simp only [Act.put, List.setIfInBounds_toArray, List.set_cons_zero, List.set_cons_succ, i64_w, i32_w]
                    rfl
                  refine take_ (i := 8) (N := some 77) (v := ?_) (a' := ?_) #[true, true, true, true, true, true, true, true, true, false, false] rfl rfl (by kernel_rfl) (fun _ _ _ h => h) (Or.inl ⟨by rfl, ?_⟩) hHeld ?_ ?_
                  rotate_left
                  · rintro w' ⟨s0, s1, s2⟩
                    go_simp
                    with_reducible rfl
                  rotate_left
                  · simp only [Act.put, List.setIfInBounds_toArray, List.set_cons_zero, List.set_cons_succ, i64_w, i32_w]
                    rfl
                  refine pure_ (i := 9) (N := some 78) (v := ?_) (a' := ?_) #[true, true, true, true, true, true, true, true, true, true, false] rfl rfl (by kernel_rfl) (fun _ _ _ h => h) (Or.inl ⟨by rfl, ?_⟩) ?_ ?_
                  rotate_left
                  · intro w'
                    go_simp
                    with_reducible rfl
                  rotate_left
                  · simp only [Act.put, List.setIfInBounds_toArray, List.set_cons_zero, List.set_cons_succ, i64_w, i32_w]
                    rfl
                  refine pure_ (i := 10) (N := some 79) (v := ?_) (a' := ?_) #[true, true, true, true, true, true, true, true, true, true, true] rfl rfl (by kernel_rfl) (fun _ _ _ h => h) (Or.inl ⟨by rfl, ?_⟩) ?_ ?_
                  rotate_left
                  · intro w'
                    go_simp
                    with_reducible rfl
                  rotate_left
                  · simp only [Act.put, List.setIfInBounds_toArray, List.set_cons_zero, List.set_cons_succ, i64_w, i32_w]
                    rfl
                  refine done_ (by kernel_rfl) ?_

                  clear hHeld
                  go_wp2
                  go_ret
                  refine ⟨?_, HD.out.drew.B⟩
                  rw [holdsB_bad HLT.out (.inr (by
                    unfold pairB
                    rw [← SV.out, ← XV.out, if_pos (by rw [ER.out]; omega), ER.out, HL.out]
                    exact decide_eq_false (by rw [EV.out]; omega)))]
                  rfl
                · have b1 : decide (sv.f1 < ev) = false := decide_eq_false d
                  refine start_ (n := 11) (S := fun w' => w'.cell? ⟨e9, r, none⟩ = some (.bool true) ∧ w'.cell? ⟨e8, r, none⟩ = some (.int .i64 ev) ∧ w'.cell? ⟨bx, 1, none⟩ = some (.int .i64 sv.f1)) (ds := []) #[false, false, false, false, false, false, false, false, false, false, false] (by kernel_rfl) rfl rfl ⟨(pw_cell_below (below_drew (Below.refl _ _)) u9), (pw_cell_below (below_drew (Below.refl _ _)) u8), (pw_cell_below (below_drew (Below.refl _ _)) y1)⟩ (fun hHeld => ?_)
                  refine pure_ (i := 0) (N := some 69) (v := ?_) (a' := ?_) #[true, false, false, false, false, false, false, false, false, false, false] rfl rfl (by kernel_rfl) (fun _ _ _ h => h) (Or.inl ⟨by rfl, ?_⟩) ?_ ?_
                  rotate_left
                  · intro w'
                    go_simp
                    with_reducible rfl
                  rotate_left
                  · simp only [Act.put, List.setIfInBounds_toArray, List.set_cons_zero, List.set_cons_succ, i64_w, i32_w]
                    rfl
                  refine pure_ (i := 1) (N := some 70) (v := ?_) (a' := ?_) #[true, true, false, false, false, false, false, false, false, false, false] rfl rfl (by kernel_rfl) (fun _ _ _ h => h) (Or.inl ⟨by rfl, ?_⟩) ?_ ?_
                  rotate_left
                  · intro w'
                    go_simp
                    with_reducible rfl
                  rotate_left
                  · simp only [Act.put, List.setIfInBounds_toArray, List.set_cons_zero, List.set_cons_succ, i64_w, i32_w]
                    rfl
                  refine take_ (i := 2) (N := some 71) (v := ?_) (a' := ?_) #[true, true, true, false, false, false, false, false, false, false, false] rfl rfl (by kernel_rfl) (fun _ _ _ h => h) (Or.inl ⟨by rfl, ?_⟩) hHeld ?_ ?_
                  rotate_left
                  · rintro w' ⟨s0, s1, s2⟩
                    go_simp
                    with_reducible rfl
                  rotate_left
                  · simp only [Act.put, List.setIfInBounds_toArray, List.set_cons_zero, List.set_cons_succ, i64_w, i32_w]
                    rfl
                  refine pure_ (i := 3) (N := some 72) (v := ?_) (a' := ?_) #[true, true, true, true, false, false, false, false, false, false, false] rfl rfl (by kernel_rfl) (fun _ _ _ h => h) (Or.inl ⟨by rfl, ?_⟩) ?_ ?_
                  rotate_left
                  · intro w'
                    go_simp
                    with_reducible rfl
                  rotate_left
                  · simp only [Act.put, List.setIfInBounds_toArray, List.set_cons_zero, List.set_cons_succ, i64_w, i32_w]
                    rfl
                  refine pure_ (i := 4) (N := some 73) (v := ?_) (a' := ?_) #[true, true, true, true, true, false, false, false, false, false, false] rfl rfl (by kernel_rfl) (fun _ _ _ h => h) (Or.inl ⟨by rfl, ?_⟩) ?_ ?_
                  rotate_left
                  · intro w'
                    go_simp
                    with_reducible rfl
                  rotate_left
                  · simp only [Act.put, List.setIfInBounds_toArray, List.set_cons_zero, List.set_cons_succ, i64_w, i32_w]
                    rfl
                  refine pure_ (i := 5) (N := some 74) (v := ?_) (a' := ?_) #[true, true, true, true, true, true, false, false, false, false, false] rfl rfl (by kernel_rfl) (fun _ _ _ h => h) (Or.inl ⟨by rfl, ?_⟩) ?_ ?_
                  rotate_left
                  · intro w'
                    go_simp
                    with_reducible rfl
                  rotate_left
                  · simp only [Act.put, List.setIfInBounds_toArray, List.set_cons_zero, List.set_cons_succ, i64_w, i32_w]
                    rfl
                  refine pure_ (i := 7) (N := some 76) (v := ?_) (a' := ?_) #[true, true, true, true, true, true, false, true, false, false, false] rfl rfl (by kernel_rfl) (fun _ _ _ h => h) (Or.inl ⟨by rfl, ?_⟩) ?_ ?_
                  rotate_left
                  · intro w'
                    go_simp
                    with_reducible rfl
                  rotate_left
                  · simp only [Act.put, List.setIfInBounds_toArray, List.set_cons_zero, List.set_cons_succ, i64_w, i32_w]
                    rfl
                  refine take_ (i := 6) (N := some 75) (v := ?_) (a' := ?_) #[true, true, true, true, true, true, true, true, false, false, false] rfl rfl (by kernel_rfl) (fun _ _ _ h => h) (Or.inl ⟨by rfl, ?_⟩) hHeld ?_ ?_
                  rotate_left
                  · rintro w' ⟨s0, s1, s2⟩
                    go_simp
                    with_reducible rfl
                  rotate_left
                  · simp only [Act.put, List.setIfInBounds_toArray, List.set_cons_zero, List.set_cons_succ, i64_w, i32_w]
                    rfl
                  refine take_ (i := 8) (N := some 77) (v := ?_) (a' := ?_) #[true, true, true, true, true, true, true, true, true, false, false] rfl rfl (by kernel_rfl) (fun _ _ _ h => h) (Or.inl ⟨by rfl, ?_⟩) hHeld ?_ ?_
                  rotate_left
                  · rintro w' ⟨s0, s1, s2⟩
                    go_simp
                    with_reducible rfl
                  rotate_left
                  · simp only [Act.put, List.setIfInBounds_toArray, List.set_cons_zero, List.set_cons_succ, i64_w, i32_w]
                    rfl
                  refine pure_ (i := 9) (N := some 78) (v := ?_) (a' := ?_) #[true, true, true, true, true, true, true, true, true, true, false] rfl rfl (by kernel_rfl) (fun _ _ _ h => h) (Or.inl ⟨by rfl, ?_⟩) ?_ ?_
                  rotate_left
                  · intro w'
                    go_simp
                    with_reducible rfl
                  rotate_left
                  · simp only [Act.put, List.setIfInBounds_toArray, List.set_cons_zero, List.set_cons_succ, i64_w, i32_w]
                    rfl
                  refine pure_ (i := 10) (N := some 79) (v := ?_) (a' := ?_) #[true, true, true, true, true, true, true, true, true, true, true] rfl rfl (by kernel_rfl) (fun _ _ _ h => h) (Or.inl ⟨by rfl, ?_⟩) ?_ ?_
                  rotate_left
                  · intro w'
                    go_simp
                    with_reducible rfl
                  rotate_left
                  · simp only [Act.put, List.setIfInBounds_toArray, List.set_cons_zero, List.set_cons_succ, i64_w, i32_w]
                    rfl
                  refine done_ (by kernel_rfl) ?_

                  clear hHeld
                  have HAT := Aside0.mk (show atB l h regs k = true by
                    unfold atB pairB
                    rw [← SV.out, ← XV.out, HOB.out, if_pos (by rw [ER.out]; omega), ER.out, HL.out]
                    exact decide_eq_true (by rw [EV.out]; omega))
                  have HD := Aside0.mk HD.out.drew
                  have HR := Aside0.mk (Kd.R_below HR.out (below_drew (Below.refl _ _)))
                  have u8 := HD.out.E.cell (i := r) hr64
                  simp only [endF, ← HEV.out] at u8
                  clear u9 y1
                  go_wp2
                  have u9 := HD.out.drew.W.cell (i := r) hr64
                  have f9 := HD.out.drew.W.frozen r
                  refine start_ (n := 11) (S := fun w' => w'.cell? ⟨(ah.add (k * 3)).block, (ah.add (k * 3)).off + 2, none⟩ = some (.int .i64 xv.f2) ∧ w'.cell? ⟨e8, r, none⟩ = some (.int .i64 (endV h (r : Int) k)) ∧ w'.frozen? ⟨e8, r, none⟩ = false) (ds := [10]) #[false, false, false, false, false, false, false, false, false, false, false] (by kernel_rfl) rfl rfl ⟨(pw_cell_below HD.out.drew.B z2w), (HD.out.drew.E.cell hr64), (HD.out.drew.E.frozen r)⟩ (fun hHeld => ?_)
                  refine pure_ (i := 0) (N := some 80) (v := ?_) (a' := ?_) #[true, false, false, false, false, false, false, false, false, false, false] rfl rfl (by kernel_rfl) (fun _ _ _ h => h) (Or.inl ⟨by rfl, ?_⟩) ?_ ?_
                  rotate_left
                  · intro w'
                    go_simp
                    with_reducible rfl
                  rotate_left
                  · simp only [Act.put, List.setIfInBounds_toArray, List.set_cons_zero, List.set_cons_succ, i64_w, i32_w]
                    rfl
                  refine pure_ (i := 1) (N := some 81) (v := ?_) (a' := ?_) #[true, true, false, false, false, false, false, false, false, false, false] rfl rfl (by kernel_rfl) (fun _ _ _ h => h) (Or.inl ⟨by rfl, ?_⟩) ?_ ?_
                  rotate_left
                  · intro w'
                    go_simp
                    with_reducible rfl
                  rotate_left
                  · simp only [Act.put, List.setIfInBounds_toArray, List.set_cons_zero, List.set_cons_succ, i64_w, i32_w]
                    rfl
                  refine pure_ (i := 2) (N := some 82) (v := ?_) (a' := ?_) #[true, true, true, false, false, false, false, false, false, false, false] rfl rfl (by kernel_rfl) (fun _ _ _ h => h) (Or.inl ⟨by rfl, ?_⟩) ?_ ?_
                  rotate_left
                  · intro w'
                    go_simp
                    with_reducible rfl
                  rotate_left
                  · simp only [Act.put, List.setIfInBounds_toArray, List.set_cons_zero, List.set_cons_succ, i64_w, i32_w]
                    rfl
                  refine pure_ (i := 3) (N := some 83) (v := ?_) (a' := ?_) #[true, true, true, true, false, false, false, false, false, false, false] rfl rfl (by kernel_rfl) (fun _ _ _ h => h) (Or.inl ⟨by rfl, ?_⟩) ?_ ?_
                  rotate_left
                  · intro w'
                    go_simp
                    with_reducible rfl
                  rotate_left
                  · simp only [Act.put, List.setIfInBounds_toArray, List.set_cons_zero, List.set_cons_succ, i64_w, i32_w]
                    rfl
                  refine pure_ (i := 4) (N := some 84) (v := ?_) (a' := ?_) #[true, true, true, true, true, false, false, false, false, false, false] rfl rfl (by kernel_rfl) (fun _ _ _ h => h) (Or.inl ⟨by rfl, ?_⟩) ?_ ?_
                  rotate_left
                  · intro w'
                    go_simp
                    with_reducible rfl
                  rotate_left
                  · simp only [Act.put, List.setIfInBounds_toArray, List.set_cons_zero, List.set_cons_succ, i64_w, i32_w]
                    rfl
                  refine pure_ (i := 5) (N := some 85) (v := ?_) (a' := ?_) #[true, true, true, true, true, true, false, false, false, false, false] rfl rfl (by kernel_rfl) (fun _ _ _ h => h) (Or.inl ⟨by rfl, ?_⟩) ?_ ?_
                  rotate_left
                  · intro w'
                    go_simp
                    with_reducible rfl
                  rotate_left
                  · simp only [Act.put, List.setIfInBounds_toArray, List.set_cons_zero, List.set_cons_succ, i64_w, i32_w]
                    rfl
                  refine pure_ (i := 7) (N := some 87) (v := ?_) (a' := ?_) #[true, true, true, true, true, true, false, true, false, false, false] rfl rfl (by kernel_rfl) (fun _ _ _ h => h) (Or.inl ⟨by rfl, ?_⟩) ?_ ?_
                  rotate_left
                  · intro w'
                    go_simp
                    with_reducible rfl
                  rotate_left
                  · simp only [Act.put, List.setIfInBounds_toArray, List.set_cons_zero, List.set_cons_succ, i64_w, i32_w]
                    rfl
                  refine take_ (i := 6) (N := some 86) (v := ?_) (a' := ?_) #[true, true, true, true, true, true, true, true, false, false, false] rfl rfl (by kernel_rfl) (fun _ _ _ h => h) (Or.inl ⟨by rfl, ?_⟩) hHeld ?_ ?_
                  rotate_left
                  · rintro w' ⟨s0, s1, s2⟩
                    go_simp
                    with_reducible rfl
                  rotate_left
                  · simp only [Act.put, List.setIfInBounds_toArray, List.set_cons_zero, List.set_cons_succ, i64_w, i32_w]
                    rfl
                  refine one_ (i := 8) (N := none) #[true, true, true, true, true, true, true, true, true, false, false] rfl rfl (by kernel_rfl) (by decide) (fun K hK => ?_)
                  refine skip_ (w1 := ?_) (by rfl) rfl ?_ ?_
                  rotate_left
                  · go_simp
                    rfl
                  refine hK.out _ _ ⟨(pw_cell_below (HD.out.drew.B.setCell HD.out.a9 _) z2w), ((HD.out.drew.E.setOther (rowIs_ne HD.out.drew.E HD.out.drew.W (by decide)) _).cell hr64), ((HD.out.drew.E.setOther (rowIs_ne HD.out.drew.E HD.out.drew.W (by decide)) _).frozen r)⟩ (fun hHeld => ?_)
                  clear hK K
                  refine pure_ (i := 9) (N := some 88) (v := ?_) (a' := ?_) #[true, true, true, true, true, true, true, true, true, true, false] rfl rfl (by kernel_rfl) (fun _ _ _ h => h) (Or.inl ⟨by rfl, ?_⟩) ?_ ?_
                  rotate_left
                  · intro w'
                    go_simp
                    with_reducible rfl
                  rotate_left
                  · simp only [Act.put, List.setIfInBounds_toArray, List.set_cons_zero, List.set_cons_succ, i64_w, i32_w]
                    rfl
                  refine last_ (i := 10) (N := none) #[true, true, true, true, true, true, true, true, true, true, true] rfl rfl (by kernel_rfl) (by decide) (fun K hK => ?_)
                  refine skip_ (w1 := ?_) (by rfl) rfl ?_ ?_
                  rotate_left
                  · go_simp
                    rfl
                  refine hK.out _ _ ?_
                  clear hK K
                  refine done_ (by kernel_rfl) ?_

                  clear hHeld
                  go_wp2
                  have hp := HD.out.drew.put (r := r) hr64 (by rw [← XV.out]; exact ER.out) (Kd.R_below HR.out (below_drew (Below.refl _ _))) (x := xv.f2) (by rw [XV.out])
                  have HDE := Aside0.mk hp.1
                  have HRE := Aside0.mk hp.2
                  clear hp
                  go_roundw
                  case rel => exact ⟨k + 1, by omega, by go_num, HDE, ⟨by rw [HSS.out]; exact HRE.out⟩, ⟨fun i hi => by
                      rcases (by omega : i < k ∨ i = k) with hi | rfl
                      · exact HA.out i hi
                      · exact HAT.out⟩⟩
                  case measure => simp [intOf]; omega
          · clear hkh
            have hkh := HKH.out
            have HSS := Aside0.mk (show slotsOf (h.take (k + 1)) = slotsOf (h.take k) by rw [slotsOf_succ hkh, ← XV.out, if_neg s0]; exact List.append_nil _)
            by_cases r0 : xv.f0 < 0
            · have z0 := pw_cell_below HD4.out.B z0w
              have z2 := pw_cell_below HD4.out.B z2w
              have HD5 := HD4
              have HR5 := HR4
              have HX5 := HX4
              obtain ⟨v8, ev8⟩ : ∃ v8, v8 = u7 := ⟨_, rfl⟩
              obtain ⟨w5, ew5⟩ : ∃ w5, w5 = w4 := ⟨_, rfl⟩
              subst ev8 ew5
              go_wp2
              have HRE := HR5
              have HDE := Aside0.mk (HD5.out.next (by rw [← XV.out]; exact r0))
              have HAT := Aside0.mk (show atB l h regs k = true by
                unfold atB pairB
                rw [← SV.out, ← XV.out, HOB.out, if_neg (by omega)]; rfl)
              go_roundw
              case rel => exact ⟨k + 1, by omega, by go_num, HDE, ⟨by rw [HSS.out]; exact HRE.out⟩, ⟨fun i hi => by
                  rcases (by omega : i < k ∨ i = k) with hi | rfl
                  · exact HA.out i hi
                  · exact HAT.out⟩⟩
              case measure => simp [intOf]; omega
            · obtain ⟨r, er⟩ : ∃ r : Nat, xv.f0 = (r : Int) := ⟨xv.f0.toNat, by omega⟩
              have hr64 : r < 64 := by have := HF0.out; omega
              have hr64i : (r : Int) < 64 := by omega
              have hr0i : (0 : Int) ≤ (r : Int) := by omega
              have ER := Aside0.mk er
              rw [er] at z0w r0
              clear er
              have z0 := pw_cell_below HD4.out.B z0w
              have z2 := pw_cell_below HD4.out.B z2w
              have HD5 := HD4
              have HR5 := HR4
              have HX5 := HX4
              obtain ⟨v8, ev8⟩ : ∃ v8, v8 = u7 := ⟨_, rfl⟩
              obtain ⟨w5, ew5⟩ : ∃ w5, w5 = w4 := ⟨_, rfl⟩
              subst ev8 ew5
              go_wp2
              have HD := HD5
              have HR := HR5
              cases hl : lastOf h (r : Int) k with
              | none =>
                have u9 := HD.out.W.cell (i := r) hr64
                have u8 := HD.out.E.cell (i := r) hr64
                obtain ⟨ev, hev⟩ : ∃ ev, ev = endV h (r : Int) k := ⟨_, rfl⟩
                simp only [wasF, endF, hl, Option.isSome_none, ← hev] at u9 u8
                have HAT := Aside0.mk (show atB l h regs k = true by
                  unfold atB pairB
                  rw [← SV.out, ← XV.out, HOB.out, ER.out, hl]; simp)
                clear hl
                refine start_ (n := 11) (S := fun w' => w'.cell? ⟨e9, r, none⟩ = some (.bool false)) (ds := []) #[false, false, false, false, false, false, false, false, false, false, false] (by kernel_rfl) rfl rfl ((pw_cell_below (below_drew (Below.refl _ _)) u9)) (fun hHeld => ?_)
                refine pure_ (i := 0) (N := some 69) (v := ?_) (a' := ?_) #[true, false, false, false, false, false, false, false, false, false, false] rfl rfl (by kernel_rfl) (fun _ _ _ h => h) (Or.inl ⟨by rfl, ?_⟩) ?_ ?_
                rotate_left
                · intro w'
                  go_simp
                  with_reducible rfl
                rotate_left
                · simp only [Act.put, List.setIfInBounds_toArray, List.set_cons_zero, List.set_cons_succ, i64_w, i32_w]
                  rfl
                refine pure_ (i := 1) (N := some 70) (v := ?_) (a' := ?_) #[true, true, false, false, false, false, false, false, false, false, false] rfl rfl (by kernel_rfl) (fun _ _ _ h => h) (Or.inl ⟨by rfl, ?_⟩) ?_ ?_
                rotate_left
                · intro w'
                  go_simp
                  with_reducible rfl
                rotate_left
                · simp only [Act.put, List.setIfInBounds_toArray, List.set_cons_zero, List.set_cons_succ, i64_w, i32_w]
                  rfl
                refine take_ (i := 2) (N := some 71) (v := ?_) (a' := ?_) #[true, true, true, false, false, false, false, false, false, false, false] rfl rfl (by kernel_rfl) (fun _ _ _ h => h) (Or.inl ⟨by rfl, ?_⟩) hHeld ?_ ?_
                rotate_left
                · intro w' s0
                  go_simp
                  with_reducible rfl
                rotate_left
                · simp only [Act.put, List.setIfInBounds_toArray, List.set_cons_zero, List.set_cons_succ, i64_w, i32_w]
                  rfl
                refine pure_ (i := 3) (N := some 72) (v := ?_) (a' := ?_) #[true, true, true, true, false, false, false, false, false, false, false] rfl rfl (by kernel_rfl) (fun _ _ _ h => h) (Or.inl ⟨by rfl, ?_⟩) ?_ ?_
                rotate_left
                · intro w'
                  go_simp
                  with_reducible rfl
                rotate_left
                · simp only [Act.put, List.setIfInBounds_toArray, List.set_cons_zero, List.set_cons_succ, i64_w, i32_w]
                  rfl
                refine pure_ (i := 4) (N := some 73) (v := undef) (a' := ?_) #[true, true, true, true, true, false, false, false, false, false, false] rfl rfl (by kernel_rfl) (fun _ _ _ h => h) (Or.inr ⟨by rfl, rfl⟩) ?_ ?_
                rotate_left
                · simp only [Act.put, List.setIfInBounds_toArray, List.set_cons_zero, List.set_cons_succ, i64_w, i32_w]
                  rfl
                refine pure_ (i := 5) (N := some 74) (v := undef) (a' := ?_) #[true, true, true, true, true, true, false, false, false, false, false] rfl rfl (by kernel_rfl) (fun _ _ _ h => h) (Or.inr ⟨by rfl, rfl⟩) ?_ ?_
                rotate_left
                · simp only [Act.put, List.setIfInBounds_toArray, List.set_cons_zero, List.set_cons_succ, i64_w, i32_w]
                  rfl
                refine pure_ (i := 6) (N := some 75) (v := undef) (a' := ?_) #[true, true, true, true, true, true, true, false, false, false, false] rfl rfl (by kernel_rfl) (fun _ _ _ h => h) (Or.inr ⟨by rfl, rfl⟩) ?_ ?_
                rotate_left
                · simp only [Act.put, List.setIfInBounds_toArray, List.set_cons_zero, List.set_cons_succ, i64_w, i32_w]
                  rfl
                refine pure_ (i := 7) (N := some 76) (v := undef) (a' := ?_) #[true, true, true, true, true, true, true, true, false, false, false] rfl rfl (by kernel_rfl) (fun _ _ _ h => h) (Or.inr ⟨by rfl, rfl⟩) ?_ ?_
                rotate_left
                · simp only [Act.put, List.setIfInBounds_toArray, List.set_cons_zero, List.set_cons_succ, i64_w, i32_w]
                  rfl
                refine pure_ (i := 8) (N := some 77) (v := undef) (a' := ?_) #[true, true, true, true, true, true, true, true, true, false, false] rfl rfl (by kernel_rfl) (fun _ _ _ h => h) (Or.inr ⟨by rfl, rfl⟩) ?_ ?_
                rotate_left
                · simp only [Act.put, List.setIfInBounds_toArray, List.set_cons_zero, List.set_cons_succ, i64_w, i32_w]
                  rfl
                refine pure_ (i := 9) (N := some 78) (v := undef) (a' := ?_) #[true, true, true, true, true, true, true, true, true, true, false] rfl rfl (by kernel_rfl) (fun _ _ _ h => h) (Or.inr ⟨by rfl, rfl⟩) ?_ ?_
                rotate_left
                · simp only [Act.put, List.setIfInBounds_toArray, List.set_cons_zero, List.set_cons_succ, i64_w, i32_w]
                  rfl
                refine pure_ (i := 10) (N := some 79) (v := ?_) (a' := ?_) #[true, true, true, true, true, true, true, true, true, true, true] rfl rfl (by kernel_rfl) (fun _ _ _ h => h) (Or.inl ⟨by rfl, ?_⟩) ?_ ?_
                rotate_left
                · intro w'
                  go_simp
                  with_reducible rfl
                rotate_left
                · simp only [Act.put, List.setIfInBounds_toArray, List.set_cons_zero, List.set_cons_succ, i64_w, i32_w]
                  rfl
                refine done_ (by kernel_rfl) ?_

                clear hHeld
                have HD := Aside0.mk HD.out.drew
                have HR := Aside0.mk (Kd.R_below HR.out (below_drew (Below.refl _ _)))
                have u8 := HD.out.E.cell (i := r) hr64
                simp only [endF, ← hev] at u8
                clear u9
                go_wp2
                have u9 := HD.out.drew.W.cell (i := r) hr64
                have f9 := HD.out.drew.W.frozen r
                refine start_ (n := 11) (S := fun w' => w'.cell? ⟨(ah.add (k * 3)).block, (ah.add (k * 3)).off + 2, none⟩ = some (.int .i64 xv.f2) ∧ w'.cell? ⟨e8, r, none⟩ = some (.int .i64 (endV h (r : Int) k)) ∧ w'.frozen? ⟨e8, r, none⟩ = false) (ds := [10]) #[false, false, false, false, false, false, false, false, false, false, false] (by kernel_rfl) rfl rfl ⟨(pw_cell_below HD.out.drew.B z2w), (HD.out.drew.E.cell hr64), (HD.out.drew.E.frozen r)⟩ (fun hHeld => ?_)
                refine pure_ (i := 0) (N := some 80) (v := ?_) (a' := ?_) #[true, false, false, false, false, false, false, false, false, false, false] rfl rfl (by kernel_rfl) (fun _ _ _ h => h) (Or.inl ⟨by rfl, ?_⟩) ?_ ?_
                rotate_left
                · intro w'
                  go_simp
                  with_reducible rfl
                rotate_left
                · simp only [Act.put, List.setIfInBounds_toArray, List.set_cons_zero, List.set_cons_succ, i64_w, i32_w]
                  rfl
                refine pure_ (i := 1) (N := some 81) (v := ?_) (a' := ?_) #[true, true, false, false, false, false, false, false, false, false, false] rfl rfl (by kernel_rfl) (fun _ _ _ h => h) (Or.inl ⟨by rfl, ?_⟩) ?_ ?_
                rotate_left
                · intro w'
                  go_simp
                  with_reducible rfl
                rotate_left
                · simp only [Act.put, List.setIfInBounds_toArray, List.set_cons_zero, List.set_cons_succ, i64_w, i32_w]
                  rfl
                refine pure_ (i := 2) (N := some 82) (v := ?_) (a' := ?_) #[true, true, true, false, false, false, false, false, false, false, false] rfl rfl (by kernel_rfl) (fun _ _ _ h => h) (Or.inl ⟨by rfl, ?_⟩) ?_ ?_
                rotate_left
                · intro w'
                  go_simp
                  with_reducible rfl
                rotate_left
                · simp only [Act.put, List.setIfInBounds_toArray, List.set_cons_zero, List.set_cons_succ, i64_w, i32_w]
                  rfl
                refine pure_ (i := 3) (N := some 83) (v := ?_) (a' := ?_) #[true, true, true, true, false, false, false, false, false, false, false] rfl rfl (by kernel_rfl) (fun _ _ _ h => h) (Or.inl ⟨by rfl, ?_⟩) ?_ ?_
                rotate_left
                · intro w'
                  go_simp
                  with_reducible rfl
                rotate_left
                · simp only [Act.put, List.setIfInBounds_toArray, List.set_cons_zero, List.set_cons_succ, i64_w, i32_w]
                  rfl
                refine pure_ (i := 4) (N := some 84) (v := ?_) (a' := ?_) #[true, true, true, true, true, false, false, false, false, false, false] rfl rfl (by kernel_rfl) (fun _ _ _ h => h) (Or.inl ⟨by rfl, ?_⟩) ?_ ?_
                rotate_left
                · intro w'
                  go_simp
                  with_reducible rfl
                rotate_left
                · simp only [Act.put, List.setIfInBounds_toArray, List.set_cons_zero, List.set_cons_succ, i64_w, i32_w]
                  rfl
                refine pure_ (i := 5) (N := some 85) (v := ?_) (a' := ?_) #[true, true, true, true, true, true, false, false, false, false, false] rfl rfl (by kernel_rfl) (fun _ _ _ h => h) (Or.inl ⟨by rfl, ?_⟩) ?_ ?_
                rotate_left
                · intro w'
                  go_simp
                  with_reducible rfl
                rotate_left
                · simp only [Act.put, List.setIfInBounds_toArray, List.set_cons_zero, List.set_cons_succ, i64_w, i32_w]
                  rfl
                refine pure_ (i := 7) (N := some 87) (v := ?_) (a' := ?_) #[true, true, true, true, true, true, false, true, false, false, false] rfl rfl (by kernel_rfl) (fun _ _ _ h => h) (Or.inl ⟨by rfl, ?_⟩) ?_ ?_
                rotate_left
                · intro w'
                  go_simp
                  with_reducible rfl
                rotate_left
                · simp only [Act.put, List.setIfInBounds_toArray, List.set_cons_zero, List.set_cons_succ, i64_w, i32_w]
                  rfl
                refine take_ (i := 6) (N := some 86) (v := ?_) (a' := ?_) #[true, true, true, true, true, true, true, true, false, false, false] rfl rfl (by kernel_rfl) (fun _ _ _ h => h) (Or.inl ⟨by rfl, ?_⟩) hHeld ?_ ?_
                rotate_left
                · rintro w' ⟨s0, s1, s2⟩
                  go_simp
                  with_reducible rfl
                rotate_left
                · simp only [Act.put, List.setIfInBounds_toArray, List.set_cons_zero, List.set_cons_succ, i64_w, i32_w]
                  rfl
                refine one_ (i := 8) (N := none) #[true, true, true, true, true, true, true, true, true, false, false] rfl rfl (by kernel_rfl) (by decide) (fun K hK => ?_)
                refine skip_ (w1 := ?_) (by rfl) rfl ?_ ?_
                rotate_left
                · go_simp
                  rfl
                refine hK.out _ _ ⟨(pw_cell_below (HD.out.drew.B.setCell HD.out.a9 _) z2w), ((HD.out.drew.E.setOther (rowIs_ne HD.out.drew.E HD.out.drew.W (by decide)) _).cell hr64), ((HD.out.drew.E.setOther (rowIs_ne HD.out.drew.E HD.out.drew.W (by decide)) _).frozen r)⟩ (fun hHeld => ?_)
                clear hK K
                refine pure_ (i := 9) (N := some 88) (v := ?_) (a' := ?_) #[true, true, true, true, true, true, true, true, true, true, false] rfl rfl (by kernel_rfl) (fun _ _ _ h => h) (Or.inl ⟨by rfl, ?_⟩) ?_ ?_
                rotate_left
                · intro w'
                  go_simp
                  with_reducible rfl
                rotate_left
                · simp only [Act.put, List.setIfInBounds_toArray, List.set_cons_zero, List.set_cons_succ, i64_w, i32_w]
                  rfl
                refine last_ (i := 10) (N := none) #[true, true, true, true, true, true, true, true, true, true, true] rfl rfl (by kernel_rfl) (by decide) (fun K hK => ?_)
                refine skip_ (w1 := ?_) (by rfl) rfl ?_ ?_
                rotate_left
                · go_simp
                  rfl
                refine hK.out _ _ ?_
                clear hK K
                refine done_ (by kernel_rfl) ?_

                clear hHeld
                go_wp2
                have hp := HD.out.drew.put (r := r) hr64 (by rw [← XV.out]; exact ER.out) (Kd.R_below HR.out (below_drew (Below.refl _ _))) (x := xv.f2) (by rw [XV.out])
                have HDE := Aside0.mk hp.1
                have HRE := Aside0.mk hp.2
                clear hp
                go_roundw
                case rel => exact ⟨k + 1, by omega, by go_num, HDE, ⟨by rw [HSS.out]; exact HRE.out⟩, ⟨fun i hi => by
                    rcases (by omega : i < k ∨ i = k) with hi | rfl
                    · exact HA.out i hi
                    · exact HAT.out⟩⟩
                case measure => simp [intOf]; omega
              | some j =>
                have u9 := HD.out.W.cell (i := r) hr64
                have u8 := HD.out.E.cell (i := r) hr64
                obtain ⟨ev, hev⟩ : ∃ ev, ev = endV h (r : Int) k := ⟨_, rfl⟩
                simp only [wasF, endF, hl, Option.isSome_some, ← hev] at u9 u8
                have EV := Aside0.mk (show (ho h j).f2 = ev by rw [hev]; unfold endV; rw [hl])
                have HL := Aside0.mk hl
                have HEV := Aside0.mk hev
                have y1 : w5.cell? ⟨bx, 1, none⟩ = some (.int .i64 sv.f1) := HX5.out.cell (i := 1) (by omega)
                clear hl hev
                by_cases d : sv.f1 < ev
                · have b1 : decide (sv.f1 < ev) = true := decide_eq_true d
                  refine start_ (n := 11) (S := fun w' => w'.cell? ⟨e9, r, none⟩ = some (.bool true) ∧ w'.cell? ⟨e8, r, none⟩ = some (.int .i64 ev) ∧ w'.cell? ⟨bx, 1, none⟩ = some (.int .i64 sv.f1)) (ds := []) #[false, false, false, false, false, false, false, false, false, false, false] (by kernel_rfl) rfl rfl ⟨(pw_cell_below (below_drew (Below.refl _ _)) u9), (pw_cell_below (below_drew (Below.refl _ _)) u8), (pw_cell_below (below_drew (Below.refl _ _)) y1)⟩ (fun hHeld => ?_)
                  refine pure_ (i := 0) (N := some 69) (v := ?_) (a' := ?_) #[true, false, false, false, false, false, false, false, false, false, false] rfl rfl (by kernel_rfl) (fun _ _ _ h => h) (Or.inl ⟨by rfl, ?_⟩) ?_ ?_
                  rotate_left
                  · intro w'
                    go_simp
                    with_reducible rfl
                  rotate_left
                  · simp only [Act.put, List.setIfInBounds_toArray, List.set_cons_zero, List.set_cons_succ, i64_w, i32_w]
                    rfl
                  refine pure_ (i := 1) (N := some 70) (v := ?_) (a' := ?_) #[true, true, false, false, false, false, false, false, false, false, false] rfl rfl (by kernel_rfl) (fun _ _ _ h => h) (Or.inl ⟨by rfl, ?_⟩) ?_ ?_
                  rotate_left
                  · intro w'
                    go_simp
                    with_reducible rfl
                  rotate_left
                  · simp only [Act.put, List.setIfInBounds_toArray, List.set_cons_zero, List.set_cons_succ, i64_w, i32_w]
                    rfl
                  refine take_ (i := 2) (N := some 71) (v := ?_) (a' := ?_) #[true, true, true, false, false, false, false, false, false, false, false] rfl rfl (by kernel_rfl) (fun _ _ _ h => h) (Or.inl ⟨by rfl, ?_⟩) hHeld ?_ ?_
                  rotate_left
                  · rintro w' ⟨s0, s1, s2⟩
                    go_simp
                    with_reducible rfl
                  rotate_left
                  · simp only [Act.put, List.setIfInBounds_toArray, List.set_cons_zero, List.set_cons_succ, i64_w, i32_w]
                    rfl
                  refine pure_ (i := 3) (N := some 72) (v := ?_) (a' := ?_) #[true, true, true, true, false, false, false, false, false, false, false] rfl rfl (by kernel_rfl) (fun _ _ _ h => h) (Or.inl ⟨by rfl, ?_⟩) ?_ ?_
                  rotate_left
                  · intro w'
                    go_simp
                    with_reducible rfl
                  rotate_left
                  · simp only [Act.put, List.setIfInBounds_toArray, List.set_cons_zero, List.set_cons_succ, i64_w, i32_w]
                    rfl
                  refine pure_ (i := 4) (N := some 73) (v := ?_) (a' := ?_) #[true, true, true, true, true, false, false, false, false, false, false] rfl rfl (by kernel_rfl) (fun _ _ _ h => h) (Or.inl ⟨by rfl, ?_⟩) ?_ ?_
                  rotate_left
                  · intro w'
                    go_simp
                    with_reducible rfl
                  rotate_left
                  · simp only [Act.put, List.setIfInBounds_toArray, List.set_cons_zero, List.set_cons_succ, i64_w, i32_w]
                    rfl
                  refine pure_ (i := 5) (N := some 74) (v := ?_) (a' := ?_) #[true, true, true, true, true, true, false, false, false, false, false] rfl rfl (by kernel_rfl) (fun _ _ _ h => h) (Or.inl ⟨by rfl, ?_⟩) ?_ ?_
                  rotate_left
                  · intro w'
                    go_simp
                    with_reducible rfl
                  rotate_left
                  · simp only [Act.put, List.setIfInBounds_toArray, List.set_cons_zero, List.set_cons_succ, i64_w, i32_w]
                    rfl
                  refine pure_ (i := 7) (N := some 76) (v := ?_) (a' := ?_) #[true, true, true, true, true, true, false, true, false, false, false] rfl rfl (by kernel_rfl) (fun _ _ _ h => h) (Or.inl ⟨by rfl, ?_⟩) ?_ ?_
                  rotate_left
                  · intro w'
                    go_simp
                    with_reducible rfl
                  rotate_left
                  · simp only [Act.put, List.setIfInBounds_toArray, List.set_cons_zero, List.set_cons_succ, i64_w, i32_w]
                    rfl
                  refine take_ (i := 6) (N := some 75) (v := ?_) (a' := ?_) #[true, true, true, true, true, true, true, true, false, false, false] rfl rfl (by kernel_rfl) (fun _ _ _ h => h) (Or.inl ⟨by rfl, ?_⟩) hHeld ?_ ?_
                  rotate_left
                  · rintro w' ⟨s0, s1, s2⟩
                    go_simp
                    with_reducible rfl
                  rotate_left
                  · simp only [Act.put, List.setIfInBounds_toArray, List.set_cons_zero, List.set_cons_succ, i64_w, i32_w]
                    rfl
                  refine take_ (i := 8) (N := some 77) (v := ?_) (a' := ?_) #[true, true, true, true, true, true, true, true, true, false, false] rfl rfl (by kernel_rfl) (fun _ _ _ h => h) (Or.inl ⟨by rfl, ?_⟩) hHeld ?_ ?_
                  rotate_left
                  · rintro w' ⟨s0, s1, s2⟩
                    go_simp
                    with_reducible rfl
                  rotate_left
                  · simp only [Act.put, List.setIfInBounds_toArray, List.set_cons_zero, List.set_cons_succ, i64_w, i32_w]
                    rfl
                  refine pure_ (i := 9) (N := some 78) (v := ?_) (a' := ?_) #[true, true, true, true, true, true, true, true, true, true, false] rfl rfl (by kernel_rfl) (fun _ _ _ h => h) (Or.inl ⟨by rfl, ?_⟩) ?_ ?_
                  rotate_left
                  · intro w'
                    go_simp
                    with_reducible rfl
                  rotate_left
                  · simp only [Act.put, List.setIfInBounds_toArray, List.set_cons_zero, List.set_cons_succ, i64_w, i32_w]
                    rfl
                  refine pure_ (i := 10) (N := some 79) (v := ?_) (a' := ?_) #[true, true, true, true, true, true, true, true, true, true, true] rfl rfl (by kernel_rfl) (fun _ _ _ h => h) (Or.inl ⟨by rfl, ?_⟩) ?_ ?_
                  rotate_left
                  · intro w'
                    go_simp
                    with_reducible rfl
                  rotate_left
                  · simp only [Act.put, List.setIfInBounds_toArray, List.set_cons_zero, List.set_cons_succ, i64_w, i32_w]
                    rfl
                  refine done_ (by kernel_rfl) ?_

                  clear hHeld
                  go_wp2
                  go_ret
                  refine ⟨?_, HD.out.drew.B⟩
                  rw [holdsB_bad HLT.out (.inr (by
                    unfold pairB
                    rw [← SV.out, ← XV.out, if_pos (by rw [ER.out]; omega), ER.out, HL.out]
                    exact decide_eq_false (by rw [EV.out]; omega)))]
                  rfl
                · have b1 : decide (sv.f1 < ev) = false := decide_eq_false d
                  refine start_ (n := 11) (S := fun w' => w'.cell? ⟨e9, r, none⟩ = some (.bool true) ∧ w'.cell? ⟨e8, r, none⟩ = some (.int .i64 ev) ∧ w'.cell? ⟨bx, 1, none⟩ = some (.int .i64 sv.f1)) (ds := []) #[false, false, false, false, false, false, false, false, false, false, false] (by kernel_rfl) rfl rfl ⟨(pw_cell_below (below_drew (Below.refl _ _)) u9), (pw_cell_below (below_drew (Below.refl _ _)) u8), (pw_cell_below (below_drew (Below.refl _ _)) y1)⟩ (fun hHeld => ?_)
                  refine pure_ (i := 0) (N := some 69) (v := ?_) (a' := ?_) #[true, false, false, false, false, false, false, false, false, false, false] rfl rfl (by kernel_rfl) (fun _ _ _ h => h) (Or.inl ⟨by rfl, ?_⟩) ?_ ?_
                  rotate_left
                  · intro w'
                    go_simp
                    with_reducible rfl
                  rotate_left
                  · simp only [Act.put, List.setIfInBounds_toArray, List.set_cons_zero, List.set_cons_succ, i64_w, i32_w]
                    rfl
                  refine pure_ (i := 1) (N := some 70) (v := ?_) (a' := ?_) #[true, true, false, false, false, false, false, false, false, false, false] rfl rfl (by kernel_rfl) (fun _ _ _ h => h) (Or.inl ⟨by rfl, ?_⟩) ?_ ?_
                  rotate_left
                  · intro w'
                    go_simp
                    with_reducible rfl
                  rotate_left
                  · simp only [Act.put, List.setIfInBounds_toArray, List.set_cons_zero, List.set_cons_succ, i64_w, i32_w]
                    rfl
                  refine take_ (i := 2) (N := some 71) (v := ?_) (a' := ?_) #[true, true, true, false, false, false, false, false, false, false, false] rfl rfl (by kernel_rfl) (fun _ _ _ h => h) (Or.inl ⟨by rfl, ?_⟩) hHeld ?_ ?_
                  rotate_left
                  · rintro w' ⟨s0, s1, s2⟩
                    go_simp
                    with_reducible rfl
                  rotate_left
                  · simp only [Act.put, List.setIfInBounds_toArray, List.set_cons_zero, List.set_cons_succ, i64_w, i32_w]
                    rfl
                  refine pure_ (i := 3) (N := some 72) (v := ?_) (a' := ?_) #[true, true, true, true, false, false, false, false, false, false, false] rfl rfl (by kernel_rfl) (fun _ _ _ h => h) (Or.inl ⟨by rfl, ?_⟩) ?_ ?_
                  rotate_left
                  · intro w'
                    go_simp
                    with_reducible rfl
                  rotate_left
                  · simp only [Act.put, List.setIfInBounds_toArray, List.set_cons_zero, List.set_cons_succ, i64_w, i32_w]
                    rfl
                  refine pure_ (i := 4) (N := some 73) (v := ?_) (a' := ?_) #[true, true, true, true, true, false, false, false, false, false, false] rfl rfl (by kernel_rfl) (fun _ _ _ h => h) (Or.inl ⟨by rfl, ?_⟩) ?_ ?_
                  rotate_left
                  · intro w'
                    go_simp
                    with_reducible rfl
                  rotate_left
                  · simp only [Act.put, List.setIfInBounds_toArray, List.set_cons_zero, List.set_cons_succ, i64_w, i32_w]
                    rfl
                  refine pure_ (i := 5) (N := some 74) (v := ?_) (a' := ?_) #[true, true, true, true, true, true, false, false, false, false, false] rfl rfl (by kernel_rfl) (fun _ _ _ h => h) (Or.inl ⟨by rfl, ?_⟩) ?_ ?_
                  rotate_left
                  · intro w'
                    go_simp
                    with_reducible rfl
                  rotate_left
                  · simp only [Act.put, List.setIfInBounds_toArray, List.set_cons_zero, List.set_cons_succ, i64_w, i32_w]
                    rfl
                  refine pure_ (i := 7) (N := some 76) (v := ?_) (a' := ?_) #[true, true, true, true, true, true, false, true, false, false, false] rfl rfl (by kernel_rfl) (fun _ _ _ h => h) (Or.inl ⟨by rfl, ?_⟩) ?_ ?_
                  rotate_left
                  · intro w'
                    go_simp
                    with_reducible rfl
                  rotate_left
                  · simp only [Act.put, List.setIfInBounds_toArray, List.set_cons_zero, List.set_cons_succ, i64_w, i32_w]
                    rfl
                  refine take_ (i := 6) (N := some 75) (v := ?_) (a' := ?_) #[true, true, true, true, true, true, true, true, false, false, false] rfl rfl (by kernel_rfl) (fun _ _ _ h => h) (Or.inl ⟨by rfl, ?_⟩) hHeld ?_ ?_
                  rotate_left
                  · rintro w' ⟨s0, s1, s2⟩
                    go_simp
                    with_reducible rfl
                  rotate_left
                  · simp only [Act.put, List.setIfInBounds_toArray, List.set_cons_zero, List.set_cons_succ, i64_w, i32_w]
                    rfl
                  refine take_ (i := 8) (N := some 77) (v := ?_) (a' := ?_) #[true, true, true, true, true, true, true, true, true, false, false] rfl rfl (by kernel_rfl) (fun _ _ _ h => h) (Or.inl ⟨by rfl, ?_⟩) hHeld ?_ ?_
                  rotate_left
                  · rintro w' ⟨s0, s1, s2⟩
                    go_simp
                    with_reducible rfl
                  rotate_left
                  · simp only [Act.put, List.setIfInBounds_toArray, List.set_cons_zero, List.set_cons_succ, i64_w, i32_w]
                    rfl
                  refine pure_ (i := 9) (N := some 78) (v := ?_) (a' := ?_) #[true, true, true, true, true, true, true, true, true, true, false] rfl rfl (by kernel_rfl) (fun _ _ _ h => h) (Or.inl ⟨by rfl, ?_⟩) ?_ ?_
                  rotate_left
                  · intro w'
                    go_simp
                    with_reducible rfl
                  rotate_left
                  · simp only [Act.put, List.setIfInBounds_toArray, List.set_cons_zero, List.set_cons_succ, i64_w, i32_w]
                    rfl
                  refine pure_ (i := 10) (N := some 79) (v := ?_) (a' := ?_) #[true, true, true, true, true, true, true, true, true, true, true] rfl rfl (by kernel_rfl) (fun _ _ _ h => h) (Or.inl ⟨by rfl, ?_⟩) ?_ ?_
                  rotate_left
                  · intro w'
                    go_simp
                    with_reducible rfl
                  rotate_left
                  · simp only [Act.put, List.setIfInBounds_toArray, List.set_cons_zero, List.set_cons_succ, i64_w, i32_w]
                    rfl
                  refine done_ (by kernel_rfl) ?_

                  clear hHeld
                  have HAT := Aside0.mk (show atB l h regs k = true by
                    unfold atB pairB
                    rw [← SV.out, ← XV.out, HOB.out, if_pos (by rw [ER.out]; omega), ER.out, HL.out]
                    exact decide_eq_true (by rw [EV.out]; omega))
                  have HD := Aside0.mk HD.out.drew
                  have HR := Aside0.mk (Kd.R_below HR.out (below_drew (Below.refl _ _)))
                  have u8 := HD.out.E.cell (i := r) hr64
                  simp only [endF, ← HEV.out] at u8
                  clear u9 y1
                  go_wp2
                  have u9 := HD.out.drew.W.cell (i := r) hr64
                  have f9 := HD.out.drew.W.frozen r
                  refine start_ (n := 11) (S := fun w' => w'.cell? ⟨(ah.add (k * 3)).block, (ah.add (k * 3)).off + 2, none⟩ = some (.int .i64 xv.f2) ∧ w'.cell? ⟨e8, r, none⟩ = some (.int .i64 (endV h (r : Int) k)) ∧ w'.frozen? ⟨e8, r, none⟩ = false) (ds := [10]) #[false, false, false, false, false, false, false, false, false, false, false] (by kernel_rfl) rfl rfl ⟨(pw_cell_below HD.out.drew.B z2w), (HD.out.drew.E.cell hr64), (HD.out.drew.E.frozen r)⟩ (fun hHeld => ?_)
                  refine pure_ (i := 0) (N := some 80) (v := ?_) (a' := ?_) #[true, false, false, false, false, false, false, false, false, false, false] rfl rfl (by kernel_rfl) (fun _ _ _ h => h) (Or.inl ⟨by rfl, ?_⟩) ?_ ?_
                  rotate_left
                  · intro w'
                    go_simp
                    with_reducible rfl
                  rotate_left
                  · simp only [Act.put, List.setIfInBounds_toArray, List.set_cons_zero, List.set_cons_succ, i64_w, i32_w]
                    rfl
                  refine pure_ (i := 1) (N := some 81) (v := ?_) (a' := ?_) #[true, true, false, false, false, false, false, false, false, false, false] rfl rfl (by kernel_rfl) (fun _ _ _ h => h) (Or.inl ⟨by rfl, ?_⟩) ?_ ?_
                  rotate_left
                  · intro w'
                    go_simp
                    with_reducible rfl
                  rotate_left
                  · simp only [Act.put, List.setIfInBounds_toArray, List.set_cons_zero, List.set_cons_succ, i64_w, i32_w]
                    rfl
                  refine pure_ (i := 2) (N := some 82) (v := ?_) (a' := ?_) #[true, true, true, false, false, false, false, false, false, false, false] rfl rfl (by kernel_rfl) (fun _ _ _ h => h) (Or.inl ⟨by rfl, ?_⟩) ?_ ?_
                  rotate_left
                  · intro w'
                    go_simp
                    with_reducible rfl
                  rotate_left
                  · simp only [Act.put, List.setIfInBounds_toArray, List.set_cons_zero, List.set_cons_succ, i64_w, i32_w]
                    rfl
                  refine pure_ (i := 3) (N := some 83) (v := ?_) (a' := ?_) #[true, true, true, true, false, false, false, false, false, false, false] rfl rfl (by kernel_rfl) (fun _ _ _ h => h) (Or.inl ⟨by rfl, ?_⟩) ?_ ?_
                  rotate_left
                  · intro w'
                    go_simp
                    with_reducible rfl
                  rotate_left
                  · simp only [Act.put, List.setIfInBounds_toArray, List.set_cons_zero, List.set_cons_succ, i64_w, i32_w]
                    rfl
                  refine pure_ (i := 4) (N := some 84) (v := ?_) (a' := ?_) #[true, true, true, true, true, false, false, false, false, false, false] rfl rfl (by kernel_rfl) (fun _ _ _ h => h) (Or.inl ⟨by rfl, ?_⟩) ?_ ?_
                  rotate_left
                  · intro w'
                    go_simp
                    with_reducible rfl
                  rotate_left
                  · simp only [Act.put, List.setIfInBounds_toArray, List.set_cons_zero, List.set_cons_succ, i64_w, i32_w]
                    rfl
                  refine pure_ (i := 5) (N := some 85) (v := ?_) (a' := ?_) #[true, true, true, true, true, true, false, false, false, false, false] rfl rfl (by kernel_rfl) (fun _ _ _ h => h) (Or.inl ⟨by rfl, ?_⟩) ?_ ?_
                  rotate_left
                  · intro w'
                    go_simp
                    with_reducible rfl
                  rotate_left
                  · simp only [Act.put, List.setIfInBounds_toArray, List.set_cons_zero, List.set_cons_succ, i64_w, i32_w]
                    rfl
                  refine pure_ (i := 7) (N := some 87) (v := ?_) (a' := ?_) #[true, true, true, true, true, true, false, true, false, false, false] rfl rfl (by kernel_rfl) (fun _ _ _ h => h) (Or.inl ⟨by rfl, ?_⟩) ?_ ?_
                  rotate_left
                  · intro w'
                    go_simp
                    with_reducible rfl
                  rotate_left
                  · simp only [Act.put, List.setIfInBounds_toArray, List.set_cons_zero, List.set_cons_succ, i64_w, i32_w]
                    rfl
                  refine take_ (i := 6) (N := some 86) (v := ?_) (a' := ?_) #[true, true, true, true, true, true, true, true, false, false, false] rfl rfl (by kernel_rfl) (fun _ _ _ h => h) (Or.inl ⟨by rfl, ?_⟩) hHeld ?_ ?_
                  rotate_left
                  · rintro w' ⟨s0, s1, s2⟩
                    go_simp
                    with_reducible rfl
                  rotate_left
                  · simp only [Act.put, List.setIfInBounds_toArray, List.set_cons_zero, List.set_cons_succ, i64_w, i32_w]
                    rfl
                  refine one_ (i := 8) (N := none) #[true, true, true, true, true, true, true, true, true, false, false] rfl rfl (by kernel_rfl) (by decide) (fun K hK => ?_)
                  refine skip_ (w1 := ?_) (by rfl) rfl ?_ ?_
                  rotate_left
                  · go_simp
                    rfl
                  refine hK.out _ _ ⟨(pw_cell_below (HD.out.drew.B.setCell HD.out.a9 _) z2w), ((HD.out.drew.E.setOther (rowIs_ne HD.out.drew.E HD.out.drew.W (by decide)) _).cell hr64), ((HD.out.drew.E.setOther (rowIs_ne HD.out.drew.E HD.out.drew.W (by decide)) _).frozen r)⟩ (fun hHeld => ?_)
                  clear hK K
                  refine pure_ (i := 9) (N := some 88) (v := ?_) (a' := ?_) #[true, true, true, true, true, true, true, true, true, true, false] rfl rfl (by kernel_rfl) (fun _ _ _ h => h) (Or.inl ⟨by rfl, ?_⟩) ?_ ?_
                  rotate_left
                  · intro w'
                    go_simp
                    with_reducible rfl
                  rotate_left
                  · simp only [Act.put, List.setIfInBounds_toArray, List.set_cons_zero, List.set_cons_succ, i64_w, i32_w]
                    rfl
                  refine last_ (i := 10) (N := none) #[true, true, true, true, true, true, true, true, true, true, true] rfl rfl (by kernel_rfl) (by decide) (fun K hK => ?_)
                  refine skip_ (w1 := ?_) (by rfl) rfl ?_ ?_
                  rotate_left
                  · go_simp
                    rfl
                  refine hK.out _ _ ?_
                  clear hK K
                  refine done_ (by kernel_rfl) ?_

                  clear hHeld
                  go_wp2
                  have hp := HD.out.drew.put (r := r) hr64 (by rw [← XV.out]; exact ER.out) (Kd.R_below HR.out (below_drew (Below.refl _ _))) (x := xv.f2) (by rw [XV.out])
                  have HDE := Aside0.mk hp.1
                  have HRE := Aside0.mk hp.2
                  clear hp
                  go_roundw
                  case rel => exact ⟨k + 1, by omega, by go_num, HDE, ⟨by rw [HSS.out]; exact HRE.out⟩, ⟨fun i hi => by
                      rcases (by omega : i < k ∨ i = k) with hi | rfl
                      · exact HA.out i hi
                      · exact HAT.out⟩⟩
                  case measure => simp [intOf]; omega
      · obtain rfl : k = l.length := by omega
        have htk : h.take l.length = h := by rw [← HQ.out, List.take_length]
        rw [htk] at HR
        have hsl : (slotsOf h).length ≤ 1000000 := by have := slots_len h l.length; rw [htk] at this; omega
        obtain ⟨A, c, eu, hle, -⟩ := Kd.R_reads HR.out
        have SC := Aside0.mk (sort_calls wr w.heap.size u7 (slotsOf h) HR.out hsl HD.out.B.size)
        subst eu
        obtain ⟨n, en⟩ : ∃ n, n = (slotsOf h).length := ⟨_, rfl⟩
        have EN := Aside0.mk en
        rw [← en] at SC hle hsl
        have HOK := Aside0.mk (holdsB_end HM.out HQ.out HA.out)
        have HDB := Aside0.mk HD.out.B
        rw [← en]
        clear HR HA en htk HD
        go_wp2_with fail
        refine SC.out.mono ?_
        rintro e w4 ⟨rfl, hR, hB⟩
        have hB4 := hB w HDB.out
        obtain ⟨h1, -, hC⟩ := Kd.R_reads' hR
        obtain ⟨q, eq⟩ : ∃ q, q = sorted (slotsOf h) := ⟨_, rfl⟩
        rw [← eq] at h1 hC
        rw [← h1] at hC
        have HC := Aside0.mk hC
        have HB4 := Aside0.mk hB4
        have HN := Aside0.mk h1
        have ONCE := Aside0.mk (show (∀ i, i < q.length → q.getD i 0 = (i : Int)) ↔ holdsB l h regs = true by
          rw [HOK.out, onceB_iff, eq]
          exact sorted_once (sorted_perm _) (sorted_le _))
        clear hR hB hB4 h1 hC eq SC
        go_wp2
        go_loopw [94] (fun v94 wr2 => ∃ j : Nat, j ≤ n ∧ v94 = .int .i64 j ∧ Aside0 (∀ i, i < j → q.getD i 0 = (i : Int)) ∧ Aside0 (Below w4.heap.size w4 wr2)) (fun i _ => n - (intOf i).toNat)
        case atStart => exact ⟨0, Nat.zero_le _, rfl, ⟨fun i hi => absurd hi (by omega)⟩, ⟨Below.refl _ _⟩⟩
        case round =>
          obtain ⟨j, hj, rfl, HJ, HB5⟩ := hrel
          by_cases hjn : j < n
          · have hj1 : (j : Int) < n := by omega
            have hj0 : (0 : Int) ≤ (j : Int) := by omega
            obtain ⟨aq, rfl, xq⟩ := Kd.at_int (Kd.C_below HC.out HB5.out) (j : Int) hj0 hj1
            simp only [Int.toNat_natCast] at xq
            obtain ⟨qv, eqv⟩ : ∃ qv, qv = rd q (j : Int) := ⟨_, rfl⟩
            rw [← eqv] at xq
            have QV := Aside0.mk (show qv = q.getD j 0 by rw [eqv]; unfold rd; rw [Int.toNat_natCast])
            clear eqv
            by_cases e : qv = (j : Int)
            · have HQE := Aside0.mk e
              subst e
              go_wp2
              go_roundw
              case rel => exact ⟨j + 1, by omega, by go_num, ⟨fun i hi => by
                rcases (by omega : i < j ∨ i = j) with hi | rfl
                · exact HJ.out i hi
                · exact QV.out.symm⟩, HB5⟩
              case measure => simp [intOf]; omega
            · go_wp2
              go_ret
              refine ⟨?_, below_then HB4.out HB4.out.size HB5.out⟩
              have hf : holdsB l h regs = false := by
                cases hh : holdsB l h regs with
                | false => rfl
                | true => exact absurd ((ONCE.out.2 hh) j (by rw [← HN.out]; exact hjn)) (by rw [← QV.out]; exact e)
              rw [hf]
              rfl
          · obtain rfl : j = n := by omega
            go_wp2
            go_ret
            refine ⟨?_, below_then HB4.out HB4.out.size HB5.out⟩
            rw [ONCE.out.1 (fun i hi => HJ.out i (by rw [HN.out]; exact hi))]
            rfl
def holdsF (l : List S36) (h : List S48) (regs : Int) : Option Bool := if l.length ≤ 1000000 ∧ wfS l then some (holdsB l h regs) else none
end Go.Proofs.YtcmbpboeilojmaaGreat.Sw
