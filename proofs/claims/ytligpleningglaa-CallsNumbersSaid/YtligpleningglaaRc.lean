/- The document's Called, walked. -/
import Derived.Test.YtligpleningglaaRd
namespace Go.Proofs.Ytligpleningglaa.Cw
open Go Go.RowKit Go.Proofs.Ytligpleningglaa.Tarjan Go.Proofs.YtligpleningglaaW.PrintWords Go.Proofs.YtligpleningglaaW.PrintLast Go.Proofs.YtligpleningglaaW.PrintMore Go.Proofs.Ytligpleningglaa.F
attribute [local go_sem] max2_int min2_int max_two min_two max_three min_three
set_option linter.unusedVariables false
set_option linter.unusedSimpArgs false
/-- the nodes up to one that are called. -/
def RL (L : List Int) (k : Nat) : List Int := ((List.range k).filter fun v : Nat => L.contains (v : Int)).map Int.ofNat
theorem RL_yes {L : List Int} {k : Nat} (h : L.contains (k : Int) = true) : RL L (k + 1) = RL L k ++ [(k : Int)] := by
  unfold RL
  rw [List.range_succ, List.filter_append, List.map_append]
  simp only [List.filter_cons, List.filter_nil]
  rw [if_pos h]; rfl
theorem RL_no {L : List Int} {k : Nat} (h : L.contains (k : Int) = false) : RL L (k + 1) = RL L k := by
  unfold RL
  rw [List.range_succ, List.filter_append, List.map_append]
  simp only [List.filter_cons, List.filter_nil]
  rw [if_neg (by rw [h]; decide)]; simp
theorem RL_len (L : List Int) (k : Nat) : (RL L k).length ≤ k := by
  unfold RL
  rw [List.length_map]
  have h := List.length_filter_le (fun v : Nat => L.contains (v : Int)) (List.range k)
  rwa [List.length_range] at h
theorem refsG_in {n : Nat} {g : S42} {x : Int} (hx : x ∈ refsG n g) : 0 ≤ x ∧ x < (n : Int) := by
  unfold refsG at hx
  obtain ⟨b, _, hx⟩ := List.mem_flatMap.1 hx
  unfold refsB at hx
  obtain ⟨y, hy, rfl⟩ := List.mem_map.1 hx
  have h := (List.mem_filter.1 hy).2
  unfold isRef at h
  simp only [Bool.and_eq_true, decide_eq_true_eq] at h
  exact ⟨h.1.2, h.2⟩
theorem RL_all (n : Nat) (g : S42) : RL (refsG n g) n = cmpZ (refsG n g) := by
  rw [cmpZ_up (fun x hx => (refsG_in hx).1)]
  unfold RL
  congr 1
  refine sorted_eq ((range_sorted _).filter _) (cmpN_lt _) (fun x => ?_)
  rw [List.mem_filter, List.mem_range, cmpN_mem, List.mem_map]
  constructor
  · intro h
    exact ⟨(x : Int), List.contains_iff_mem.1 h.2, Int.toNat_natCast x⟩
  · rintro ⟨y, hy, rfl⟩
    have := refsG_in hy
    refine ⟨by omega, List.contains_iff_mem.2 ?_⟩
    rw [Int.toNat_of_nonneg this.1]; exact hy
/-- the row of marks, as a list of refs says. -/
structure IR (wo w : World) (go N : Nat) (L : List Int) : Prop where
  r : w.rowIs go 4 N (fun v => .bool (L.contains (v : Int)))
  b : Below wo.heap.size wo w
theorem IR.made (wo : World) (N : Nat) : IR wo (wo.alloc (.cells (madeCells #[.bool false] N) 4)) wo.heap.size N [] :=
  ⟨(World.rowIs_made wo (.bool false) N 4).congr (fun _ _ => rfl), below_alloc (Below.refl _ _) _⟩
theorem IR.below {wo w w' : World} {go N : Nat} {L : List Int} (h : IR wo w go N L) (hb : Below w.heap.size w w') : IR wo w' go N L :=
  ⟨h.r.of_block (hb.block _ h.r.lt), h.b.trans (hb.mono h.b.size)⟩
theorem IR.alloc {wo w : World} {go N : Nat} {L : List Int} (h : IR wo w go N L) (o : Obj) : IR wo (w.alloc o) go N L := h.below (below_alloc (Below.refl _ _) o)
theorem IR.put {wo w : World} {go N : Nat} {L : List Int} (h : IR wo w go N L) (hgo : wo.heap.size ≤ go) {y : Nat} : IR wo (w.setCell ⟨go, y, none⟩ (.bool true)) go N (L ++ [(y : Int)]) :=
  ⟨(h.r.set y _).congr (fun j hj => by
    show (if j = y then Value.bool true else Value.bool (L.contains (j : Int))) = Value.bool ((L ++ [(y : Int)]).contains (j : Int))
    have e : (L ++ [(y : Int)]).contains (j : Int) = (L.contains (j : Int) || decide (j = y)) := by
      rw [Bool.eq_iff_iff, Bool.or_eq_true, decide_eq_true_eq, List.contains_iff_mem, List.contains_iff_mem, List.mem_append, List.mem_singleton]
      constructor
      · rintro (h | h)
        · exact .inl h
        · exact .inr (by omega)
      · rintro (h | h)
        · exact .inl h
        · exact .inr (by omega)
    rw [e]
    by_cases hj : j = y
    · rw [if_pos hj, decide_eq_true hj, Bool.or_true]
    · rw [if_neg hj, decide_eq_false hj, Bool.or_false]), h.b.setCell hgo _⟩
/-- all that the outer row's append wants. -/
structure AP (w wo wt wn : World) (go : Nat) (v3 : Value) (A9 : Option Addr) (c9 : Nat) (rows : List (List Int)) (l : List Int) : Prop where
  p : (Kd.slice 3 (Kd.int .i64)).M wn w.heap.size (fun k_ => some k_ = (.slice A9 l.length c9 : Value).ownBlock) l [.slice A9 l.length c9]
  q : ∀ k, some k = (.slice A9 l.length c9 : Value).ownBlock → True ∧ some k ≠ v3.ownBlock
  s : Kd.S (Kd.slice 3 (Kd.int .i64)) 35 wn w.heap.size (fun k => True ∧ ¬ some k = (.slice A9 l.length c9 : Value).ownBlock) v3 rows
  b : Below w.heap.size w wn
  z : w.heap.size ≤ wn.heap.size
theorem AP.mk_ {w wo wt wn : World} {go : Nat} {v3 : Value} {A9 : Option Addr} {c9 : Nat} {rows : List (List Int)} {l : List Int} (hS : Kd.S (Kd.slice 3 (Kd.int .i64)) 35 wo w.heap.size (fun _ => True) v3 rows) (hB : Below w.heap.size w wo) (hb : Below wo.heap.size wo wt) (hb2 : Below (go + 1) wt wn) (hgo : wo.heap.size ≤ go)
    (hR : Kd.R (Kd.int .i64) 3 wn (go + 1) (fun _ => True) (.slice A9 l.length c9) l) : AP w wo wt wn go v3 A9 c9 rows l := by
  have hsz := hB.size
  have hb3 : Below wo.heap.size wo wn := hb.trans (hb2.mono (by omega))
  have hBn : Below w.heap.size w wn := hB.trans (hb3.mono hsz)
  refine ⟨Kd.M_row (Kd.R_lower (Kd.R_tight rfl hR) (by omega)), fun k hk => ⟨trivial, fun e => ?_⟩, ?_, hBn, hBn.size⟩
  · have h1 := Kd.R_base hR k hk.symm
    have h2 := Kd.S_lt hS k e.symm
    omega
  · refine Kd.S_below (Kd.S_mono (Kd.S_bound hS) (fun k hk => ⟨trivial, fun e => ?_⟩)) hb3
    have h1 := Kd.R_base hR k e.symm
    have h2 := hk.2.2.1
    omega
theorem lim_two {n N : Nat} (h : n + 1 ≤ N) (hN : N ≤ 5864062014805) : (n + 1) * 24 ≤ 140737488355328 ∧ (n + 1) * 8 ≤ 140737488355328 := by omega
set_option maxHeartbeats 2000000 in
set_option maxRecDepth 100000 in
theorem refCalled_calls (w : World) (A0 : Option Addr) (c0 : Nat) (p : List S42) (hC : Kd.C k42 w A0 p.length p) (hc : p.length ≤ c0) (hok : p.length ≤ 5864062014805) :
    Calls Try.prog 15 #[.slice A0 p.length c0] w fun e w' => ∃ v0_ : Value, e = .returned v0_ ∧ Kd.S (Kd.slice 3 (Kd.int .i64)) 35 w' w.heap.size (fun _ => True) v0_ (calledL p) ∧ Below w.heap.size w w' := by
  have HC := Aside0.mk hC
  obtain ⟨N, eN⟩ : ∃ N, N = p.length := ⟨_, rfl⟩
  have hN' : N ≤ 5864062014805 := by rw [eN]; exact hok
  have EN := Aside0.mk eN
  have NB := Aside0.mk (show N ≤ 5864062014805 by omega)
  rw [← eN]
  have HMK := Aside0.mk (run_make_row' (P := Try.prog) 33 4 (.bool false) 1 Try.underlying33 info4' rfl .i64 .i64 N (by omega) (by omega))
  clear hC hc hok hN' eN
  go_enter Try.func15, Try.ntmps15
  go_wp2
  go_loopw [3, 4] (fun v3 v4 wr => ∃ k : Nat, k ≤ N ∧ v4 = .int .i64 (k : Int) ∧ Aside0 (Kd.S (Kd.slice 3 (Kd.int .i64)) 35 wr w.heap.size (fun _ => True) v3 ((calledL p).take k)) ∧ Aside0 (Below w.heap.size w wr)) (fun _ v4 _ => N - (intOf v4).toNat)
  case atStart => exact ⟨0, Nat.zero_le _, rfl, ⟨Kd.S_nil _ _ _ _ _⟩, ⟨Below.refl _ _⟩⟩
  case round =>
    obtain ⟨k, hk, rfl, HS, HB⟩ := hrel
    obtain ⟨wo, rfl⟩ : ∃ wo : World, wo = wr := ⟨_, rfl⟩
    obtain ⟨rows, hrows⟩ : ∃ rows, rows = (calledL p).take k := ⟨_, rfl⟩
    rw [← hrows] at HS
    obtain ⟨A3, c3, e3⟩ := Kd.S_slice HS.out
    subst e3
    have ROWS := Aside0.mk hrows
    clear hrows
    by_cases hkN : k < N
    · obtain ⟨q1, q2, q3⟩ := pt_one NB.out hkN
      have hkp : k < p.length := by rw [← EN.out]; exact hkN
      obtain ⟨ad, A1, c1, A3', c3', A4, c4, A5, c5, hA, x0, x1, x2, x3, x4, x5, -, -, -, -, -, -, hc5, hC5⟩ := at_T42 HC.out (k : Int) q1 (by rw [← EN.out]; exact q2)
      subst hA
      obtain ⟨g, hg⟩ : ∃ g, g = p[k] := ⟨_, rfl⟩
      have hrd : rd_T42 p (k : Int) = g := by rw [hg]; unfold rd_T42; rw [Int.toNat_natCast, List.getD_eq_getElem?_getD, List.getElem?_eq_getElem hkp]; rfl
      rw [hrd] at x5 hc5 hC5
      rw [Int.toNat_natCast] at x5
      clear x0 x1 x2 x3 x4
      replace x5 := pw_cell_below HB.out x5
      have X5 := Aside0.mk x5
      have G := Aside0.mk hg
      have HC5 := Aside0.mk hC5
      have M5 := Aside0.mk (Kd.C_max hC5)
      have Q3 := Aside0.mk q3
      have hmk := HMK.out
      clear hrd hg hc5 hC5 q3
      go_wp2
      clear x5 hmk
      obtain ⟨go, ego⟩ : ∃ go, go = wo.heap.size := ⟨_, rfl⟩
      have HI0 := Aside0.mk (show IR wo (wo.alloc (.cells (madeCells #[.bool false] N) 4)) go N [] by rw [ego]; exact IR.made wo N)
      have GO := Aside0.mk (show wo.heap.size ≤ go by rw [ego]; exact Nat.le_refl _)
      (try simp only [← ego])
      clear ego
      go_loopw [6] (fun v6 wm => ∃ j : Nat, j ≤ g.f5.length ∧ v6 = .int .i64 (j : Int) ∧ Aside0 (IR wo wm go N ((g.f5.take j).flatMap (refsB N)))) (fun v6 _ => g.f5.length - (intOf v6).toNat)
      case atStart => exact ⟨0, Nat.zero_le _, rfl, ⟨by rw [List.take_zero]; exact HI0.out⟩⟩
      case round =>
        clear HI0
        obtain ⟨j, hj, rfl, HI⟩ := hrel
        obtain ⟨wm, rfl⟩ : ∃ wm : World, wm = wr := ⟨_, rfl⟩
        have x5 := pw_cell_below HI.out.b X5.out
        by_cases hjl : j < g.f5.length
        · obtain ⟨r1, r2, r3⟩ := pt_three M5.out hjl
          obtain ⟨bd, B0, b0, hA5, y0, y1, y2, y3, y4, y5, hb0, hB0⟩ := at_T64 HC5.out (j : Int) r1 r2
          subst hA5
          obtain ⟨b, hb⟩ : ∃ b, b = g.f5[j] := ⟨_, rfl⟩
          have hrd : rd_T64 g.f5 (j : Int) = b := by rw [hb]; unfold rd_T64; rw [Int.toNat_natCast, List.getD_eq_getElem?_getD, List.getElem?_eq_getElem hjl]; rfl
          rw [hrd] at y0 hb0 hB0
          rw [Int.toNat_natCast] at y0
          clear y1 y2 y3 y4 y5
          have Y0 := Aside0.mk (pw_cell_below HB.out y0)
          have B := Aside0.mk hb
          have HB0 := Aside0.mk hB0
          have M0 := Aside0.mk (Kd.C_max hB0)
          have R3 := Aside0.mk r3
          clear hrd hb hb0 hB0 r3 y0
          go_wp2
          clear x5
          go_loopw [7] (fun v7 wn => ∃ m : Nat, m ≤ b.f0.length ∧ v7 = .int .i64 (m : Int) ∧ Aside0 (IR wo wn go N ((g.f5.take j).flatMap (refsB N) ++ refsTo N b.f0 m))) (fun v7 _ => b.f0.length - (intOf v7).toNat)
          case atStart => exact ⟨0, Nat.zero_le _, rfl, ⟨by rw [refsTo_zero, List.append_nil]; exact HI.out⟩⟩
          case round =>
            clear HI
            obtain ⟨m, hm, rfl, HI⟩ := hrel
            obtain ⟨wn, rfl⟩ : ∃ wn : World, wn = wr := ⟨_, rfl⟩
            have x5 := pw_cell_below HI.out.b X5.out
            have y0 := pw_cell_below HI.out.b Y0.out
            by_cases hml : m < b.f0.length
            · obtain ⟨s1, s2, s3⟩ := pt_three M0.out hml
              obtain ⟨xd, X3, e3, hB, z0, z1, z2, z3, z4, z5, -, -⟩ := at_T69 HB0.out (m : Int) s1 s2
              subst hB
              obtain ⟨x, hx⟩ : ∃ x, x = b.f0[m] := ⟨_, rfl⟩
              have hrd : rd_T69 b.f0 (m : Int) = x := by rw [hx]; unfold rd_T69; rw [Int.toNat_natCast, List.getD_eq_getElem?_getD, List.getElem?_eq_getElem hml]; rfl
              rw [hrd] at z0 z1 z2 z3 z4 z5
              rw [Int.toNat_natCast] at z0 z1 z2 z3 z4 z5
              have HV := Aside0.mk (HB.out.trans (HI.out.b.mono HB.out.size))
              replace z0 := pw_cell_below HV.out z0
              replace z1 := pw_cell_below HV.out z1
              replace z2 := pw_cell_below HV.out z2
              replace z3 := pw_cell_below HV.out z3
              replace z4 := pw_cell_below HV.out z4
              replace z5 := pw_cell_below HV.out z5
              have X := Aside0.mk hx
              have S3 := Aside0.mk s3
              clear hrd hx s3
              by_cases h9 : x.f0 = 9
              · by_cases h0 : 0 ≤ x.f5
                · by_cases hn : x.f5 < (N : Int)
                  · have HR := Aside0.mk (show isRef N b.f0[m] = true by rw [← X.out]; unfold isRef; simp [h9, h0, hn])
                    obtain ⟨y, hy⟩ := Int.eq_ofNat_of_zero_le h0
                    have hyN : y < N := by omega
                    have hy1 : (0 : Int) ≤ (y : Int) := by omega
                    have hy2 : (y : Int) < (N : Int) := by omega
                    have xo := (HI.out.r.alloc (.cells #[.int .u8 9, .int .u8 x.f1, .int .i64 x.f2, .slice X3 x.f3.length e3, .int .u64 x.f4, .int .i64 (y : Int)] 69)).cell hyN
                    have fo := (HI.out.r.alloc (.cells #[.int .u8 9, .int .u8 x.f1, .int .i64 x.f2, .slice X3 x.f3.length e3, .int .u64 x.f4, .int .i64 (y : Int)] 69)).frozen y
                    have HY := Aside0.mk hy
                    clear h0 hn
                    go_wp2
                    go_roundw
                    case rel => exact ⟨m + 1, hml, by rw [S3.out], ⟨by
                      rw [refsTo_yes hml HR.out, ← List.append_assoc, ← X.out, HY.out]
                      exact (HI.out.alloc _).put GO.out⟩⟩
                    case measure => rw [S3.out]; exact pt_meas hml
                  · have HR := Aside0.mk (show isRef N b.f0[m] = false by rw [← X.out]; unfold isRef; simp [hn])
                    go_wp2
                    go_roundw
                    case rel => exact ⟨m + 1, hml, by rw [S3.out], ⟨by rw [refsTo_no hml HR.out]; exact HI.out.alloc _⟩⟩
                    case measure => rw [S3.out]; exact pt_meas hml
                · have HR := Aside0.mk (show isRef N b.f0[m] = false by rw [← X.out]; unfold isRef; simp [h0])
                  go_wp2
                  go_roundw
                  case rel => exact ⟨m + 1, hml, by rw [S3.out], ⟨by rw [refsTo_no hml HR.out]; exact HI.out.alloc _⟩⟩
                  case measure => rw [S3.out]; exact pt_meas hml
              · have HR := Aside0.mk (show isRef N b.f0[m] = false by rw [← X.out]; unfold isRef; simp [h9])
                go_wp2
                go_roundw
                case rel => exact ⟨m + 1, hml, by rw [S3.out], ⟨by rw [refsTo_no hml HR.out]; exact HI.out.alloc _⟩⟩
                case measure => rw [S3.out]; exact pt_meas hml
            · obtain rfl := pt_end hm hml
              have hnl : ¬ ((b.f0.length : Int) < (b.f0.length : Int)) := Int.lt_irrefl _
              have r3 := R3.out
              go_wp2
              go_roundw
              case rel => exact ⟨j + 1, hjl, by rw [R3.out], ⟨by rw [refs_next hjl, ← B.out, ← refsTo_all]; exact HI.out⟩⟩
              case measure => rw [R3.out]; exact pt_meas hjl
        · obtain rfl := pt_end hj hjl
          obtain ⟨L, hL⟩ : ∃ L, L = refsG N g := ⟨_, rfl⟩
          have HL := Aside0.mk hL
          have HI2 := Aside0.mk (show IR wo wm go N L by have := HI.out; rw [List.take_length] at this; rw [hL]; exact this)
          have hnl : ¬ ((g.f5.length : Int) < (g.f5.length : Int)) := Int.lt_irrefl _
          clear HI hL
          go_wp2
          clear x5 hnl
          go_loopw [9, 10] (fun v9 v10 wn => ∃ t : Nat, t ≤ N ∧ v10 = .int .i64 (t : Int) ∧ Aside0 (Below (go + 1) wm wn) ∧ Aside0 (Kd.R (Kd.int .i64) 3 wn (go + 1) (fun _ => True) v9 (RL L t))) (fun _ v10 _ => N - (intOf v10).toNat)
          case atStart => exact ⟨0, Nat.zero_le _, rfl, ⟨Below.refl _ _⟩, ⟨show Kd.R (Kd.int .i64) 3 wm (go + 1) (fun _ => True) (.slice none 0 0) [] from Kd.R_nil _ _ _ _ _⟩⟩
          case round =>
            obtain ⟨t, ht, rfl, HT, HR⟩ := hrel
            obtain ⟨wn, rfl⟩ : ∃ wn : World, wn = wr := ⟨_, rfl⟩
            obtain ⟨l9, hl9⟩ : ∃ l9, l9 = RL L t := ⟨_, rfl⟩
            rw [← hl9] at HR
            obtain ⟨A9, c9, e9⟩ := Kd.R_slice HR.out
            subst e9
            have L9 := Aside0.mk hl9
            clear hl9
            by_cases htN : t < N
            · obtain ⟨u1, u2, u3⟩ := pt_one NB.out htN
              have U3 := Aside0.mk u3
              have RI := Aside0.mk (HI2.out.r.of_block (HT.out.block go (Nat.lt_succ_self go)))
              have xo := RI.out.cell htN
              clear u3
              cases hct : L.contains (t : Int) with
              | true =>
                rw [hct] at xo
                have HCT := Aside0.mk hct
                have LM := Aside0.mk (lim_two (n := l9.length) (by rw [L9.out]; exact Nat.le_trans (Nat.succ_le_succ (RL_len L t)) htN) NB.out)
                have SZ := Aside0.mk (show go + 1 ≤ wn.heap.size from RI.out.lt)
                go_wp2_with (first
                  | ((with_reducible refine gate_builtin (b := .append) (xs := #[.tmp 85, .tmp 87]) rfl ?_); at_builtin
                     refine Kd.R_append (Kd.int .i64) (w0 := wm) (go + 1) rfl (.tmp 85) (.tmp 87) 35 3 (.int .i64 0) 8 rfl Try.underlying35 info3 rfl (by decide) (by omega) (.slice A9 l9.length c9) l9 (t : Int) [.int .i64 (t : Int)] (fun _ => True) (fun _ => False) rfl rfl rfl (fun _ hk => hk.elim) (fun _ _ => trivial) HR.out HT.out SZ.out LM.out.2 ?_
                     intro v11 w11 ho hb hg hat
                     have HT2 := Aside0.mk hb
                     have HR2 := Aside0.mk ho
                     clear ho hb hg hat))
                go_roundw
                case rel => exact ⟨t + 1, htN, by rw [U3.out], HT2, ⟨by rw [RL_yes HCT.out, ← L9.out]; exact HR2.out⟩⟩
                case measure => rw [U3.out]; exact pt_meas htN
              | false =>
                rw [hct] at xo
                have HCT := Aside0.mk hct
                go_wp2
                go_roundw
                case rel => exact ⟨t + 1, htN, by rw [U3.out], HT, ⟨by rw [RL_no HCT.out, ← L9.out]; exact HR.out⟩⟩
                case measure => rw [U3.out]; exact pt_meas htN
            · obtain rfl := pt_end ht htN
              have hnl : ¬ ((t : Int) < (t : Int)) := Int.lt_irrefl _
              have hlr : rows.length + 1 ≤ t := by rw [ROWS.out, List.length_take]; omega
              have LM := Aside0.mk (lim_two hlr NB.out)
              have HAP := Aside0.mk (AP.mk_ (go := go) HS.out HB.out HI2.out.b HT.out GO.out HR.out)
              have E9 := Aside0.mk (show l9 = cmpZ (refsG t g) by rw [L9.out, HL.out]; exact RL_all t g)
              have q3 := Q3.out
              clear hlr
              go_wp2_with (first
                | ((with_reducible refine gate_builtin (b := .append) (xs := #[.tmp 89, .tmp 91]) rfl ?_); at_builtin
                   refine Kd.S_append (Kd.slice 3 (Kd.int .i64)) (w0 := w) w.heap.size rfl (.tmp 89) (.tmp 91) 22 35 (.slice none 0 0) 24 rfl Try.underlying22 info35 rfl (by decide) (by omega) (.slice A3 rows.length c3) rows l9 [.slice A9 l9.length c9] (fun _ => True) (fun k_ => some k_ = (.slice A9 l9.length c9 : Value).ownBlock) rfl rfl HAP.out.p HAP.out.q (fun _ _ => trivial) HAP.out.s HAP.out.b HAP.out.z LM.out.1 ?_
                   intro v11 w11 ho hb hg hat
                   have HS2 := Aside0.mk ho
                   have HB2 := Aside0.mk hb
                   clear ho hb hg hat))
              go_roundw
              case rel => exact ⟨k + 1, hkN, by rw [Q3.out], ⟨by
                rw [called_next hkp, ← G.out, ← EN.out, ← E9.out, ← ROWS.out]
                exact HS2.out⟩, HB2⟩
              case measure => rw [Q3.out]; exact pt_meas hkN
    · obtain rfl := pt_end hk hkN
      have hnl : ¬ ((k : Int) < (k : Int)) := Int.lt_irrefl _
      go_wp2
      go_ret
      refine ⟨_, rfl, ?_, HB.out⟩
      have er : rows = calledL p := by rw [ROWS.out, EN.out, List.take_of_length_le (by rw [called_len]; exact Nat.le_refl _)]
      rw [← er]
      exact HS.out
end Go.Proofs.Ytligpleningglaa.Cw
