/- Texts of this proof, joined in build order: FlatT, BagT, Fxf110, Fxf91, Fxf45, Fxf26, Mk. -/
import Derived.Test.YtligpleningglaaGreatCz
import Derived.Test.YtligpleningglaaGreatC09
import Derived.Test.YtligpleningglaaGreatC10
import Derived.Deep.DeepCutAuto
import Derived.Maps.Range
import Derived.Test.YtligpleningglaaGreatC11
import Derived.Test.YtligpleningglaaGreatC02
set_option linter.unusedVariables false
set_option linter.unusedSimpArgs false
set_option linter.unusedSectionVars false
set_option maxHeartbeats 8000000
set_option maxRecDepth 100000
namespace Go.Proofs.YtligpleningglaaGreat.Mt
open Go Go.RowKit Go.Proofs.YtligpleningglaaGreatW.PrintWords Go.Proofs.YtligpleningglaaGreatW.PrintLast Go.Proofs.YtligpleningglaaGreatW.PrintMore Go.Proofs.YtligpleningglaaGreat.F Go.Proofs.YtligpleningglaaGreat.Lk Go.Proofs.YtligpleningglaaGreat.Keep
theorem ft0 {p : Prop} (h : p := by exact fun a w' hG hd hf K hK => by have f0 := Rs.ld (hd 0 _ rfl rfl _ rfl) rfl; have f1 := Rs.ld (hd 1 _ rfl rfl _ rfl) rfl; exact Rs.ok_val (Rs.want_none rfl) Rs.gs (hK w' hG)) : p := h
theorem ft1 {p : Prop} (h : p := by exact fun a w' hG hd hf K hK => by have f0 := Rs.ld (hd 0 _ rfl rfl _ rfl) rfl; exact Rs.ok_val (Rs.want_none rfl) Rs.gs (hK w' hG)) : p := h
theorem ft2 {p : Prop} (h : p := by exact fun a w' hG hd hf K hK => by have f0 := Rs.ld (hd 0 _ rfl rfl _ rfl) rfl; have f1 := Rs.ld (hd 1 _ rfl rfl _ rfl) rfl; exact Rs.ok_val ((Rs.want_on rfl rfl (hd 2 _ rfl rfl _ rfl)).trans rfl) Rs.gs (hK w' hG)) : p := h
theorem ft3 {p : Prop} (h : p := by exact fun a w' hG hd hf K hK => by have f0 := Rs.ld (hd 0 _ rfl rfl _ rfl) rfl; exact Rs.ok_val ((Rs.want_on rfl rfl (hd 1 _ rfl rfl _ rfl)).trans rfl) Rs.gs (hK w' hG)) : p := h
theorem ft4 {p : Prop} (h : p := by exact fun a w' hG hd hf K hK => Rs.ok_off ((Rs.want_on rfl rfl (hd 0 _ rfl rfl _ rfl)).trans rfl) (hK w' hG)) : p := h
theorem ft5 {p : Prop} (h : p := by exact fun a w' hG hd hf K hK => Rs.ok_off ((Rs.want_on rfl rfl (hd 1 _ rfl rfl _ rfl)).trans rfl) (hK w' hG)) : p := h
theorem ft6 {p : Prop} (h : p := by exact fun a w' hG hd hf K hK => by have f0 := Rs.lf (hf 9 cq6) rfl; exact Rs.ok_val (Rs.want_none rfl) Rs.gs (hK w' hG)) : p := h
theorem ft7 {p : Prop} (h : p := by exact fun a w' hG hd hf K hK => by have f0 := Rs.lf (hf 10 cq6) rfl; exact Rs.ok_val (Rs.want_none rfl) Rs.gs (hK w' hG)) : p := h
theorem ft8 {p : Prop} (h : p := by exact fun a w' hG hd hf K hK => by have f0 := Rs.lf (hf 10 cq6) rfl; exact Rs.ok_val ((Rs.want_on rfl rfl (hd 0 _ rfl rfl _ rfl)).trans rfl) Rs.gs (hK w' hG)) : p := h
theorem ft9 {p : Prop} (h : p := by exact fun a w' hG hd hf K hK => by have f0 := Rs.lf (hf 9 cq6) rfl; exact Rs.ok_val ((Rs.want_on rfl rfl (hd 0 _ rfl rfl _ rfl)).trans rfl) Rs.gs (hK w' hG)) : p := h
theorem ft10 {p : Prop} (h : p := by exact fun a w' hG hd hf K hK => Rs.ok_off ((Rs.want_on rfl rfl (hd 2 _ rfl rfl _ rfl)).trans rfl) (hK w' hG)) : p := h
theorem ft11 {p : Prop} (h : p := by exact fun a w' hG hd hf K hK => by have f0 := Rs.lf (hf 0 cq6) rfl; exact Rs.ok_val ((Rs.want_on rfl rfl (hd 0 _ rfl rfl _ rfl)).trans rfl) Rs.gs (hK w' hG)) : p := h
theorem ft12 {p : Prop} (h : p := by exact fun a w' hG hd hf K hK => by have f0 := Rs.ld (hd 0 _ rfl rfl _ rfl) rfl; have z0 := pw_cell_below hG hx0; exact Rs.ok_val ((Rs.want_on rfl rfl (hd 1 _ rfl rfl _ rfl)).trans rfl) Rs.gs (hK w' hG)) : p := h
def CI (k : Int) (n : Nat) : List Value := (List.range n).map fun (i : Nat) => .bool ((mkI k (i : Int)).tmod 2 == 0)
theorem CI_len (k : Int) (n : Nat) : (CI k n).length = n := by simp [CI]
theorem CI_succ (k : Int) (n : Nat) : CI k (n + 1) = CI k n ++ [.bool ((mkI k (n : Int)).tmod 2 == 0)] := by unfold CI; rw [List.range_succ, List.map_append]; rfl
theorem CI_get (k : Int) {n i : Nat} (h : i < n) : (CI k n)[i]? = some (.bool ((mkI k (i : Int)).tmod 2 == 0)) := by
 unfold CI; rw [List.getElem?_map, List.getElem?_range h]; rfl
theorem CI_take (k : Int) (n q : Nat) : (CI k (n + q)).take n = CI k n := by
 unfold CI; rw [← List.map_take, List.take_range, Nat.min_eq_left cq2]
theorem info35o : (Tryz.prog.info? 33).map (fun i => (i.zero, i.size, i.bytes)) = some (some (.slice none 0 0), 1, 24) := by kernel_rfl
theorem flatTruths_calls (base : Nat) (vls : Value) (vs : List Value) (ns : List Nat) (w : World) (hm : vs.length ≤ 480) (hn : ∀ j, ns.getD j 0 + 64 ≤ 17592186044416) (hbase : base ≤ w.heap.size)
 (ho : w.ownsRow base 33 1 vls vs.length vs) (hr : ∃ cs, RowsO w base 4 1 vs ns cs) (ha : Apart vs vs) (hs : ∀ j, disj vls (at_ vs j)) :
 Calls Tryz.prog 67 #[vls] w fun e w' => e = .returned (.bool true) ∧ Below base w w' ∧ KQ w w' vs := by
 obtain ⟨A, c, rfl⟩ := own_slice ho
 obtain ⟨cs0, hr0⟩ := hr
 have HO := qA ho
 have HR := qA hr0
 have HA := qA ha
 have HN := qA hn
 have HS := qA hs
 clear ho hr0 ha hn hs
 go_enter Tryz.func67, Tryz.ntmps67
 go_wp2
 go_loopw [3] (fun v3 wr => ∃ (k : Nat) (cs : Nat → List Value), k ≤ vs.length ∧ v3 = .int .i64 (k : Int) ∧ Aside0 (∀ j, j < k → cs j = CI j (ns.getD j 0)) ∧ Aside0 (wr.ownsRow base 33 1 (.slice A vs.length c) vs.length vs) ∧ Aside0 (RowsO wr base 4 1 vs ns cs) ∧ Aside0 (Below base w wr) ∧ Aside0 (KQ w wr vs)) (fun v3 _ => vs.length - (intOf v3).toNat)
 case atStart => exact ⟨0, cs0, Nat.zero_le _, rfl, ⟨fun j hj => absurd hj cq2⟩, HO, HR, ⟨Below.refl _ _⟩, ⟨KQ.refl _ _⟩⟩
 case round =>
  clear HO HR
  obtain ⟨k, cs, hk, rfl, HC, HO, HR, HB, HKQ⟩ := hrel
  by_cases hlt : k < vs.length
  ·obtain ⟨L, c', hLv, hLb, hLl⟩ := HO.out.form cq2
   injection hLv with e1 _ e2
   subst e1 e2
   have hx0 : wr.cell? ⟨L, k, none⟩ = some (at_ vs k) := by
    have := HO.out.cells (g := L) rfl k (at_ vs k) cq22
    rwa [add_plain] at this
   have hk0 := HR.out k hlt
   obtain ⟨Ak, ck, hvk⟩ := own_slice hk0
   rw [hvk] at hx0 hk0
   have HVK := qA hvk
   have HK0 := qA hk0
   clear hvk hk0
   obtain ⟨n, hnk⟩ : ∃ n, ns.getD k 0 = n := ⟨_, rfl⟩
   have hn64 := HN.out k
   rw [hnk] at hx0 HVK HK0 hn64
   have HNK := qA hnk
   clear hnk
   have HX : Aside0 (some L ≠ (Value.slice Ak n ck).ownBlock) := ⟨by
    have := HS.out k
    rw [HVK.out] at this
    rcases this with h | h
    ·cases h
    ·exact h⟩
   go_wp2
   obtain ⟨W1, hW1⟩ : ∃ x, x = wr := ⟨_, rfl⟩
   subst hW1
   go_loopw [4] (fun v4 wi => ∃ (i : Nat), i ≤ n ∧ v4 = .int .i64 (i : Int) ∧ Aside0 (wi.ownsRow base 4 1 (.slice Ak n ck) n (CI k i ++ (cs k).drop i)) ∧ Aside0 (Below base w wi) ∧ Aside0 (W1.grownBy wi (Value.slice Ak n ck).ownBlock)) (fun v4 _ => n - (intOf v4).toNat)
   case atStart => exact ⟨0, Nat.zero_le _, rfl, ⟨by simpa [CI] using HK0.out⟩, HB, ⟨World.grownBy.refl _ _⟩⟩
   case round =>
    obtain ⟨i, hi, rfl, HK, HBi, HG⟩ := hrel
    have hx0i : wr.cell? ⟨L, k, none⟩ = some (.slice Ak n ck) := by
     rw [HG.out.cell_far _ (World.block_lt_of_cell? _ _ hx0) (HX.out)]; exact hx0
    by_cases hli : i < n
    ·have hk1000 : (k : Int) ≤ 1000 := by omega
     obtain ⟨b, c2, hbv, hbb, hbl⟩ := HK.out.form cq2
     injection hbv with e1 _ e2
     subst e1 e2
     obtain ⟨r0, rest, hrest⟩ : ∃ r rs, (cs k).drop i = r :: rs := by
      have hl1 : ((cs k).drop i).length = n - i := by rw [List.length_drop, (by simpa using HK0.out.1 : (cs k).length = n)]
      cases hd1 : (cs k).drop i with
      | nil => rw [hd1] at hl1; simp at hl1; omega
      | cons r rs => exact ⟨r, rs, rfl⟩
     have hget : (CI k i ++ r0 :: rest)[i]? = some r0 := by rw [List.getElem?_append_right cq40, CI_len, Nat.sub_self]; rfl
     have hset : (CI k i ++ r0 :: rest).set i (.bool ((mkI k (i : Int)).tmod 2 == 0)) = CI k (i + 1) ++ rest := by rw [List.set_append_right _ _ cq40, CI_len, Nat.sub_self, CI_succ]; simp
     have HGET := qA hget
     have HSET := qA hset
     clear hget hset
     have HRE := qA hrest
     rw [hrest] at HK
     clear hrest
     go_wp2
     go_upto_region 7 with (fail)
     refine Rs.wp_region_tail [31, 32, 33, 34, 35, 36, 37, 38, 39, 40, 41] [.slice (some ⟨L, 0, none⟩) vs.length c, .int .i64 ((k : Int)), .pointer (some (⟨L, k, none⟩)), .slice (some ⟨b, 0, none⟩) n ck, .int .i64 ((i : Int)), .int .i64 ((k : Int)), .int .i64 ((i : Int)), .int .i64 (mkI (k : Int) (i : Int)), .int .i64 ((mkI (k : Int) (i : Int)).tmod 2), .bool ((mkI (k : Int) (i : Int)).tmod 2 == 0), .pointer (some (⟨b, i, none⟩))] (fun w' => Below wr.heap.size wr w') cq3 cq3 rfl rfl (below_drew (Below.refl _ _)) ⟨?s0, ?s1, ft0, ?s3, ?s4, ?s5, ?s6, ?s7, ft1, ft1, ft0, trivial⟩ rfl ?_
     case s0 => exact fun a w' hG hd hf K hK => by have f0 := Rs.lf (hf 0 cq6) rfl; exact Rs.ok_val (Rs.want_none rfl) Rs.gs (hK w' hG)
     case s1 | s5 => exact fun a w' hG hd hf K hK => by have f0 := Rs.lf (hf 3 cq6) rfl; exact Rs.ok_val (Rs.want_none rfl) Rs.gs (hK w' hG)
     case s3 => exact fun a w' hG hd hf K hK => by have f0 := Rs.ld (hd 0 _ rfl rfl _ rfl) rfl; have z0 := pw_cell_below hG hx0i; exact Rs.ok_val (Rs.want_none rfl) Rs.gs (hK w' hG)
     case s4 | s6 => exact fun a w' hG hd hf K hK => by have f0 := Rs.lf (hf 4 cq6) rfl; exact Rs.ok_val (Rs.want_none rfl) Rs.gs (hK w' hG)
     case s7 =>
      exact fun a w' hG hd hf K hK => by
       have e36 : a.tmps[36]? = some (.int .i64 ((k : Int))) := hd 0 _ rfl rfl _ rfl; have e37 : a.tmps[37]? = some (.int .i64 ((i : Int))) := hd 1 _ rfl rfl _ rfl
       exact goes_ Tryz.func24 cq3 rfl #[.int .i64 (k : Int), .int .i64 (i : Int)] (Rs.want_none rfl) rfl rfl (by simp [Act.eval, Array.getD_eq_getD_getElem?, e36, e37]) (((mark_calls (k : Int) (i : Int) w' cq2 cq2 cq2 cq2).mono cq7))
     intro w3 hG K hK
     have hHeld : Below base w w3 ∧ True ∧ w3.ownsRow base 4 1 (.slice (some ⟨b, 0, none⟩) n ck) n (CI k i ++ r0 :: rest) ∧ wr.heap.size ≤ w3.heap.size ∧ Below wr.heap.size wr w3 := ⟨below_then HBi.out (Nat.le_trans hbase HBi.out.size) hG, trivial, pw_own_below HK.out hG, hG.size, hG⟩
     generalize hput : Rs.putL _ _ _ = ap
     simp only [Rs.putL, Act.put, qS, qZ, qN] at hput
     subst hput
     have hcl : w3.cell? ⟨b, i, none⟩ = some r0 := by have := hHeld.2.2.1.cells (g := b) rfl i r0 HGET.out; rwa [add_plain] at this
     have hfr : w3.frozen? ⟨b, i, none⟩ = false := hHeld.2.2.1.frozenAt i
     refine Rs.ok_skip (w1 := w3.setCell ⟨b, i, none⟩ (.bool ((mkI (k : Int) (i : Int)).tmod 2 == 0))) (Rs.want_none rfl) rfl ?_ ?_
     ·clear hK hHeld hG
      go_simp
      try rfl
     refine hK _ _ ?_
     clear hK K hG
     obtain ⟨hst, hgr⟩ := hHeld.2.2.1.stored i (.bool ((mkI (k : Int) (i : Int)).tmod 2 == 0))
     rw [HSET.out, ← (show (cs k).drop (i + 1) = rest by have := congrArg List.tail HRE.out; simpa [List.tail_drop] using this)] at hst
     have HKn := qA hst
     have HBn := qA (hHeld.1.setCell hbb (.bool ((mkI (k : Int) (i : Int)).tmod 2 == 0)) : Below base w (w3.setCell ⟨b, i, none⟩ (.bool ((mkI (k : Int) (i : Int)).tmod 2 == 0))))
     have HGn := qA (HG.out.trans ((grown_of_below hHeld.2.2.2.2 _).trans hgr))
     clear hst hgr hHeld hcl hfr
     go_wp2
     go_roundw
     case rel => exact ⟨i + 1, by omega, by go_num, HKn, HBn, HGn⟩
     case measure => simp [intOf]; omega
    ·obtain rfl : i = n := by omega
     have hKd : (CI k i ++ (cs k).drop i) = CI k i := by rw [List.drop_eq_nil_of_le (by rw [(by simpa using HK0.out.1 : (cs k).length = i)]; exact Nat.le_refl _), List.append_nil]
     have hKo := HK.out
     rw [hKd, ← HVK.out] at hKo
     have hGv := HG.out
     rw [← HVK.out] at hGv
     have HO' := qA (own_grown HO.out hGv (HS.out k))
     have HKQ' : Aside0 (KQ w wr vs) := ⟨HKQ.out.step HB.out.size hGv (fun q e => .inr ⟨k, e⟩)⟩
     have HR' := qA (HR.out.set HA.out hGv (by rw [HNK.out]; exact hKo))
     have HC' : Aside0 (∀ j, j < k + 1 → upd1 cs k (CI k i) j = CI j (ns.getD j 0)) := ⟨fun j hj => by
      by_cases e : j = k
      ·subst e; rw [upd1_same, HNK.out]
      ·rw [upd1_other e]; exact HC.out j cq2⟩
     clear hKd hKo hGv
     go_wp2
     go_roundw
     case rel => exact ⟨k + 1, _, by omega, by go_num, HC', HO', HR', HBi, HKQ'⟩
     case measure => simp [intOf]; omega
  ·obtain rfl : k = vs.length := by omega
   obtain ⟨i0, hi, hz0, hz1, hz2⟩ := info_parts info35o
   obtain ⟨W0, hrun, hown, hg⟩ := run_make_full (P := Tryz.prog) wr base 42 33 i0 nilV 1 Tryz.underlying42 hi hz0 hz1 .i64 .i64 vs.length cq49 cq35 (Nat.le_trans hbase HB.out.size)
   obtain ⟨G, hG⟩ : ∃ x, wr.heap.size = x := ⟨_, rfl⟩
   have HB0 := qA (HB.out.grown hg (Nat.le_trans hbase HB.out.size) (fun k hk => by cases hk))
   have HKQ0 : Aside0 (KQ w W0 vs) := ⟨HKQ.out.step HB.out.size hg (fun q e => by cases e)⟩
   have HGW : Aside0 (w.heap.size ≤ G) := ⟨by rw [← hG]; exact HB.out.size⟩
   have HO0 := qA (own_grown HO.out (u := nilV) hg (disj_nil _).symm)
   have HR0 : Aside0 (RowsO W0 base 4 1 vs ns (fun j => CI j (ns.getD j 0))) := ⟨fun j hj => by
    have := own_grown (HR.out j hj) (u := nilV) hg (disj_nil _).symm
    rw [HC.out j hj] at this
    exact this⟩
   have HVG : Aside0 (∀ j, disj (.slice (some ⟨G, 0, none⟩) vs.length vs.length) (at_ vs j)) := ⟨fun j => by
    by_cases hj : j < vs.length
    ·refine disj.symm (disj_fresh (HR.out j hj) (b := G) rfl cq2)
    ·refine disj.symm (.inl ?_)
     unfold at_
     rw [qD, List.getElem?_eq_none cq2]
     rfl⟩
   have HLG : Aside0 (disj (.slice A vs.length c) (.slice (some ⟨G, 0, none⟩) vs.length vs.length)) := ⟨disj_fresh HO.out (b := G) rfl cq2⟩
   have HGS0 : Aside0 (W0.ownsRow base 33 1 (.slice (some ⟨G, 0, none⟩) vs.length vs.length) vs.length (List.replicate vs.length nilV)) := ⟨by
    rw [← hG]
    rw [show (madeCells nilV.cells (vs.length * 1)).toList = List.replicate vs.length nilV by rw [Nat.mul_one]; exact toList_madeCells_one _ _] at hown
    exact hown⟩
   have HRUN := qA hrun
   rw [hG] at hrun
   clear hi hz0 hz1 hz2 hown hg HB HO HR HC HRUN HKQ
   go_wp2
   clear hrun
   go_loopw [6] (fun v6 wr => ∃ (k : Nat) (gs : List Value), k ≤ vs.length ∧ v6 = .int .i64 (k : Int) ∧ Aside0 (gs.length = vs.length)
    ∧ Aside0 (∀ j, j < k → wr.ownsRow base 4 1 (at_ gs j) (ns.getD j 0 + 64) (CI j (ns.getD j 0 + 64)))
    ∧ Aside0 (∀ i j, j < k → i ≠ j → disj (at_ vs i) (at_ gs j)) ∧ Aside0 (∀ i j, i < k → j < k → i ≠ j → disj (at_ gs i) (at_ gs j))
    ∧ Aside0 (∀ j, j < k → disj (.slice (some ⟨G, 0, none⟩) vs.length vs.length) (at_ gs j)) ∧ Aside0 (∀ j, j < k → disj (.slice A vs.length c) (at_ gs j))
    ∧ Aside0 (wr.ownsRow base 33 1 (.slice A vs.length c) vs.length vs) ∧ Aside0 (wr.ownsRow base 33 1 (.slice (some ⟨G, 0, none⟩) vs.length vs.length) vs.length gs)
    ∧ Aside0 (RowsO wr base 4 1 vs ns (fun j => CI j (ns.getD j 0))) ∧ Aside0 (Below base w wr) ∧ Aside0 (KQ w wr vs)) (fun v6 _ => vs.length - (intOf v6).toNat)
   case atStart => exact ⟨0, _, Nat.zero_le _, rfl, ⟨List.length_replicate⟩, ⟨fun j hj => absurd hj cq2⟩, ⟨fun i j hj => absurd hj cq2⟩, ⟨fun i j hj => absurd hj cq2⟩, ⟨fun j hj => absurd hj cq2⟩, ⟨fun j hj => absurd hj cq2⟩, HO0, HGS0, HR0, HB0, HKQ0⟩
   case round =>
    clear HO0 HGS0 HR0 HB0 HKQ0
    obtain ⟨k, gs, hk, rfl, HGL, HGR, HD1, HD2, HD3, HD4, HO, HGS, HR, HB, HKQ⟩ := hrel
    by_cases hlt : k < vs.length
    ·obtain ⟨L, c', hLv, hLb, hLl⟩ := HO.out.form cq2
     injection hLv with e1 _ e2
     subst e1 e2
     have hx0 : wr.cell? ⟨L, k, none⟩ = some (at_ vs k) := by
      have := HO.out.cells (g := L) rfl k (at_ vs k) cq22
      rwa [add_plain] at this
     have hk0 := HR.out k hlt
     obtain ⟨Ak, ck, hvk⟩ := own_slice hk0
     rw [hvk] at hx0 hk0
     have HVK := qA hvk
     have HK0 := qA hk0
     clear hvk hk0
     obtain ⟨n, hnk⟩ : ∃ n, ns.getD k 0 = n := ⟨_, rfl⟩
     have hn64 := HN.out k
     rw [hnk] at hx0 HVK HK0 hn64
     have HNK := qA hnk
     have HK0' : Aside0 (wr.ownsRow base 4 1 (.slice Ak n ck) n (CI k n)) := ⟨by have := HK0.out; simp only [hnk] at this; exact this⟩
     clear hnk
     have HX : Aside0 (some L ≠ (Value.slice Ak n ck).ownBlock) := ⟨by
      have := HS.out k
      rw [HVK.out] at this
      rcases this with h | h
      ·cases h
      ·exact h⟩
     go_wp2
     obtain ⟨W1, hW1⟩ : ∃ x, x = wr := ⟨_, rfl⟩
     subst hW1
     go_loopw [7, 8] (fun v7 v8 wi => ∃ (q : Nat), q ≤ 64 ∧ v8 = .int .i64 (q : Int) ∧ Aside0 (wi.ownsRow base 4 1 v7 (n + q) (CI k (n + q))) ∧ Aside0 (wi.ownsRow base 4 1 (.slice Ak n ck) n (CI k n)) ∧ Aside0 (Below base w wi) ∧ Aside0 (W1.grownBy wi (Value.slice Ak n ck).ownBlock)
      ∧ Aside0 (v7.ownBlock = (Value.slice Ak n ck).ownBlock ∨ ∃ b, v7.ownBlock = some b ∧ W1.heap.size ≤ b)) (fun _ v8 _ => 64 - (intOf v8).toNat)
     case atStart => exact ⟨0, Nat.zero_le _, rfl, HK0', HK0', HB, ⟨World.grownBy.refl _ _⟩, ⟨.inl rfl⟩⟩
     case round =>
      obtain ⟨q, hq, rfl, HQ, HV, HBi, HG, HA7⟩ := hrel
      have hx0i : wr.cell? ⟨L, k, none⟩ = some (.slice Ak n ck) := by
       rw [HG.out.cell_far _ (World.block_lt_of_cell? _ _ hx0) (HX.out)]; exact hx0
      by_cases hlq : q < 64
      ·have hlq' : (q : Int) < 64 := by omega
       go_wp2_with fail
       refine (mark_calls (k : Int) ((n : Int) + (q : Int)) _ cq2 cq2 cq2 cq2).mono ?_
       rintro e w2 ⟨rfl, hb⟩
       have HQ2 := qA (pw_own_below HQ.out hb)
       have HV2 := qA (pw_own_below HV.out hb)
       have HB2 := qA (below_then HBi.out (Nat.le_trans hbase HBi.out.size) hb)
       have HG2 := qA (HG.out.trans (grown_of_below hb _))
       have hx2 := pw_cell_below hb hx0i
       clear hb
       have HCS : Aside0 (CI (k : Int) (n + q) ++ [.bool ((mkI (k : Int) ((n : Int) + (q : Int))).tmod 2 == 0)] = CI k (n + (q + 1))) := ⟨by
        rw [← Nat.add_assoc, CI_succ, Int.natCast_add]⟩
       go_wp2_with (first | ((with_reducible refine gate_builtin (b := .append) (xs := #[.tmp 59, .tmp 71]) rfl ?_); at_builtin; go_loud (refine O_append_keep (w0 := w) base rfl (.tmp 59) (.tmp 71) 33 4 (.bool false) 1 1 rfl Tryz.underlying33 info4 rfl cq6 cq2 u7 (n + q) (CI k (n + q)) 1 1 [.bool ((mkI (k : Int) ((n : Int) + (q : Int))).tmod 2 == 0)] ⟨w2.heap.size, 0, none⟩ ?aS ?aX rfl ?aC ?aN ?aO ?aB ?aZ ?aL ?_; (case aS => first | rfl | (simp [Act.eval]; done)); (case aX => first | rfl | (simp [Act.eval]; done)); (case aC => exact cells_lit1 _ _ _); (case aN => intro u hu; simp at hu; subst hu; rfl); (case aO => exact HQ2.out.alloc _); (case aB => exact HB2.out.alloc (Nat.le_trans hbase HB2.out.size) _); (case aZ => simp; have := HB2.out.size; omega); (case aL => omega); intro v72 w4 ho1 ho2 hb hg hat; have HN4 := qA ho1; have HQ4 := qA ho2; have HB4 := qA hb; have HG4 := qA hg; have HAT := qA hat; clear ho1 ho2 hb hg hat)))
       have HGA := HG2.out.trans (World.grownBy_alloc w2 (Obj.cells #[Value.bool ((mkI (k : Int) ((n : Int) + (q : Int))).tmod 2 == 0)] 4) _)
       have HVn : Aside0 (w4.ownsRow base 4 1 (.slice Ak n ck) n (CI k n)) := ⟨by
        rcases HA7.out with h | ⟨b, h, hge⟩
        ·exact own_under cq6 HV2.out HQ2.out h HQ4.out cq2 (by rw [Nat.mul_one]; exact CI_take _ _ _)
        ·exact own_grown (HV2.out.alloc _) HG4.out (disj_fresh HK0'.out h hge)⟩
       have HGn : Aside0 (W1.grownBy w4 (Value.slice Ak n ck).ownBlock) := ⟨HGA.andThen HG4.out (fun j hj => by
        rcases HA7.out with h | ⟨b, h, hge⟩
        ·exact .inr (by rw [← h]; exact hj)
        ·rw [hj] at h; injection h with h; subst h; exact .inl hge)⟩
       have HAn : Aside0 (v72.ownBlock = (Value.slice Ak n ck).ownBlock ∨ ∃ b, v72.ownBlock = some b ∧ W1.heap.size ≤ b) := ⟨by
        rcases HAT.out with h | h
        ·rw [h]; exact HA7.out
        ·exact .inr ⟨_, h, HGA.size⟩⟩
       have HNn : Aside0 (w4.ownsRow base 4 1 v72 (n + (q + 1)) (CI k (n + (q + 1)))) := ⟨by have := HN4.out; rw [HCS.out] at this; exact this⟩
       clear HGA HCS
       go_roundw
       case rel => exact ⟨q + 1, by omega, by go_num, HNn, HVn, HB4, HGn, HAn⟩
       case measure => simp [intOf]; omega
      ·obtain rfl : q = 64 := by omega
       obtain ⟨A7, c7, rfl⟩ := own_slice HQ.out
       have hGv := HG.out
       rw [← HVK.out] at hGv
       have h7 := HA7.out
       rw [← HVK.out] at h7
       have HGSi := own_grown HGS.out hGv (HVG.out k)
       have HC0 : ∃ z, wr.cell? ⟨G, k, none⟩ = some z := by
        have hl : k < gs.length := by rw [HGL.out]; exact hlt
        exact ⟨gs[k], by have := HGSi.cells (g := G) rfl k gs[k] (qE hl); rwa [add_plain] at this⟩
       obtain ⟨z0, hz0⟩ := HC0
       have hzf := HGSi.frozenAt k
       obtain ⟨hst, hgr⟩ := HGSi.stored k (.slice A7 (n + 64) c7)
       have HST := qA hst
       have HGR' := qA hgr
       have HGV := qA hGv
       have H7 := qA h7
       have HGSI := qA HGSi
       have HGB : Aside0 (base ≤ G) := ⟨(HGS.out.lt G rfl).1⟩
       clear hst hgr hGv h7 HGSi
       go_wp2
       have hkg : k < gs.length := by rw [HGL.out]; exact hlt
       have hset : ∀ j, at_ (gs.set k (.slice A7 (n + 64) c7)) j = if j = k then .slice A7 (n + 64) c7 else at_ gs j := fun j => by
        unfold at_
        rw [qD, qD, List.getElem?_set]
        by_cases e : j = k
        ·subst e; simp [hkg]
        ·rw [if_neg (fun h => e h.symm), if_neg e]
       have dV : ∀ i, i ≠ k → disj (at_ vs i) (.slice A7 (n + 64) c7) := fun i hi => by
        by_cases hl : i < vs.length
        ·exact disj_step H7.out (HR.out i hl) (HA.out i k hi)
        ·refine .inl ?_
         unfold at_
         rw [qD, List.getElem?_eq_none cq2]
         rfl
       have dG : ∀ j, j < k → disj (at_ gs j) (.slice A7 (n + 64) c7) := fun j hj => disj_step H7.out (HGR.out j hj) (HD1.out k j hj cq2).symm
       have dH : disj (.slice (some ⟨G, 0, none⟩) vs.length vs.length) (.slice A7 (n + 64) c7) := disj_step H7.out HGS.out (HVG.out k)
       have dL : disj (.slice (some ⟨L, 0, none⟩) vs.length c) (.slice A7 (n + 64) c7) := disj_step H7.out HO.out (HS.out k)
       have R1 : Aside0 (∀ j, j < k + 1 → (wr.setCell ⟨G, k, none⟩ (.slice A7 (n + 64) c7)).ownsRow base 4 1 (at_ (gs.set k (.slice A7 (n + 64) c7)) j) (ns.getD j 0 + 64) (CI j (ns.getD j 0 + 64))) := ⟨fun j hj => by
        rw [hset]
        by_cases e : j = k
        ·subst e
         rw [if_pos rfl, HNK.out]
         exact own_grown HQ.out (u := .slice (some ⟨G, 0, none⟩) vs.length vs.length) HGR'.out dH.symm
        ·rw [if_neg e]
         exact own_grown (own_grown (HGR.out j cq2) HGV.out (HD1.out k j cq2 cq2).symm) (u := .slice (some ⟨G, 0, none⟩) vs.length vs.length) HGR'.out (HD3.out j cq2).symm⟩
       have R2 : Aside0 (∀ i j, j < k + 1 → i ≠ j → disj (at_ vs i) (at_ (gs.set k (.slice A7 (n + 64) c7)) j)) := ⟨fun i j hj hij => by
        rw [hset]
        by_cases e : j = k
        ·subst e; rw [if_pos rfl]; exact dV i hij
        ·rw [if_neg e]; exact HD1.out i j cq2 hij⟩
       have R3 : Aside0 (∀ i j, i < k + 1 → j < k + 1 → i ≠ j → disj (at_ (gs.set k (.slice A7 (n + 64) c7)) i) (at_ (gs.set k (.slice A7 (n + 64) c7)) j)) := ⟨fun i j hi hj hij => by
        rw [hset, hset]
        by_cases e : j = k
        ·subst e; rw [if_pos rfl, if_neg hij]; exact dG i cq2
        ·by_cases e2 : i = k
         ·subst e2; rw [if_pos rfl, if_neg e]; exact (dG j cq2).symm
         ·rw [if_neg e, if_neg e2]; exact HD2.out i j cq2 cq2 hij⟩
       have R4 : Aside0 (∀ j, j < k + 1 → disj (.slice (some ⟨G, 0, none⟩) vs.length vs.length) (at_ (gs.set k (.slice A7 (n + 64) c7)) j)) := ⟨fun j hj => by
        rw [hset]
        by_cases e : j = k
        ·subst e; rw [if_pos rfl]; exact dH
        ·rw [if_neg e]; exact HD3.out j cq2⟩
       have R5 : Aside0 (∀ j, j < k + 1 → disj (.slice (some ⟨L, 0, none⟩) vs.length c) (at_ (gs.set k (.slice A7 (n + 64) c7)) j)) := ⟨fun j hj => by
        rw [hset]
        by_cases e : j = k
        ·subst e; rw [if_pos rfl]; exact dL
        ·rw [if_neg e]; exact HD4.out j cq2⟩
       have R6 := qA (own_grown (own_grown HO.out HGV.out (HS.out k)) (u := .slice (some ⟨G, 0, none⟩) vs.length vs.length) HGR'.out HLG.out)
       have R7 : Aside0 (RowsO (wr.setCell ⟨G, k, none⟩ (.slice A7 (n + 64) c7)) base 4 1 vs ns (fun j => CI j (ns.getD j 0))) := ⟨fun j hj => by
        by_cases e : j = k
        ·subst e
         have := HV.out
         rw [← HVK.out, ← HNK.out] at this
         exact own_grown this (u := .slice (some ⟨G, 0, none⟩) vs.length vs.length) HGR'.out (HVG.out j).symm
        ·exact own_grown (own_grown (HR.out j hj) HGV.out (HA.out j k e)) (u := .slice (some ⟨G, 0, none⟩) vs.length vs.length) HGR'.out (HVG.out j).symm⟩
       have R8 : Aside0 (Below base w (wr.setCell ⟨G, k, none⟩ (.slice A7 (n + 64) c7))) := ⟨HBi.out.setCell HGB.out _⟩
       have R9 : Aside0 (KQ w (wr.setCell ⟨G, k, none⟩ (.slice A7 (n + 64) c7)) vs) := ⟨(HKQ.out.step HB.out.size HGV.out (fun q e => .inr ⟨k, e⟩)).step HBi.out.size HGR'.out (fun q e => .inl cq50)⟩
       have R0 : Aside0 ((gs.set k (.slice A7 (n + 64) c7)).length = vs.length) := ⟨by rw [List.length_set]; exact HGL.out⟩
       clear hset dV dG dH dL
       go_roundw
       case rel => exact ⟨k + 1, _, by omega, by go_num, R0, R1, R2, R3, R4, R5, R6, HST, R7, R8, R9⟩
       case measure => simp [intOf]; omega
    ·obtain rfl : k = vs.length := by omega
     go_wp2
     obtain ⟨W2, hW2⟩ : ∃ x, x = wr := ⟨_, rfl⟩
     subst hW2
     go_loopw [2, 9] (fun v2 v9 wr => ∃ (k : Nat), k ≤ vs.length ∧ v2 = .bool false ∧ v9 = .int .i64 (k : Int) ∧ Aside0 (Below W2.heap.size W2 wr)) (fun _ v9 _ => vs.length - (intOf v9).toNat)
     case atStart => exact ⟨0, Nat.zero_le _, rfl, rfl, ⟨Below.refl _ _⟩⟩
     case round =>
      obtain ⟨k, hk, rfl, rfl, HB3⟩ := hrel
      by_cases hlt : k < vs.length
      ·obtain ⟨L, c', hLv, hLb, hLl⟩ := HO.out.form cq2
       injection hLv with e1 _ e2
       subst e1 e2
       have hx00 : W2.cell? ⟨L, k, none⟩ = some (at_ vs k) := by
        have := HO.out.cells (g := L) rfl k (at_ vs k) cq22
        rwa [add_plain] at this
       have hg00 : W2.cell? ⟨G, k, none⟩ = some (at_ gs k) := by
        have := HGS.out.cells (g := G) rfl k (at_ gs k) cq42
        rwa [add_plain] at this
       have hk0 := HR.out k hlt
       have hj0 := HGR.out k hlt
       obtain ⟨n, hnk⟩ : ∃ n, ns.getD k 0 = n := ⟨_, rfl⟩
       have hn64 := HN.out k
       simp only [hnk] at hk0 hj0 hn64
       clear hnk
       obtain ⟨Ak, ck, hvk⟩ := own_slice hk0
       obtain ⟨bg, cg, hvg, hgb, hgl⟩ := hj0.form cq2
       rw [hvk] at hx00 hk0
       rw [hvg] at hg00 hj0
       have HK0 := qA hk0
       have HJ0 := qA hj0
       clear hvk hvg hk0 hj0
       have hx01 := pw_cell_below HB3.out hx00
       have hg01 := pw_cell_below HB3.out hg00
       go_wp2
       go_loopw [2, 10] (fun v2 v10 wr => ∃ (j : Nat), j ≤ n + 64 ∧ v2 = .bool false ∧ v10 = .int .i64 (j : Int) ∧ Aside0 (Below W2.heap.size W2 wr)) (fun _ v10 _ => n + 64 - (intOf v10).toNat)
       case atStart => exact ⟨0, Nat.zero_le _, rfl, rfl, HB3⟩
       case round =>
        clear HB3 hx01 hg01
        obtain ⟨j, hj, rfl, rfl, HB⟩ := hrel
        have hx0 := pw_cell_below HB.out hx00
        have hg0 := pw_cell_below HB.out hg00
        by_cases hlj : j < n + 64
        ·have hlj' : (j : Int) < (n : Int) + 64 := by omega
         have hg1 : wr.cell? ⟨bg, j, none⟩ = some (.bool ((mkI (k : Int) (j : Int)).tmod 2 == 0)) := pw_cell_below HB.out (by
          have := HJ0.out.cells (g := bg) rfl j _ (CI_get _ hlj); rwa [add_plain] at this)
         go_wp2
         by_cases hjn : j < n
         ·obtain ⟨bv, ck', hbv, hbb, hbl⟩ := HK0.out.form cq2
          injection hbv with e1 _ e2
          subst e1 e2
          have hx1 : wr.cell? ⟨bv, j, none⟩ = some (.bool ((mkI (k : Int) (j : Int)).tmod 2 == 0)) := pw_cell_below HB.out (by
           have := HK0.out.cells (g := bv) rfl j _ (CI_get _ hjn); rwa [add_plain] at this)
          refine Rs.wp_region_stable [92, 93, 94, 95, 96, 97, 98, 99, 100, 101, 102, 103, 104, 105, 106, 107, 108, 109, 110, 111, 112, 113, 114, 115, 116, 117, 118, 119, 120, 121, 122, 123, 124, 125, 126, 127, 128, 129, 130] [.slice (some ⟨G, 0, none⟩) vs.length vs.length, .int .i64 ((k : Int)), .pointer (some (⟨G, k, none⟩)), .slice (some ⟨bg, 0, none⟩) (n + 64) cg, .int .i64 ((j : Int)), .pointer (some (⟨bg, j, none⟩)), .bool ((mkI (k : Int) (j : Int)).tmod 2 == 0), .int .i64 ((k : Int)), .int .i64 ((j : Int)), .int .i64 (mkI (k : Int) (j : Int)), .int .i64 ((mkI (k : Int) (j : Int)).tmod 2), .bool ((mkI (k : Int) (j : Int)).tmod 2 == 0), .bool true, .bool false, .bool false, .int .i64 ((j : Int)), .slice (some ⟨L, 0, none⟩) vs.length c, .int .i64 ((k : Int)), .pointer (some (⟨L, k, none⟩)), .slice (some ⟨bv, 0, none⟩) n ck, .int .i64 ((n : Int)), .bool true, .bool true, .slice (some ⟨L, 0, none⟩) vs.length c, .int .i64 ((k : Int)), .pointer (some (⟨L, k, none⟩)), .slice (some ⟨bv, 0, none⟩) n ck, .int .i64 ((j : Int)), .pointer (some (⟨bv, j, none⟩)), .bool ((mkI (k : Int) (j : Int)).tmod 2 == 0), .int .i64 ((k : Int)), .int .i64 ((j : Int)), .int .i64 (mkI (k : Int) (j : Int)), .int .i64 ((mkI (k : Int) (j : Int)).tmod 2), .bool ((mkI (k : Int) (j : Int)).tmod 2 == 0), .bool true, .bool false, .bool false, .bool false] (fun w' => Below wr.heap.size wr w') cq3 cq3 rfl (below_drew (Below.refl _ _)) ⟨?s0, ft6, ft0, ?s3, ft7, ft0, ?s6, ft6, ft7, ?s9, ft1, ft1, ft0, ft1, ft1, ft8, ft11, ft9, ft2, ft12, ft3, ft2, ft3, ft11, ft9, ft2, ft12, ft8, ft2, ?s29, ft9, ft8, ?s32, ft3, ft3, ft2, ft3, ft2, ft0, trivial⟩ ?_
          case s0 => exact fun a w' hG hd hf K hK => by have f0 := Rs.lf (hf 5 cq6) rfl; exact Rs.ok_val (Rs.want_none rfl) Rs.gs (hK w' hG)
          case s3 => exact fun a w' hG hd hf K hK => by have f0 := Rs.ld (hd 0 _ rfl rfl _ rfl) rfl; have z0 := pw_cell_below hG hg0; exact Rs.ok_val (Rs.want_none rfl) Rs.gs (hK w' hG)
          case s6 => exact fun a w' hG hd hf K hK => by have f0 := Rs.ld (hd 0 _ rfl rfl _ rfl) rfl; have z0 := pw_cell_below hG hg1; exact Rs.ok_val (Rs.want_none rfl) Rs.gs (hK w' hG)
          case s9 =>
           exact fun a w' hG hd hf K hK => by
            have e99 : a.tmps[99]? = some (.int .i64 ((k : Int))) := hd 0 _ rfl rfl _ rfl; have e100 : a.tmps[100]? = some (.int .i64 ((j : Int))) := hd 1 _ rfl rfl _ rfl
            exact goes_ Tryz.func24 cq3 rfl #[.int .i64 (k : Int), .int .i64 (j : Int)] (Rs.want_none rfl) rfl rfl (by simp [Act.eval, Array.getD_eq_getD_getElem?, e99, e100]) (((mark_calls (k : Int) (j : Int) w' cq2 cq2 cq2 cq2).mono cq7))
          case s29 => exact fun a w' hG hd hf K hK => by have f0 := Rs.ld (hd 0 _ rfl rfl _ rfl) rfl; have z0 := pw_cell_below hG hx1; exact Rs.ok_val ((Rs.want_on rfl rfl (hd 1 _ rfl rfl _ rfl)).trans rfl) Rs.gs (hK w' hG)
          case s32 =>
           exact fun a w' hG hd hf K hK => by
            have e122 : a.tmps[122]? = some (.int .i64 ((k : Int))) := hd 0 _ rfl rfl _ rfl; have e123 : a.tmps[123]? = some (.int .i64 ((j : Int))) := hd 1 _ rfl rfl _ rfl
            exact goes_ Tryz.func24 cq3 rfl #[.int .i64 (k : Int), .int .i64 (j : Int)] ((Rs.want_on (t := 114) (b' := true) rfl rfl (hd 2 _ rfl rfl _ rfl)).trans rfl) rfl rfl (by simp [Act.eval, Array.getD_eq_getD_getElem?, e122, e123]) (((mark_calls (k : Int) (j : Int) w' cq2 cq2 cq2 cq2).mono cq7))
          intro wz hz
          have hHeld := And.intro (below_then HB.out HB.out.size hz) trivial
          simp only [Rs.putL, Act.put, qS, qZ, qN]
          go_wp2
          go_roundw
          case rel => exact ⟨j + 1, by omega, rfl, by go_num, ⟨hHeld.1⟩⟩
          case measure => simp [intOf]; omega
         ·have hjn' : ¬ (j : Int) < (n : Int) := by omega
          refine Rs.wp_region_stable [92, 93, 94, 95, 96, 97, 98, 99, 100, 101, 102, 103, 104, 105, 106, 107, 108, 109, 110, 111, 112, 113, 114, 115, 116, 117, 118, 119, 120, 121, 122, 123, 124, 125, 126, 127, 128, 129, 130] [.slice (some ⟨G, 0, none⟩) vs.length vs.length, .int .i64 ((k : Int)), .pointer (some (⟨G, k, none⟩)), .slice (some ⟨bg, 0, none⟩) (n + 64) cg, .int .i64 ((j : Int)), .pointer (some (⟨bg, j, none⟩)), .bool ((mkI (k : Int) (j : Int)).tmod 2 == 0), .int .i64 ((k : Int)), .int .i64 ((j : Int)), .int .i64 (mkI (k : Int) (j : Int)), .int .i64 ((mkI (k : Int) (j : Int)).tmod 2), .bool ((mkI (k : Int) (j : Int)).tmod 2 == 0), .bool true, .bool false, .bool false, .int .i64 ((j : Int)), .slice (some ⟨L, 0, none⟩) vs.length c, .int .i64 ((k : Int)), .pointer (some (⟨L, k, none⟩)), .slice Ak n ck, .int .i64 ((n : Int)), .bool false, .bool false, undef, undef, undef, undef, undef, undef, undef, undef, undef, undef, undef, undef, undef, undef, .bool false, .bool false] (fun w' => Below wr.heap.size wr w') cq3 cq3 rfl (below_drew (Below.refl _ _)) ⟨?s0, ft6, ft0, ?s3, ft7, ft0, ?s6, ft6, ft7, ?s9, ft1, ft1, ft0, ft1, ft1, ft8, ft11, ft9, ft2, ft12, ft3, ft2, ft3, ft4, ft4, ft10, ft5, ft4, ft10, ft5, ft4, ft4, ft10, ft5, ft5, ft10, ft5, ft2, ft0, trivial⟩ ?_
          case s0 => exact fun a w' hG hd hf K hK => by have f0 := Rs.lf (hf 5 cq6) rfl; exact Rs.ok_val (Rs.want_none rfl) Rs.gs (hK w' hG)
          case s3 => exact fun a w' hG hd hf K hK => by have f0 := Rs.ld (hd 0 _ rfl rfl _ rfl) rfl; have z0 := pw_cell_below hG hg0; exact Rs.ok_val (Rs.want_none rfl) Rs.gs (hK w' hG)
          case s6 => exact fun a w' hG hd hf K hK => by have f0 := Rs.ld (hd 0 _ rfl rfl _ rfl) rfl; have z0 := pw_cell_below hG hg1; exact Rs.ok_val (Rs.want_none rfl) Rs.gs (hK w' hG)
          case s9 =>
           exact fun a w' hG hd hf K hK => by
            have e99 : a.tmps[99]? = some (.int .i64 ((k : Int))) := hd 0 _ rfl rfl _ rfl; have e100 : a.tmps[100]? = some (.int .i64 ((j : Int))) := hd 1 _ rfl rfl _ rfl
            exact goes_ Tryz.func24 cq3 rfl #[.int .i64 (k : Int), .int .i64 (j : Int)] (Rs.want_none rfl) rfl rfl (by simp [Act.eval, Array.getD_eq_getD_getElem?, e99, e100]) (((mark_calls (k : Int) (j : Int) w' cq2 cq2 cq2 cq2).mono cq7))
          intro wz hz
          have hHeld := And.intro (below_then HB.out HB.out.size hz) trivial
          simp only [Rs.putL, Act.put, qS, qZ, qN]
          go_wp2
          go_roundw
          case rel => exact ⟨j + 1, by omega, rfl, by go_num, ⟨hHeld.1⟩⟩
          case measure => simp [intOf]; omega
        ·obtain rfl : j = n + 64 := by omega
         go_wp2
         go_roundw
         case rel => exact ⟨k + 1, by omega, rfl, by go_num, HB⟩
         case measure => simp [intOf]; omega
      ·obtain rfl : k = vs.length := by omega
       have HO4 := qA (pw_own_below HO.out HB3.out)
       have HGS4 := qA (pw_own_below HGS.out HB3.out)
       have HR4 := qA (HR.out.below HB3.out)
       have HB4 := qA (below_then HB.out (Nat.le_trans hbase HB.out.size) HB3.out)
       have HKQ4 := qA (HKQ.out.below HB.out.size HB3.out)
       clear HO HGS HR HB HGR HD1 HD2 HD3 HD4 HB3 HKQ
       go_wp2
       go_loopw [11] (fun v11 wr => ∃ (k : Nat) (gs : List Value), k ≤ vs.length ∧ v11 = .int .i64 (k : Int) ∧ Aside0 (gs.length = vs.length)
        ∧ Aside0 (∀ j, j < k → wr.ownsRow base 4 1 (at_ gs j) (ns.getD j 0 + 64) (CI j (ns.getD j 0) ++ CI (j + vs.length : Nat) 64))
        ∧ Aside0 (∀ i j, j < k → i ≠ j → disj (at_ vs i) (at_ gs j))
        ∧ Aside0 (∀ j, j < k → disj (.slice (some ⟨G, 0, none⟩) vs.length vs.length) (at_ gs j)) ∧ Aside0 (∀ j, j < k → disj (.slice A vs.length c) (at_ gs j))
        ∧ Aside0 (wr.ownsRow base 33 1 (.slice A vs.length c) vs.length vs) ∧ Aside0 (wr.ownsRow base 33 1 (.slice (some ⟨G, 0, none⟩) vs.length vs.length) vs.length gs)
        ∧ Aside0 (RowsO wr base 4 1 vs ns (fun j => CI j (ns.getD j 0))) ∧ Aside0 (Below base w wr) ∧ Aside0 (KQ w wr vs)) (fun v11 _ => vs.length - (intOf v11).toNat)
       case atStart => exact ⟨0, gs, Nat.zero_le _, rfl, HGL, ⟨fun j hj => absurd hj cq2⟩, ⟨fun i j hj => absurd hj cq2⟩, ⟨fun j hj => absurd hj cq2⟩, ⟨fun j hj => absurd hj cq2⟩, HO4, HGS4, HR4, HB4, HKQ4⟩
       case round =>
        clear HO4 HGS4 HR4 HB4 HGL HKQ4
        obtain ⟨k, gs, hk, rfl, HGL, HGR, HD1, HD3, HD4, HO, HGS, HR, HB, HKQ⟩ := hrel
        by_cases hlt : k < vs.length
        ·obtain ⟨L, c', hLv, hLb, hLl⟩ := HO.out.form cq2
         injection hLv with e1 _ e2
         subst e1 e2
         have hx00 : wr.cell? ⟨L, k, none⟩ = some (at_ vs k) := by
          have := HO.out.cells (g := L) rfl k (at_ vs k) cq22
          rwa [add_plain] at this
         have hk0 := HR.out k hlt
         obtain ⟨n, hnk⟩ : ∃ n, ns.getD k 0 = n := ⟨_, rfl⟩
         have hn64 := HN.out k
         simp only [hnk] at hk0 hn64
         obtain ⟨Ak, ck, hvk⟩ := own_slice hk0
         rw [hvk] at hx00 hk0
         have HVK := qA hvk
         have HK0 := qA hk0
         have HNK := qA hnk
         clear hvk hk0 hnk
         have HVGk : Aside0 (disj (.slice (some ⟨G, 0, none⟩) vs.length vs.length) (.slice Ak n ck)) := ⟨by have := HVG.out k; rwa [HVK.out] at this⟩
         obtain ⟨i0, hi, hz0, hz1, hz2⟩ := info_parts info4
         obtain ⟨W0, hrun, hown, hg⟩ := run_make_full (P := Tryz.prog) wr base 33 4 i0 (.bool false) 1 Tryz.underlying33 hi hz0 hz1 .i64 .i64 64 cq49 cq35 (Nat.le_trans hbase HB.out.size)
         obtain ⟨M, hM⟩ : ∃ x, wr.heap.size = x := ⟨_, rfl⟩
         obtain ⟨W1, hW1⟩ : ∃ x, x = wr := ⟨_, rfl⟩
         have HBM : Aside0 (Below W1.heap.size W1 W0) := ⟨by rw [hW1]; exact (Below.refl wr.heap.size wr).grown hg (Nat.le_refl _) (fun k hk => by cases hk)⟩
         have HMW : Aside0 (M = W1.heap.size) := ⟨by rw [hW1, hM]⟩
         have HMN : Aside0 (W0.ownsRow base 4 1 (.slice (some ⟨M, 0, none⟩) 64 64) 64 (CI ((k : Int) + (vs.length : Int)) 0 ++ List.replicate 64 (Value.bool false))) := ⟨by
          rw [hM] at hown
          rw [show (madeCells (Value.bool false).cells (64 * 1)).toList = List.replicate 64 (Value.bool false) by rw [Nat.mul_one]; exact toList_madeCells_one _ _] at hown
          exact hown⟩
         rw [hM] at hrun
         have hrun' : (Instr.makeSlice 33 (.int .i64 64) (.int .i64 64)).run Tryz.prog wr = .ok (.slice (some ⟨M, 0, none⟩) 64 64) W0 := hrun
         rw [← hW1] at HO HGS HR HB HGR hx00 HK0 HKQ
         have HHM := qA hM
         clear hi hz0 hz1 hz2 hown hg hrun hM
         go_wp2
         clear hrun' hW1
         go_loopw [13] (fun v13 wi => ∃ i : Nat, i ≤ 64 ∧ v13 = .int .i64 (i : Int) ∧ Aside0 (wi.ownsRow base 4 1 (.slice (some ⟨M, 0, none⟩) 64 64) 64 (CI ((k : Int) + (vs.length : Int)) i ++ List.replicate (64 - i) (Value.bool false))) ∧ Aside0 (Below W1.heap.size W1 wi)) (fun v13 _ => 64 - (intOf v13).toNat)
         case atStart => exact ⟨0, Nat.zero_le _, rfl, HMN, HBM⟩
         case round =>
          clear HMN HBM
          obtain ⟨i, hi, rfl, HMN, HBM⟩ := hrel
          by_cases hli : i < 64
          ·have hli' : (i : Int) < 64 := by omega
           go_wp2_with fail
           refine (mark_calls ((k : Int) + (vs.length : Int)) (i : Int) _ cq2 cq2 cq2 cq2).mono ?_
           rintro e w2 ⟨rfl, hb⟩
           have HMN2 := qA (pw_own_below HMN.out hb)
           have HBM2 := qA (below_then HBM.out HBM.out.size hb)
           clear hb
           have hset : (CI ((k : Int) + (vs.length : Int)) i ++ List.replicate (64 - i) (Value.bool false)).set i (.bool ((mkI ((k : Int) + (vs.length : Int)) (i : Int)).tmod 2 == 0)) = CI ((k : Int) + (vs.length : Int)) (i + 1) ++ List.replicate (64 - (i + 1)) (Value.bool false) := by
            rw [List.set_append_right _ _ cq40, CI_len, Nat.sub_self, CI_succ, show 64 - i = 64 - (i + 1) + 1 by omega, List.replicate_succ]
            simp
           have hcl : w2.cell? ⟨M, i, none⟩ = some (.bool false) := by
            have := HMN2.out.cells (g := M) rfl i (.bool false) cq39
            rwa [add_plain] at this
           have hfr : w2.frozen? ⟨M, i, none⟩ = false := HMN2.out.frozenAt i
           obtain ⟨hst, hgr⟩ := HMN2.out.stored i (.bool ((mkI ((k : Int) + (vs.length : Int)) (i : Int)).tmod 2 == 0))
           rw [hset] at hst
           have HST := qA hst
           have HBN : Aside0 (Below W1.heap.size W1 (w2.setCell ⟨M, i, none⟩ (.bool ((mkI ((k : Int) + (vs.length : Int)) (i : Int)).tmod 2 == 0)))) := ⟨HBM2.out.setCell (by rw [HMW.out]; exact Nat.le_refl _) _⟩
           clear hst hgr hset
           go_wp2
           go_roundw
           case rel => exact ⟨i + 1, by omega, by go_num, HST, HBN⟩
           case measure => simp [intOf]; omega
          ·obtain rfl : i = 64 := by omega
           have HMN6 : Aside0 (wr.ownsRow base 4 1 (.slice (some ⟨M, 0, none⟩) 64 64) 64 (CI ((k : Int) + (vs.length : Int)) 64)) := ⟨by simpa using HMN.out⟩
           have hx0i := pw_cell_below HBM.out hx00
           have HBW := qA (below_then HB.out (Nat.le_trans hbase HB.out.size) HBM.out)
           have HOi := qA (pw_own_below HO.out HBM.out)
           have HGSi := qA (pw_own_below HGS.out HBM.out)
           have HKi := qA (pw_own_below HK0.out HBM.out)
           have hcells : ∀ (j : Nat) (u : Value), (CI ((k : Int) + (vs.length : Int)) 64)[j]? = some u → wr.cell? ((⟨M, 0, none⟩ : Addr).add j) = some u := fun j u h => HMN6.out.cells (g := M) rfl j u h
           have hone : ∀ u ∈ CI ((k : Int) + (vs.length : Int)) 64, u.oneCell' = true := by
            intro u hu
            unfold CI at hu
            obtain ⟨a, _, rfl⟩ := List.mem_map.1 hu
            rfl
           have HCE := qA hcells
           have HON := qA hone
           clear hcells hone
           go_wp2_with (first | ((with_reducible refine gate_builtin (b := .append) (xs := #[.tmp 158, .tmp 159]) rfl ?_); at_builtin; go_loud (refine O_append_keep (w0 := w) base rfl (.tmp 158) (.tmp 159) 33 4 (.bool false) 1 1 rfl Tryz.underlying33 info4 rfl cq6 cq2 (.slice Ak n ck) n (CI k n) 64 64 (CI ((k : Int) + (vs.length : Int)) 64) ⟨M, 0, none⟩ ?aS ?aX ?aLe ?aC ?aN ?aO ?aB ?aZ ?aL ?_; (case aS => first | rfl | (simp [Act.eval]; done)); (case aX => first | rfl | (simp [Act.eval]; done)); (case aLe => rw [CI_len]); (case aC => exact HCE.out); (case aN => exact HON.out); (case aO => exact HKi.out); (case aB => exact HBW.out); (case aZ => have := HBW.out.size; omega); (case aL => omega); intro v150 w4 ho1 ho2 hb hg hat; have HN4 := qA ho1; have HQ4 := qA ho2; have HB4 := qA hb; have HG4 := qA hg; have HAT := qA hat; clear ho1 ho2 hb hg hat; obtain ⟨A7, c7, rfl⟩ := own_slice HN4.out; have HGS4 := qA (own_grown HGSi.out HG4.out HVGk.out); obtain ⟨z0, hz0⟩ := row_cell HGS4.out k cq59; have hzf := HGS4.out.frozenAt k)))
           obtain ⟨hst, hgr⟩ := HGS4.out.stored k (.slice A7 (n + 64) c7)
           have HST := qA hst
           have HGR' := qA hgr
           have HGB : Aside0 (base ≤ G) := ⟨(HGS.out.lt G rfl).1⟩
           clear hst hgr
           have hkg : k < gs.length := by rw [HGL.out]; exact hlt
           have hset : ∀ j, at_ (gs.set k (.slice A7 (n + 64) c7)) j = if j = k then .slice A7 (n + 64) c7 else at_ gs j := fun j => by
            unfold at_
            rw [qD, qD, List.getElem?_set]
            by_cases e : j = k
            ·subst e; simp [hkg]
            ·rw [if_neg (fun h => e h.symm), if_neg e]
           have H7 : Aside0 ((Value.slice A7 (n + 64) c7).ownBlock = (Value.slice Ak n ck).ownBlock ∨ ∃ b, (Value.slice A7 (n + 64) c7).ownBlock = some b ∧ wr.heap.size ≤ b) := ⟨HAT.out.imp id (fun h => ⟨_, h, Nat.le_refl _⟩)⟩
           have hRi : ∀ i, i < vs.length → wr.ownsRow base 4 1 (at_ vs i) (ns.getD i 0) (CI i (ns.getD i 0)) := fun i hi => pw_own_below (HR.out i hi) HBM.out
           have dV : ∀ i, i ≠ k → disj (at_ vs i) (.slice A7 (n + 64) c7) := fun i hi => by
            by_cases hl : i < vs.length
            ·exact disj_step H7.out (hRi i hl) (by have := HA.out i k hi; rwa [HVK.out] at this)
            ·refine .inl ?_
             unfold at_
             rw [qD, List.getElem?_eq_none cq2]
             rfl
           have dH : disj (.slice (some ⟨G, 0, none⟩) vs.length vs.length) (.slice A7 (n + 64) c7) := disj_step H7.out HGSi.out HVGk.out
           have dL : disj (.slice (some ⟨L, 0, none⟩) vs.length c) (.slice A7 (n + 64) c7) := disj_step H7.out HOi.out cq56
           have R1 : Aside0 (∀ j, j < k + 1 → (w4.setCell ⟨G, k, none⟩ (.slice A7 (n + 64) c7)).ownsRow base 4 1 (at_ (gs.set k (.slice A7 (n + 64) c7)) j) (ns.getD j 0 + 64) (CI j (ns.getD j 0) ++ CI (j + vs.length : Nat) 64)) := ⟨fun j hj => by
            rw [hset]
            by_cases e : j = k
            ·subst e
             rw [if_pos rfl, HNK.out, Int.natCast_add]
             exact own_grown HN4.out (u := .slice (some ⟨G, 0, none⟩) vs.length vs.length) HGR'.out dH.symm
            ·rw [if_neg e]
             exact own_grown (own_grown (pw_own_below (HGR.out j cq2) HBM.out) HG4.out (by have := (HD1.out k j cq2 (fun e' => e e'.symm)).symm; rwa [HVK.out] at this)) (u := .slice (some ⟨G, 0, none⟩) vs.length vs.length) HGR'.out (HD3.out j cq2).symm⟩
           have R2 : Aside0 (∀ i j, j < k + 1 → i ≠ j → disj (at_ vs i) (at_ (gs.set k (.slice A7 (n + 64) c7)) j)) := ⟨fun i j hj hij => by
            rw [hset]
            by_cases e : j = k
            ·subst e; rw [if_pos rfl]; exact dV i hij
            ·rw [if_neg e]; exact HD1.out i j cq2 hij⟩
           have R4 : Aside0 (∀ j, j < k + 1 → disj (.slice (some ⟨G, 0, none⟩) vs.length vs.length) (at_ (gs.set k (.slice A7 (n + 64) c7)) j)) := ⟨fun j hj => by
            rw [hset]
            by_cases e : j = k
            ·subst e; rw [if_pos rfl]; exact dH
            ·rw [if_neg e]; exact HD3.out j cq2⟩
           have R5 : Aside0 (∀ j, j < k + 1 → disj (.slice (some ⟨L, 0, none⟩) vs.length c) (at_ (gs.set k (.slice A7 (n + 64) c7)) j)) := ⟨fun j hj => by
            rw [hset]
            by_cases e : j = k
            ·subst e; rw [if_pos rfl]; exact dL
            ·rw [if_neg e]; exact HD4.out j cq2⟩
           have R6 := qA (own_grown (own_grown HOi.out HG4.out cq56) (u := .slice (some ⟨G, 0, none⟩) vs.length vs.length) HGR'.out HLG.out)
           have R7 : Aside0 (RowsO (w4.setCell ⟨G, k, none⟩ (.slice A7 (n + 64) c7)) base 4 1 vs ns (fun j => CI j (ns.getD j 0))) := ⟨fun j hj => by
            by_cases e : j = k
            ·subst e
             have := HQ4.out
             rw [← HVK.out] at this
             show World.ownsRow _ base 4 1 _ _ (CI j (ns.getD j 0))
             rw [HNK.out]
             exact own_grown this (u := .slice (some ⟨G, 0, none⟩) vs.length vs.length) HGR'.out (HVG.out j).symm
            ·exact own_grown (own_grown (hRi j hj) HG4.out (by have := HA.out j k e; rwa [HVK.out] at this)) (u := .slice (some ⟨G, 0, none⟩) vs.length vs.length) HGR'.out (HVG.out j).symm⟩
           have R8 : Aside0 (Below base w (w4.setCell ⟨G, k, none⟩ (.slice A7 (n + 64) c7))) := ⟨HB4.out.setCell HGB.out _⟩
           have R9 : Aside0 (KQ w (w4.setCell ⟨G, k, none⟩ (.slice A7 (n + 64) c7)) vs) := ⟨((HKQ.out.below HB.out.size HBM.out).step HBW.out.size HG4.out (fun q e => .inr ⟨k, by rw [HVK.out]; exact e⟩)).step HB4.out.size HGR'.out (fun q e => .inl cq50)⟩
           have R0 : Aside0 ((gs.set k (.slice A7 (n + 64) c7)).length = vs.length) := ⟨by rw [List.length_set]; exact HGL.out⟩
           clear hset dV dH dL hRi
           go_roundw
           case rel => exact ⟨k + 1, _, by omega, by go_num, R0, R1, R2, R4, R5, R6, HST, R7, R8, R9⟩
           case measure => simp [intOf]; omega
        ·obtain rfl : k = vs.length := by omega
         go_wp2
         obtain ⟨W2, hW2⟩ : ∃ x, x = wr := ⟨_, rfl⟩
         subst hW2
         go_loopw [2, 14] (fun v2 v14 wr => ∃ (k : Nat), k ≤ vs.length ∧ v2 = .bool false ∧ v14 = .int .i64 (k : Int) ∧ Aside0 (Below W2.heap.size W2 wr)) (fun _ v14 _ => vs.length - (intOf v14).toNat)
         case atStart => exact ⟨0, Nat.zero_le _, rfl, rfl, ⟨Below.refl _ _⟩⟩
         case round =>
          obtain ⟨k, hk, rfl, rfl, HB3⟩ := hrel
          by_cases hlt : k < vs.length
          ·obtain ⟨L, c', hLv, hLb, hLl⟩ := HO.out.form cq2
           injection hLv with e1 _ e2
           subst e1 e2
           have hx00 : W2.cell? ⟨L, k, none⟩ = some (at_ vs k) := by
            have := HO.out.cells (g := L) rfl k (at_ vs k) cq22
            rwa [add_plain] at this
           have hg00 : W2.cell? ⟨G, k, none⟩ = some (at_ gs k) := by
            have := HGS.out.cells (g := G) rfl k (at_ gs k) cq42
            rwa [add_plain] at this
           have hk0 := HR.out k hlt
           have hj0 := HGR.out k hlt
           obtain ⟨n, hnk⟩ : ∃ n, ns.getD k 0 = n := ⟨_, rfl⟩
           have hn64 := HN.out k
           simp only [hnk] at hk0 hj0 hn64
           clear hnk
           obtain ⟨Ak, ck, hvk⟩ := own_slice hk0
           obtain ⟨bg, cg, hvg, hgb, hgl⟩ := hj0.form cq2
           rw [hvk] at hx00 hk0
           rw [hvg] at hg00 hj0
           have HK0 := qA hk0
           have HJ0 := qA hj0
           clear hvk hvg hk0 hj0
           have hx01 := pw_cell_below HB3.out hx00
           have hg01 := pw_cell_below HB3.out hg00
           go_wp2
           go_loopw [2, 15] (fun v2 v15 wr => ∃ (j : Nat), j ≤ n ∧ v2 = .bool false ∧ v15 = .int .i64 (j : Int) ∧ Aside0 (Below W2.heap.size W2 wr)) (fun _ v15 _ => n - (intOf v15).toNat)
           case atStart => exact ⟨0, Nat.zero_le _, rfl, rfl, HB3⟩
           case round =>
            clear HB3 hx01 hg01
            obtain ⟨j, hj, rfl, rfl, HB⟩ := hrel
            have hx0 := pw_cell_below HB.out hx00
            have hg0 := pw_cell_below HB.out hg00
            by_cases hlj : j < n
            ·have hlj' : (j : Int) < (n : Int) := by omega
             have hlj6 : (j : Int) < (n : Int) + 64 := by omega
             have hg1 : wr.cell? ⟨bg, j, none⟩ = some (.bool ((mkI (k : Int) (j : Int)).tmod 2 == 0)) := pw_cell_below HB.out (by
              have := HJ0.out.cells (g := bg) rfl j (.bool ((mkI (k : Int) (j : Int)).tmod 2 == 0)) (by rw [List.getElem?_append_left (by rw [CI_len]; exact hlj)]; exact CI_get _ hlj); rwa [add_plain] at this)
             obtain ⟨bv, ck', hbv, hbb, hbl⟩ := HK0.out.form cq2
             injection hbv with e1 _ e2
             subst e1 e2
             have hx1 : wr.cell? ⟨bv, j, none⟩ = some (.bool ((mkI (k : Int) (j : Int)).tmod 2 == 0)) := pw_cell_below HB.out (by
              have := HK0.out.cells (g := bv) rfl j _ (CI_get _ hlj); rwa [add_plain] at this)
             go_wp2
             refine Rs.wp_region_stable [177, 178, 179, 180, 181, 182, 183, 184, 185, 186, 187, 188, 189, 190, 191, 192, 193, 194, 195, 196, 197, 198, 199, 200, 201, 202, 203, 204, 205, 206] [.slice (some ⟨L, 0, none⟩) vs.length c, .int .i64 ((k : Int)), .pointer (some (⟨L, k, none⟩)), .slice (some ⟨bv, 0, none⟩) n ck, .int .i64 ((j : Int)), .pointer (some (⟨bv, j, none⟩)), .bool ((mkI (k : Int) (j : Int)).tmod 2 == 0), .int .i64 ((k : Int)), .int .i64 ((j : Int)), .int .i64 (mkI (k : Int) (j : Int)), .int .i64 ((mkI (k : Int) (j : Int)).tmod 2), .bool ((mkI (k : Int) (j : Int)).tmod 2 == 0), .bool true, .bool false, .bool false, .slice (some ⟨G, 0, none⟩) vs.length vs.length, .int .i64 ((k : Int)), .pointer (some (⟨G, k, none⟩)), .slice (some ⟨bg, 0, none⟩) (n + 64) cg, .int .i64 ((j : Int)), .pointer (some (⟨bg, j, none⟩)), .bool ((mkI (k : Int) (j : Int)).tmod 2 == 0), .int .i64 ((k : Int)), .int .i64 ((j : Int)), .int .i64 (mkI (k : Int) (j : Int)), .int .i64 ((mkI (k : Int) (j : Int)).tmod 2), .bool ((mkI (k : Int) (j : Int)).tmod 2 == 0), .bool true, .bool false, .bool false] (fun w' => Below wr.heap.size wr w') cq3 cq3 rfl (below_drew (Below.refl _ _)) ⟨?s0, ?s1, ft0, ?s3, ?s4, ft0, ?s6, ?s7, ?s8, ?s9, ft1, ft1, ft0, ft1, ft1, ?s15, ?s16, ft2, ?s18, ?s19, ft2, ?s21, ?s22, ?s23, ?s24, ft3, ft3, ft2, ft3, ft0, trivial⟩ ?_
             case s0 => exact fun a w' hG hd hf K hK => by have f0 := Rs.lf (hf 0 cq6) rfl; exact Rs.ok_val (Rs.want_none rfl) Rs.gs (hK w' hG)
             case s1 | s7 => exact fun a w' hG hd hf K hK => by have f0 := Rs.lf (hf 14 cq6) rfl; exact Rs.ok_val (Rs.want_none rfl) Rs.gs (hK w' hG)
             case s3 => exact fun a w' hG hd hf K hK => by have f0 := Rs.ld (hd 0 _ rfl rfl _ rfl) rfl; have z0 := pw_cell_below hG hx0; exact Rs.ok_val (Rs.want_none rfl) Rs.gs (hK w' hG)
             case s4 | s8 => exact fun a w' hG hd hf K hK => by have f0 := Rs.lf (hf 15 cq6) rfl; exact Rs.ok_val (Rs.want_none rfl) Rs.gs (hK w' hG)
             case s6 => exact fun a w' hG hd hf K hK => by have f0 := Rs.ld (hd 0 _ rfl rfl _ rfl) rfl; have z0 := pw_cell_below hG hx1; exact Rs.ok_val (Rs.want_none rfl) Rs.gs (hK w' hG)
             case s9 =>
              exact fun a w' hG hd hf K hK => by
               have e184 : a.tmps[184]? = some (.int .i64 ((k : Int))) := hd 0 _ rfl rfl _ rfl; have e185 : a.tmps[185]? = some (.int .i64 ((j : Int))) := hd 1 _ rfl rfl _ rfl
               exact goes_ Tryz.func24 cq3 rfl #[.int .i64 (k : Int), .int .i64 (j : Int)] (Rs.want_none rfl) rfl rfl (by simp [Act.eval, Array.getD_eq_getD_getElem?, e184, e185]) (((mark_calls (k : Int) (j : Int) w' cq2 cq2 cq2 cq2).mono cq7))
             case s15 => exact fun a w' hG hd hf K hK => by have f0 := Rs.lf (hf 5 cq6) rfl; exact Rs.ok_val ((Rs.want_on rfl rfl (hd 0 _ rfl rfl _ rfl)).trans rfl) Rs.gs (hK w' hG)
             case s16 | s22 => exact fun a w' hG hd hf K hK => by have f0 := Rs.lf (hf 14 cq6) rfl; exact Rs.ok_val ((Rs.want_on rfl rfl (hd 0 _ rfl rfl _ rfl)).trans rfl) Rs.gs (hK w' hG)
             case s18 => exact fun a w' hG hd hf K hK => by have f0 := Rs.ld (hd 0 _ rfl rfl _ rfl) rfl; have z0 := pw_cell_below hG hg0; exact Rs.ok_val ((Rs.want_on rfl rfl (hd 1 _ rfl rfl _ rfl)).trans rfl) Rs.gs (hK w' hG)
             case s19 | s23 => exact fun a w' hG hd hf K hK => by have f0 := Rs.lf (hf 15 cq6) rfl; exact Rs.ok_val ((Rs.want_on rfl rfl (hd 0 _ rfl rfl _ rfl)).trans rfl) Rs.gs (hK w' hG)
             case s21 => exact fun a w' hG hd hf K hK => by have f0 := Rs.ld (hd 0 _ rfl rfl _ rfl) rfl; have z0 := pw_cell_below hG hg1; exact Rs.ok_val ((Rs.want_on rfl rfl (hd 1 _ rfl rfl _ rfl)).trans rfl) Rs.gs (hK w' hG)
             case s24 =>
              exact fun a w' hG hd hf K hK => by
               have e199 : a.tmps[199]? = some (.int .i64 ((k : Int))) := hd 0 _ rfl rfl _ rfl; have e200 : a.tmps[200]? = some (.int .i64 ((j : Int))) := hd 1 _ rfl rfl _ rfl
               exact goes_ Tryz.func24 cq3 rfl #[.int .i64 (k : Int), .int .i64 (j : Int)] ((Rs.want_on (t := 191) (b' := false) rfl rfl (hd 2 _ rfl rfl _ rfl)).trans rfl) rfl rfl (by simp [Act.eval, Array.getD_eq_getD_getElem?, e199, e200]) (((mark_calls (k : Int) (j : Int) w' cq2 cq2 cq2 cq2).mono cq7))
             intro wz hz
             have hHeld := And.intro (below_then HB.out HB.out.size hz) trivial
             simp only [Rs.putL, Act.put, qS, qZ, qN]
             go_wp2
             go_roundw
             case rel => exact ⟨j + 1, by omega, rfl, by go_num, ⟨hHeld.1⟩⟩
             case measure => simp [intOf]; omega
            ·obtain rfl : j = n := by omega
             go_wp2
             go_roundw
             case rel => exact ⟨k + 1, by omega, rfl, by go_num, HB⟩
             case measure => simp [intOf]; omega
          ·obtain rfl : k = vs.length := by omega
           go_wp2
           go_ret
           exact ⟨rfl, below_then HB.out (Nat.le_trans hbase HB.out.size) HB3.out, HKQ.out.below HB.out.size HB3.out⟩
end Go.Proofs.YtligpleningglaaGreat.Mt
namespace Go.Proofs.YtligpleningglaaGreat.Mv
open Go Go.RowKit Go.Proofs.YtligpleningglaaGreatW.PrintWords Go.Proofs.YtligpleningglaaGreatW.PrintLast Go.Proofs.YtligpleningglaaGreatW.PrintMore Go.Proofs.YtligpleningglaaGreat.F Go.Proofs.YtligpleningglaaGreat.Lk Go.Proofs.YtligpleningglaaGreat.Keep
theorem info33k : (Tryz.prog.info? 33).map (fun i => (i.zero, i.size, i.bytes)) = some (some (.slice none 0 0), 1, 24) := by kernel_rfl
theorem putTruths_calls (base : Nat) (g : Nat) (A : Option Addr) (n c : Nat) (cur : Value) (vs : List Value) (m : Nat) (w : World) (hbase : base ≤ w.heap.size) (hm : m ≤ 1000)
    (hB : w.heap[g]? = some (.cells (bagC 6 cur) 111 (0, 0))) (ho : w.ownsRow base 33 1 cur m vs) (hg : cur.ownBlock ≠ some g) :
    Calls Tryz.prog 41 #[.pointer (some ⟨g, 0, none⟩), .slice A n c] w fun e w' => ∃ u : Value, e = .returned (.tuple #[]) ∧ w'.heap[g]? = some (.cells (bagC 6 u) 111 (0, 0)) ∧ w'.ownsRow base 33 1 u (m + 1) (vs ++ [.slice A n c]) ∧ u.ownBlock ≠ some g ∧
      (∀ q, q < w.heap.size → q ≠ g → cur.ownBlock ≠ some q → w'.heap[q]? = w.heap[q]?) ∧ (w'.os = w.os ∧ w'.tape = w.tape ∧ w'.output = w.output ∧ w.heap.size ≤ w'.heap.size) ∧ (u.ownBlock = cur.ownBlock ∨ ∃ b, u.ownBlock = some b ∧ w.heap.size ≤ b) := by
  obtain ⟨Ac, cc, rfl⟩ := own_slice ho
  have HO := qA ho
  have HB := qA hB
  have HG := qA hg
  have hc0 : w.cell? ⟨g, 6, none⟩ = some (.slice Ac m cc) := (blk_cell hB 6).trans (bagC_at cq6)
  have hlt := blk_lt hB
  clear ho hB hg
  go_enter Tryz.func41, Tryz.ntmps41
  go_wp2_with (first | ((with_reducible refine gate_builtin (b := .append) (xs := #[.tmp 8, .tmp 10]) rfl ?_); at_builtin; go_loud (refine O_append_keep (w0 := w) base rfl (.tmp 8) (.tmp 10) 42 33 (.slice none 0 0) 1 24 rfl Tryz.underlying42 info33k rfl cq6 cq2 (.slice Ac m cc) m vs 1 1 [.slice A n c] ⟨w.heap.size, 0, none⟩ ?aS ?aX rfl ?aC ?aN ?aO ?aB ?aZ ?aL ?_; (case aS => first | rfl | (simp [Act.eval]; done)); (case aX => first | rfl | (simp [Act.eval]; done)); (case aC => exact wl_lit1 _ _ _); (case aN => intro u hu; simp at hu; subst hu; rfl); (case aO => exact HO.out.alloc _); (case aB => exact (Below.refl _ _).alloc hbase _); (case aZ => simp; omega); (case aL => omega); intro v11 w4 ho1 ho2 hb hg hat; have HN4 := qA ho1; have HG4 := qA hg; have HAT := qA hat; clear ho1 ho2 hb hg hat; obtain ⟨A7, c7, rfl⟩ := own_slice HN4.out; have HB4 := qA (blk_grown (blk_alloc HB.out (Obj.cells #[Value.slice A n c] 33)) HG4.out (fun e => HG.out e.symm)); have hc4 : w4.cell? ⟨g, 6, none⟩ = some (.slice Ac m cc) := (blk_cell HB4.out 6).trans (bagC_at cq6); have hf4 := blk_frozen HB4.out 6; clear hc0)))
  have hgn : (Value.slice A7 (m + 1) c7).ownBlock ≠ some g := by
    intro e
    rcases HAT.out with h | h
    · exact HG.out (h.symm.trans e)
    · rw [h] at e; injection e with e; simp at e; omega
  refine bodyPost_end (v := .tuple #[]) (by simp [results, Tryz.results41, go_sem]) rfl ⟨_, rfl, ?_, own_grown HN4.out (u := .slice (some ⟨g, 0, none⟩) 0 0) (w1 := w4.setCell ⟨g, 6, none⟩ (.slice A7 (m + 1) c7)) (grown_setCell w4 g 6 _) (.inr hgn), hgn, ?_, ?_, ?_⟩
  · have := blk_put HB4.out 6 (.slice A7 (m + 1) c7) (bagC_set _ _ _)
    exact this
  · intro q hq hqg hqc
    have h1 : (w4.setCell ⟨g, 6, none⟩ (.slice A7 (m + 1) c7)).heap[q]? = w4.heap[q]? := Below.heap_setCell w4 ⟨g, 6, none⟩ _ q hqg
    rw [h1, HG4.out.block q cq52 (fun e => hqc e.symm)]
    exact Below.heap_alloc w _ q hq
  · refine ⟨HG4.out.os, HG4.out.tape, HG4.out.output, ?_⟩
    have := HG4.out.size
    simp at this ⊢
    omega
  · rcases HAT.out with h | h
    · exact .inl h
    · exact .inr ⟨_, h, by simp⟩
theorem bagTruths_calls (base : Nat) (g : Nat) (vls : Value) (vs : List Value) (ns : List Nat) (w : World) (hm : vs.length ≤ 480) (hn : ∀ j, ns.getD j 0 + 64 ≤ 17592186044416) (hbase : base ≤ w.heap.size)
    (hB : w.heap[g]? = some (.cells (bagC 6 vls) 111 (0, 0))) (ho : w.ownsRow base 33 1 vls vs.length vs) (hr : ∃ cs, RowsO w base 4 1 vs ns cs) (ha : Apart vs vs) (hs : ∀ j, disj vls (at_ vs j)) (hg : ∀ j, (at_ vs j).ownBlock ≠ some g) :
    Calls Tryz.prog 40 #[.pointer (some ⟨g, 0, none⟩)] w fun e w' => e = .returned (.bool true) ∧ Below base w w' ∧ KQ w w' vs := by
  obtain ⟨cs0, hr0⟩ := hr
  have HO := qA ho
  have HR := qA hr0
  have HA := qA ha
  have HN := qA hn
  have HS := qA hs
  have HG := qA hg
  have HB := qA hB
  obtain ⟨A, c, rfl⟩ := own_slice ho
  have HW := qA (Below.refl w.heap.size w)
  have hc : w.cell? ⟨g, 0, none⟩ = some (.slice none 0 0) := (blk_cell hB 0).trans (bagC_nil cq6 cq6)
  clear ho hr0 ha hn hs hg hB
  go_enter Tryz.func40, Tryz.ntmps40
  go_wp2_with fail
  refine (flat61_nil _).mono ?_
  rintro e w1 ⟨rfl, hb⟩
  have HB' := qA (blk_below HB.out hb)
  have HW' := qA (below_then HW.out HW.out.size hb)
  have HO' := qA (pw_own_below HO.out hb)
  have HR' := qA (HR.out.below hb)
  clear hb hc HB HW HO HR
  have HB := HB'
  have HW := HW'
  have HO := HO'
  have HR := HR'
  clear HB' HW' HO' HR'
  have hc : w1.cell? ⟨g, 1, none⟩ = some (.slice none 0 0) := (blk_cell HB.out 1).trans (bagC_nil cq6 cq6)
  go_wp2_with fail
  refine (flat62_nil _).mono ?_
  rintro e w2 ⟨rfl, hb⟩
  have HB' := qA (blk_below HB.out hb)
  have HW' := qA (below_then HW.out HW.out.size hb)
  have HO' := qA (pw_own_below HO.out hb)
  have HR' := qA (HR.out.below hb)
  clear hb hc HB HW HO HR
  have HB := HB'
  have HW := HW'
  have HO := HO'
  have HR := HR'
  clear HB' HW' HO' HR'
  have hc : w2.cell? ⟨g, 2, none⟩ = some (.slice none 0 0) := (blk_cell HB.out 2).trans (bagC_nil cq6 cq6)
  go_wp2_with fail
  refine (flat63_nil _).mono ?_
  rintro e w3 ⟨rfl, hb⟩
  have HB' := qA (blk_below HB.out hb)
  have HW' := qA (below_then HW.out HW.out.size hb)
  have HO' := qA (pw_own_below HO.out hb)
  have HR' := qA (HR.out.below hb)
  clear hb hc HB HW HO HR
  have HB := HB'
  have HW := HW'
  have HO := HO'
  have HR := HR'
  clear HB' HW' HO' HR'
  have hc : w3.cell? ⟨g, 3, none⟩ = some (.slice none 0 0) := (blk_cell HB.out 3).trans (bagC_nil cq6 cq6)
  go_wp2_with fail
  refine (flat64_nil _).mono ?_
  rintro e w4 ⟨rfl, hb⟩
  have HB' := qA (blk_below HB.out hb)
  have HW' := qA (below_then HW.out HW.out.size hb)
  have HO' := qA (pw_own_below HO.out hb)
  have HR' := qA (HR.out.below hb)
  clear hb hc HB HW HO HR
  have HB := HB'
  have HW := HW'
  have HO := HO'
  have HR := HR'
  clear HB' HW' HO' HR'
  have hc : w4.cell? ⟨g, 4, none⟩ = some (.slice none 0 0) := (blk_cell HB.out 4).trans (bagC_nil cq6 cq6)
  go_wp2_with fail
  refine (flat65_nil _).mono ?_
  rintro e w5 ⟨rfl, hb⟩
  have HB' := qA (blk_below HB.out hb)
  have HW' := qA (below_then HW.out HW.out.size hb)
  have HO' := qA (pw_own_below HO.out hb)
  have HR' := qA (HR.out.below hb)
  clear hb hc HB HW HO HR
  have HB := HB'
  have HW := HW'
  have HO := HO'
  have HR := HR'
  clear HB' HW' HO' HR'
  have hc : w5.cell? ⟨g, 5, none⟩ = some (.slice none 0 0) := (blk_cell HB.out 5).trans (bagC_nil cq6 cq6)
  go_wp2_with fail
  refine (flat66_nil _).mono ?_
  rintro e w6 ⟨rfl, hb⟩
  have HB' := qA (blk_below HB.out hb)
  have HW' := qA (below_then HW.out HW.out.size hb)
  have HO' := qA (pw_own_below HO.out hb)
  have HR' := qA (HR.out.below hb)
  clear hb hc HB HW HO HR
  have HB := HB'
  have HW := HW'
  have HO := HO'
  have HR := HR'
  clear HB' HW' HO' HR'
  have hc : w6.cell? ⟨g, 6, none⟩ = some (.slice A vs.length c) := (blk_cell HB.out 6).trans (bagC_at cq6)
  go_wp2_with fail
  refine (Mt.flatTruths_calls base (.slice A vs.length c) vs ns _ hm HN.out (Nat.le_trans hbase HW.out.size) HO.out ⟨cs0, HR.out⟩ HA.out HS.out).mono ?_
  rintro e w7 ⟨rfl, hb, hk⟩
  have HB' := qA ((hk g (blk_lt HB.out) HG.out).trans HB.out)
  have HX := qA ((HW.out.mono hbase).trans hb)
  have HK : Aside0 (KQ w w7 vs) := ⟨fun q hq hv => (hk q (Nat.lt_of_lt_of_le hq HW.out.size) hv).trans (HW.out.block q hq)⟩
  clear hb hk hc HO HR HN HA HS HW HB
  have HB := HB'
  clear HB'
  have hc : w7.cell? ⟨g, 7, none⟩ = some (.slice none 0 0) := (blk_cell HB.out 7).trans (bagC_nil cq6 cq6)
  go_wp2_with fail
  refine (flat68_nil _).mono ?_
  rintro e w8 ⟨rfl, hb⟩
  have HB' := qA (blk_below HB.out hb)
  have HX' := qA (below_then HX.out (Nat.le_trans hbase HX.out.size) hb)
  have HK' : Aside0 (KQ w w8 vs) := ⟨HK.out.below HX.out.size hb⟩
  clear hb hc HB HX HK
  have HB := HB'
  have HX := HX'
  have HK := HK'
  clear HB' HX' HK'
  have hc : w8.cell? ⟨g, 8, none⟩ = some (.slice none 0 0) := (blk_cell HB.out 8).trans (bagC_nil cq6 cq6)
  go_wp2_with fail
  refine (flat69_nil _).mono ?_
  rintro e w9 ⟨rfl, hb⟩
  have HB' := qA (blk_below HB.out hb)
  have HX' := qA (below_then HX.out (Nat.le_trans hbase HX.out.size) hb)
  have HK' : Aside0 (KQ w w9 vs) := ⟨HK.out.below HX.out.size hb⟩
  clear hb hc HB HX HK
  have HB := HB'
  have HX := HX'
  have HK := HK'
  clear HB' HX' HK'
  have hc : w9.cell? ⟨g, 9, none⟩ = some (.slice none 0 0) := (blk_cell HB.out 9).trans (bagC_nil cq6 cq6)
  go_wp2_with fail
  refine (flat70_nil _).mono ?_
  rintro e w10 ⟨rfl, hb⟩
  have HB' := qA (blk_below HB.out hb)
  have HX' := qA (below_then HX.out (Nat.le_trans hbase HX.out.size) hb)
  have HK' : Aside0 (KQ w w10 vs) := ⟨HK.out.below HX.out.size hb⟩
  clear hb hc HB HX HK
  have HB := HB'
  have HX := HX'
  have HK := HK'
  clear HB' HX' HK'
  have hc : w10.cell? ⟨g, 10, none⟩ = some (.slice none 0 0) := (blk_cell HB.out 10).trans (bagC_nil cq6 cq6)
  go_wp2_with fail
  refine (flat71_nil _).mono ?_
  rintro e w11 ⟨rfl, hb⟩
  have HB' := qA (blk_below HB.out hb)
  have HX' := qA (below_then HX.out (Nat.le_trans hbase HX.out.size) hb)
  have HK' : Aside0 (KQ w w11 vs) := ⟨HK.out.below HX.out.size hb⟩
  clear hb hc HB HX HK
  have HB := HB'
  have HX := HX'
  have HK := HK'
  clear HB' HX' HK'
  have hc : w11.cell? ⟨g, 11, none⟩ = some (.slice none 0 0) := (blk_cell HB.out 11).trans (bagC_nil cq6 cq6)
  go_wp2_with fail
  refine (flat72_nil _).mono ?_
  rintro e w12 ⟨rfl, hb⟩
  have HB' := qA (blk_below HB.out hb)
  have HX' := qA (below_then HX.out (Nat.le_trans hbase HX.out.size) hb)
  have HK' : Aside0 (KQ w w12 vs) := ⟨HK.out.below HX.out.size hb⟩
  clear hb hc HB HX HK
  have HB := HB'
  have HX := HX'
  have HK := HK'
  clear HB' HX' HK'
  have hc : w12.cell? ⟨g, 12, none⟩ = some (.slice none 0 0) := (blk_cell HB.out 12).trans (bagC_nil cq6 cq6)
  go_wp2_with fail
  refine (flat73_nil _).mono ?_
  rintro e w13 ⟨rfl, hb⟩
  have HB' := qA (blk_below HB.out hb)
  have HX' := qA (below_then HX.out (Nat.le_trans hbase HX.out.size) hb)
  have HK' : Aside0 (KQ w w13 vs) := ⟨HK.out.below HX.out.size hb⟩
  clear hb hc HB HX HK
  have HB := HB'
  have HX := HX'
  have HK := HK'
  clear HB' HX' HK'
  have hc : w13.cell? ⟨g, 13, none⟩ = some (.slice none 0 0) := (blk_cell HB.out 13).trans (bagC_nil cq6 cq6)
  go_wp2_with fail
  refine (flat74_nil _).mono ?_
  rintro e w14 ⟨rfl, hb⟩
  have HB' := qA (blk_below HB.out hb)
  have HX' := qA (below_then HX.out (Nat.le_trans hbase HX.out.size) hb)
  have HK' : Aside0 (KQ w w14 vs) := ⟨HK.out.below HX.out.size hb⟩
  clear hb hc HB HX HK
  have HB := HB'
  have HX := HX'
  have HK := HK'
  clear HB' HX' HK'
  have hc : w14.cell? ⟨g, 14, none⟩ = some (.slice none 0 0) := (blk_cell HB.out 14).trans (bagC_nil cq6 cq6)
  go_wp2_with fail
  refine (flat75_nil _).mono ?_
  rintro e w15 ⟨rfl, hb⟩
  have HB' := qA (blk_below HB.out hb)
  have HX' := qA (below_then HX.out (Nat.le_trans hbase HX.out.size) hb)
  have HK' : Aside0 (KQ w w15 vs) := ⟨HK.out.below HX.out.size hb⟩
  clear hb hc HB HX HK
  have HB := HB'
  have HX := HX'
  have HK := HK'
  clear HB' HX' HK'
  have hc : w15.cell? ⟨g, 15, none⟩ = some (.slice none 0 0) := (blk_cell HB.out 15).trans (bagC_nil cq6 cq6)
  go_wp2_with fail
  refine (flat76_nil _).mono ?_
  rintro e w16 ⟨rfl, hb⟩
  have HB' := qA (blk_below HB.out hb)
  have HX' := qA (below_then HX.out (Nat.le_trans hbase HX.out.size) hb)
  have HK' : Aside0 (KQ w w16 vs) := ⟨HK.out.below HX.out.size hb⟩
  clear hb hc HB HX HK
  have HB := HB'
  have HX := HX'
  have HK := HK'
  clear HB' HX' HK'
  have hc : w16.cell? ⟨g, 16, none⟩ = some (.slice none 0 0) := (blk_cell HB.out 16).trans (bagC_nil cq6 cq6)
  go_wp2_with fail
  refine (flat77_nil _).mono ?_
  rintro e w17 ⟨rfl, hb⟩
  have HB' := qA (blk_below HB.out hb)
  have HX' := qA (below_then HX.out (Nat.le_trans hbase HX.out.size) hb)
  have HK' : Aside0 (KQ w w17 vs) := ⟨HK.out.below HX.out.size hb⟩
  clear hb hc HB HX HK
  have HB := HB'
  have HX := HX'
  have HK := HK'
  clear HB' HX' HK'
  have hc : w17.cell? ⟨g, 17, none⟩ = some (.slice none 0 0) := (blk_cell HB.out 17).trans (bagC_nil cq6 cq6)
  go_wp2_with fail
  refine (flat78_nil _).mono ?_
  rintro e w18 ⟨rfl, hb⟩
  have HB' := qA (blk_below HB.out hb)
  have HX' := qA (below_then HX.out (Nat.le_trans hbase HX.out.size) hb)
  have HK' : Aside0 (KQ w w18 vs) := ⟨HK.out.below HX.out.size hb⟩
  clear hb hc HB HX HK
  have HB := HB'
  have HX := HX'
  have HK := HK'
  clear HB' HX' HK'
  have hc : w18.cell? ⟨g, 18, none⟩ = some (.slice none 0 0) := (blk_cell HB.out 18).trans (bagC_nil cq6 cq6)
  go_wp2_with fail
  refine (flat79_nil _).mono ?_
  rintro e w19 ⟨rfl, hb⟩
  have HB' := qA (blk_below HB.out hb)
  have HX' := qA (below_then HX.out (Nat.le_trans hbase HX.out.size) hb)
  have HK' : Aside0 (KQ w w19 vs) := ⟨HK.out.below HX.out.size hb⟩
  clear hb hc HB HX HK
  have HB := HB'
  have HX := HX'
  have HK := HK'
  clear HB' HX' HK'
  have hc : w19.cell? ⟨g, 19, none⟩ = some (.slice none 0 0) := (blk_cell HB.out 19).trans (bagC_nil cq6 cq6)
  go_wp2_with fail
  refine (flat80_nil _).mono ?_
  rintro e w20 ⟨rfl, hb⟩
  have HB' := qA (blk_below HB.out hb)
  have HX' := qA (below_then HX.out (Nat.le_trans hbase HX.out.size) hb)
  have HK' : Aside0 (KQ w w20 vs) := ⟨HK.out.below HX.out.size hb⟩
  clear hb hc HB HX HK
  have HB := HB'
  have HX := HX'
  have HK := HK'
  clear HB' HX' HK'
  have hc : w20.cell? ⟨g, 20, none⟩ = some (.slice none 0 0) := (blk_cell HB.out 20).trans (bagC_nil cq6 cq6)
  go_wp2_with fail
  refine (flat81_nil _).mono ?_
  rintro e w21 ⟨rfl, hb⟩
  have HB' := qA (blk_below HB.out hb)
  have HX' := qA (below_then HX.out (Nat.le_trans hbase HX.out.size) hb)
  have HK' : Aside0 (KQ w w21 vs) := ⟨HK.out.below HX.out.size hb⟩
  clear hb hc HB HX HK
  have HB := HB'
  have HX := HX'
  have HK := HK'
  clear HB' HX' HK'
  have hc : w21.cell? ⟨g, 21, none⟩ = some (.slice none 0 0) := (blk_cell HB.out 21).trans (bagC_nil cq6 cq6)
  go_wp2_with fail
  refine (flat82_nil _).mono ?_
  rintro e w22 ⟨rfl, hb⟩
  have HB' := qA (blk_below HB.out hb)
  have HX' := qA (below_then HX.out (Nat.le_trans hbase HX.out.size) hb)
  have HK' : Aside0 (KQ w w22 vs) := ⟨HK.out.below HX.out.size hb⟩
  clear hb hc HB HX HK
  have HB := HB'
  have HX := HX'
  have HK := HK'
  clear HB' HX' HK'
  have hc : w22.cell? ⟨g, 22, none⟩ = some (.slice none 0 0) := (blk_cell HB.out 22).trans (bagC_nil cq6 cq6)
  go_wp2_with fail
  refine (flat83_nil _).mono ?_
  rintro e w23 ⟨rfl, hb⟩
  have HB' := qA (blk_below HB.out hb)
  have HX' := qA (below_then HX.out (Nat.le_trans hbase HX.out.size) hb)
  have HK' : Aside0 (KQ w w23 vs) := ⟨HK.out.below HX.out.size hb⟩
  clear hb hc HB HX HK
  have HB := HB'
  have HX := HX'
  have HK := HK'
  clear HB' HX' HK'
  have hc : w23.cell? ⟨g, 23, none⟩ = some (.slice none 0 0) := (blk_cell HB.out 23).trans (bagC_nil cq6 cq6)
  go_wp2_with fail
  refine (flat84_nil _).mono ?_
  rintro e w24 ⟨rfl, hb⟩
  have HB' := qA (blk_below HB.out hb)
  have HX' := qA (below_then HX.out (Nat.le_trans hbase HX.out.size) hb)
  have HK' : Aside0 (KQ w w24 vs) := ⟨HK.out.below HX.out.size hb⟩
  clear hb hc HB HX HK
  have HB := HB'
  have HX := HX'
  have HK := HK'
  clear HB' HX' HK'
  have hc : w24.cell? ⟨g, 24, none⟩ = some (.slice none 0 0) := (blk_cell HB.out 24).trans (bagC_nil cq6 cq6)
  go_wp2_with fail
  refine (flat85_nil _).mono ?_
  rintro e w25 ⟨rfl, hb⟩
  have HB' := qA (blk_below HB.out hb)
  have HX' := qA (below_then HX.out (Nat.le_trans hbase HX.out.size) hb)
  have HK' : Aside0 (KQ w w25 vs) := ⟨HK.out.below HX.out.size hb⟩
  clear hb hc HB HX HK
  have HB := HB'
  have HX := HX'
  have HK := HK'
  clear HB' HX' HK'
  have hc : w25.cell? ⟨g, 25, none⟩ = some (.slice none 0 0) := (blk_cell HB.out 25).trans (bagC_nil cq6 cq6)
  go_wp2_with fail
  refine (flat86_nil _).mono ?_
  rintro e w26 ⟨rfl, hb⟩
  have HB' := qA (blk_below HB.out hb)
  have HX' := qA (below_then HX.out (Nat.le_trans hbase HX.out.size) hb)
  have HK' : Aside0 (KQ w w26 vs) := ⟨HK.out.below HX.out.size hb⟩
  clear hb hc HB HX HK
  have HB := HB'
  have HX := HX'
  have HK := HK'
  clear HB' HX' HK'
  have hc : w26.cell? ⟨g, 26, none⟩ = some (.slice none 0 0) := (blk_cell HB.out 26).trans (bagC_nil cq6 cq6)
  go_wp2_with fail
  refine (flat87_nil _).mono ?_
  rintro e w27 ⟨rfl, hb⟩
  have HB' := qA (blk_below HB.out hb)
  have HX' := qA (below_then HX.out (Nat.le_trans hbase HX.out.size) hb)
  have HK' : Aside0 (KQ w w27 vs) := ⟨HK.out.below HX.out.size hb⟩
  clear hb hc HB HX HK
  have HB := HB'
  have HX := HX'
  have HK := HK'
  clear HB' HX' HK'
  have hc : w27.cell? ⟨g, 27, none⟩ = some (.slice none 0 0) := (blk_cell HB.out 27).trans (bagC_nil cq6 cq6)
  go_wp2_with fail
  refine (flat88_nil _).mono ?_
  rintro e w28 ⟨rfl, hb⟩
  have HB' := qA (blk_below HB.out hb)
  have HX' := qA (below_then HX.out (Nat.le_trans hbase HX.out.size) hb)
  have HK' : Aside0 (KQ w w28 vs) := ⟨HK.out.below HX.out.size hb⟩
  clear hb hc HB HX HK
  have HB := HB'
  have HX := HX'
  have HK := HK'
  clear HB' HX' HK'
  go_wp2
  go_ret
  exact ⟨rfl, HX.out, HK.out⟩
theorem ApartTruths_calls (base : Nat) (A : Option Addr) (c : Nat) (vs : List Value) (ns : List Nat) (w : World) (hm : vs.length ≤ 480) (hn : ∀ j, ns.getD j 0 + 64 ≤ 17592186044416) (hbase : base ≤ w.heap.size)
    (ho : w.ownsRow base 33 1 (.slice A vs.length c) vs.length vs) (hr : ∃ cs, RowsO w base 4 1 vs ns cs) (ha : Apart vs vs) :
    Calls Tryz.prog 20 #[.slice A vs.length c] w fun e w' => e = .returned (.bool true) ∧ Below base w w' ∧ KQ w w' vs := by
  obtain ⟨cs0, hr0⟩ := hr
  have HO := qA ho
  have HR := qA hr0
  have HA := qA ha
  have HN := qA hn
  have HB1 : Aside0 ((w.alloc (.cells (bagC 6 (.slice none 0 0)) 111)).heap[w.heap.size]? = some (.cells (bagC 6 (.slice none 0 0)) 111 (0, 0))) := ⟨blk_new _ _⟩
  have HO1 : Aside0 ((w.alloc (.cells (bagC 6 (.slice none 0 0)) 111)).ownsRow base 33 1 (.slice none 0 0) 0 (vs.take 0)) := ⟨⟨rfl, .inl ⟨rfl, rfl⟩⟩⟩
  have HW1 : Aside0 (Below w.heap.size w (w.alloc (.cells (bagC 6 (.slice none 0 0)) 111))) := ⟨(Below.refl _ _).alloc (Nat.le_refl _) _⟩
  clear ho hr0 ha hn
  go_enter Tryz.func20, Tryz.ntmps20
  go_wp2
  go_loopw [4] (fun v4 wr => ∃ (k : Nat) (cur : Value), k ≤ vs.length ∧ v4 = .int .i64 (k : Int) ∧ Aside0 (wr.heap[w.heap.size]? = some (.cells (bagC 6 cur) 111 (0, 0))) ∧ Aside0 (wr.ownsRow base 33 1 cur k (vs.take k)) ∧ Aside0 (cur.ownBlock = none ∨ ∃ b, cur.ownBlock = some b ∧ w.heap.size ≤ b ∧ b ≠ w.heap.size) ∧ Aside0 (Below w.heap.size w wr)) (fun v4 _ => vs.length - (intOf v4).toNat)
  case atStart => exact ⟨0, .slice none 0 0, Nat.zero_le _, rfl, HB1, HO1, ⟨.inl rfl⟩, HW1⟩
  case round =>
    clear HB1 HO1 HW1
    obtain ⟨k, cur, hk, rfl, HB, HC, HD, HW⟩ := hrel
    by_cases hlt : k < vs.length
    · obtain ⟨L, c', hLv, hLb, hLl⟩ := HO.out.form cq2
      injection hLv with e1 _ e2
      subst e1 e2
      have hx0 : wr.cell? ⟨L, k, none⟩ = some (at_ vs k) := pw_cell_below HW.out (by
        have := HO.out.cells (g := L) rfl k (at_ vs k) cq22
        rwa [add_plain] at this)
      have hk0 := HR.out k hlt
      obtain ⟨Ak, ck, hvk⟩ := own_slice hk0
      obtain ⟨n, hnk⟩ : ∃ n, ns.getD k 0 = n := ⟨_, rfl⟩
      rw [hnk] at hvk
      rw [hvk] at hx0
      have HVK := qA hvk
      have HNE : Aside0 (cur.ownBlock ≠ some w.heap.size) := ⟨by
        rcases HD.out with h | ⟨b, h, _, h2⟩
        · rw [h]; simp
        · rw [h]; intro e; injection e with e; exact h2 e⟩
      clear hk0 hvk hnk
      go_wp2_with fail
      with_reducible refine (putTruths_calls base w.heap.size Ak n ck cur (vs.take k) k _ (Nat.le_trans hbase HW.out.size) cq2 HB.out HC.out HNE.out).mono ?_
      rintro e w2 ⟨u, rfl, h1, h2, h3, h4, h5, h6⟩
      have HB2 := qA h1
      have HC2 : Aside0 (w2.ownsRow base 33 1 u (k + 1) (vs.take (k + 1))) := ⟨by
        have e : vs.take (k + 1) = vs.take k ++ [.slice Ak n ck] := by
          rw [List.take_succ_eq_append_getElem hlt, ← HVK.out]
          unfold at_
          rw [qD, qE hlt]
          rfl
        rw [e]; exact h2⟩
      have HD2 : Aside0 (u.ownBlock = none ∨ ∃ b, u.ownBlock = some b ∧ w.heap.size ≤ b ∧ b ≠ w.heap.size) := ⟨by
        rcases h6 with h | ⟨b, h, hb⟩
        · rcases HD.out with h7 | ⟨b, h7, h8, h9⟩
          · exact .inl (h.trans h7)
          · exact .inr ⟨b, h.trans h7, h8, h9⟩
        · exact .inr ⟨b, h, Nat.le_trans HW.out.size hb, fun e => h3 (by rw [h, e])⟩⟩
      have HW2 : Aside0 (∀ q, q < w.heap.size → w2.heap[q]? = w.heap[q]?) := ⟨fun q hq => by
        rw [h4 q (Nat.lt_of_lt_of_le hq HW.out.size) cq2 (by
          rcases HD.out with h7 | ⟨b, h7, h8, h9⟩
          · rw [h7]; simp
          · rw [h7]; intro e; injection e with e; omega)]
        exact HW.out.block q hq⟩
      have HWB : Aside0 (Below w.heap.size w w2) := ⟨⟨h5.1.trans HW.out.os, h5.2.1.trans HW.out.tape, h5.2.2.1.trans HW.out.output, Nat.le_trans HW.out.size h5.2.2.2, HW2.out⟩⟩
      clear h1 h2 h3 h4 h5 h6 hx0
      go_wp2
      go_roundw
      case rel => exact ⟨k + 1, u, by omega, by go_num, HB2, HC2, HD2, HWB⟩
      case measure => simp [intOf]; omega
    · obtain rfl : k = vs.length := by omega
      have HRW := qA (HR.out.below HW.out)
      have HCW : Aside0 (wr.ownsRow base 33 1 cur vs.length vs) := ⟨by have := HC.out; rwa [List.take_length] at this⟩
      have HDJ : Aside0 (∀ j, disj cur (at_ vs j)) := ⟨fun j => by
        rcases HD.out with h | ⟨b, h, hb, _⟩
        · exact .inl h
        · by_cases hj : j < vs.length
          · exact (disj_fresh (HR.out j hj) h hb).symm
          · refine disj.symm (.inl ?_)
            unfold at_
            rw [qD, List.getElem?_eq_none cq2]
            rfl⟩
      have HGJ : Aside0 (∀ j, (at_ vs j).ownBlock ≠ some w.heap.size) := ⟨fun j e => by
        by_cases hj : j < vs.length
        · have := ((HR.out j hj).lt w.heap.size e).2
          omega
        · unfold at_ at e
          rw [qD, List.getElem?_eq_none cq2] at e
          cases e⟩
      go_wp2_with fail
      with_reducible refine (bagTruths_calls base w.heap.size cur vs ns _ hm HN.out (Nat.le_trans hbase HW.out.size) HB.out HCW.out ⟨cs0, HRW.out⟩ HA.out HDJ.out HGJ.out).mono ?_
      rintro e w3 ⟨rfl, hb, hk⟩
      have HX := qA ((HW.out.mono hbase).trans hb)
      have HK : Aside0 (KQ w w3 vs) := ⟨fun q hq hv => (hk q (Nat.lt_of_lt_of_le hq HW.out.size) hv).trans (HW.out.block q hq)⟩
      clear hb hk
      go_wp2
      go_ret
      exact ⟨rfl, HX.out, HK.out⟩
end Go.Proofs.YtligpleningglaaGreat.Mv
namespace Go.Proofs.YtligpleningglaaGreat.F
open Go.RowKit Go.Proofs.YtligpleningglaaGreatW.PrintWords Go.Proofs.YtligpleningglaaGreatW.PrintLast Go.Proofs.YtligpleningglaaGreatW.PrintMore
attribute [local go_sem] min2_int min_two
def smithykit_markIns.f (a0 : Int) (a1 : Int) : Option (Int × Int × Int × List Int × Int × Int) := (smithykit_mark.f a0 a1).bind fun t299 => (some (0, 0, t299, ([] : List Int), 0, 0))
end Go.Proofs.YtligpleningglaaGreat.F
namespace Go.Proofs.YtligpleningglaaGreat.F
open Go.RowKit Go.Proofs.YtligpleningglaaGreatW.PrintWords Go.Proofs.YtligpleningglaaGreatW.PrintLast Go.Proofs.YtligpleningglaaGreatW.PrintMore
attribute [local go_sem] min2_int min_two
def smithykit_markBlock.f (a0 : Int) (a1 : Int) : Option ((List (S75)) × Int × Int × Int × Int × Int) := (smithykit_mark.f a0 a1).bind fun t305 => (some (([] : List (S75)), 0, t305, 0, 0, 0))
end Go.Proofs.YtligpleningglaaGreat.F
namespace Go.Proofs.YtligpleningglaaGreat.F
open Go.RowKit Go.Proofs.YtligpleningglaaGreatW.PrintWords Go.Proofs.YtligpleningglaaGreatW.PrintLast Go.Proofs.YtligpleningglaaGreatW.PrintMore
attribute [local go_sem] min2_int min_two
def smithykit_markText.f (a0 : Int) (a1 : Int) : Option (ByteArray) := some (strOfNums (([35, (a0) % 256, (a0 / 256) % 256, (a0 / 65536) % 256, 47, (a1) % 256, (a1 / 256) % 256, (a1 / 65536) % 256] : List Int)))
theorem smithykit_markText.calls (a0 : Int) (a1 : Int) (r : ByteArray) (w : World) (h : smithykit_markText.f a0 a1 = some r) :
    Calls Tryz.prog 45 #[.int .i64 a0, .int .i64 a1] w fun e w' => e = .returned (.string r) ∧ Below w.heap.size w w' := by
 have HB := qA (Below.refl w.heap.size w)
 have H : (some (strOfNums (([35, (a0) % 256, (a0 / 256) % 256, (a0 / 65536) % 256, 47, (a1) % 256, (a1 / 256) % 256, (a1 / 65536) % 256] : List Int)))) = some r := h
 clear h
 obtain ⟨y308, hy308⟩ : ∃ y_ : List Int, y_ = (([35, (a0) % 256, (a0 / 256) % 256, (a0 / 65536) % 256, 47, (a1) % 256, (a1 / 256) % 256, (a1 / 65536) % 256] : List Int)) := ⟨_, rfl⟩
 replace H : (some (strOfNums y308)) = some r := by first | (rw [hy308]; with_reducible exact H) | (have H2_ := (Option.bind_some _ _).symm.trans H; rw [hy308]; with_reducible exact H2_) | (have H2_ := (Option.bind_some _ _).symm.trans H; with_reducible exact H2_) | with_reducible exact H | (rw [hy308]; exact H) | exact H
 have Ny308 := qA hy308
 clear hy308
 obtain rfl := Option.some.inj H
 go_enter Tryz.func45, Tryz.ntmps45
 go_wp2_with (first | ((with_reducible refine gate_dst (N := 21) rfl ?_); refine Kd.R_lit (Kd.int .u8) _ 5 ?hg (N := 21) ?hd (xs := ([35, (a0) % 256, (a0 / 256) % 256, (a0 / 65536) % 256, 47, (a1) % 256, (a1 / 256) % 256, (a1 / 65536) % 256] : List Int)) (inner := [.int .u8 35, .int .u8 ((a0) % 256), .int .u8 ((a0 / 256) % 256), .int .u8 ((a0 / 65536) % 256), .int .u8 47, .int .u8 ((a1) % 256), .int .u8 ((a1 / 256) % 256), .int .u8 ((a1 / 65536) % 256)]) (ok := fun _ => True) (okp := fun _ => True) ?hr ?hp (fun _ hk => hk) trivial (Below.refl _ _) (Nat.le_refl _) cq23 ?_; (case hd => rfl); (case hg => rfl); (case hr => first | (go_simp; done) | (go_simp; rfl)); (case hp => exact (Reps.one (show Kd.M (Kd.int .u8) _ _ _ 35 [.int .u8 35] from rfl) (Reps.one (show Kd.M (Kd.int .u8) _ _ _ ((a0) % 256) [.int .u8 ((a0) % 256)] from rfl) (Reps.one (show Kd.M (Kd.int .u8) _ _ _ ((a0 / 256) % 256) [.int .u8 ((a0 / 256) % 256)] from rfl) (Reps.one (show Kd.M (Kd.int .u8) _ _ _ ((a0 / 65536) % 256) [.int .u8 ((a0 / 65536) % 256)] from rfl) (Reps.one (show Kd.M (Kd.int .u8) _ _ _ 47 [.int .u8 47] from rfl) (Reps.one (show Kd.M (Kd.int .u8) _ _ _ ((a1) % 256) [.int .u8 ((a1) % 256)] from rfl) (Reps.one (show Kd.M (Kd.int .u8) _ _ _ ((a1 / 256) % 256) [.int .u8 ((a1 / 256) % 256)] from rfl) (Reps.one (show Kd.M (Kd.int .u8) _ _ _ ((a1 / 65536) % 256) [.int .u8 ((a1 / 65536) % 256)] from rfl) (Reps.none _ _)))))))))); intro v309 w3 ho4 hb hg_ hnew_; clear hg_ hnew_; (first | rw [← Ny308.out] at ho4 | (simp only [Int.reduceToNat] at ho4; rw [← Ny308.out] at ho4)); have n0_ := qA (Kd.R_lower ho4 (below_size cq1)); have n1_ := qA (below_step cq1 hb); clear HB; have HO310 := n0_; have HB := n1_; clear n0_ n1_; clear hb ho4; have hcv5 := own_string (P := Tryz.prog) Tryz.underlying160 Tryz.underlying5 Tryz.underlying9 (Kd.own_of_R HO310.out)))
 go_ret
 exact ⟨by first | rfl | (simp <;> rfl) | (simp [*] <;> rfl), by repeat (first | (with_reducible first | exact HB.out | apply below_alloc | apply pw_below_drewN | apply below_drew1) | exact HB.out)⟩
end Go.Proofs.YtligpleningglaaGreat.F
namespace Go.Proofs.YtligpleningglaaGreat.F
open Go.RowKit Go.Proofs.YtligpleningglaaGreatW.PrintWords Go.Proofs.YtligpleningglaaGreatW.PrintLast Go.Proofs.YtligpleningglaaGreatW.PrintMore
attribute [local go_sem] min2_int min_two
def smithykit_markGraph.f (a0 : Int) (a1 : Int) : Option (ByteArray × List Int × Int × List Int × (List (S155)) × (List (S58))) := (smithykit_markText.f a0 a1).bind fun t312 => (some (t312, ([] : List Int), 0, ([] : List Int), ([] : List (S155)), ([] : List (S58))))
end Go.Proofs.YtligpleningglaaGreat.F
namespace Go.Proofs.YtligpleningglaaGreat.F
open Go.RowKit Go.Proofs.YtligpleningglaaGreatW.PrintWords Go.Proofs.YtligpleningglaaGreatW.PrintLast Go.Proofs.YtligpleningglaaGreatW.PrintMore
attribute [local go_sem] min2_int min_two
theorem markIns_nil (a0 : Int) (a1 : Int) (r1 : Int) (r2 : Int) (r3 : Int) (r4 : List Int) (r5 : Int) (r6 : Int) (w : World) (h : smithykit_markIns.f a0 a1 = some (r1, r2, r3, r4, r5, r6)) :
    Calls Tryz.prog 110 #[.int .i64 a0, .int .i64 a1] w fun e w' => e = .returned (.agg #[.int .u8 r1, .int .u8 r2, .int .i64 r3, .slice none 0 0, .int .u64 r5, .int .i64 r6]) ∧ Below w.heap.size w w'  := by
 have hu75 := Tryz.underlying75
 have HB := qA (Below.refl w.heap.size w)
 have H : ((smithykit_mark.f a0 a1).bind fun t299 => (some (0, 0, t299, ([] : List Int), 0, 0))) = some (r1, r2, r3, r4, r5, r6) := h
 clear h
 replace H := Option.bind_eq_some_iff.mp H
 obtain ⟨t299, A30, H⟩ := H
 replace H : (some (0, 0, t299, ([] : List Int), 0, 0)) = some (r1, r2, r3, r4, r5, r6) := H
 have A3 := qA A30
 clear A30
 simp only [Option.some.injEq, Prod.mk.injEq] at H
 obtain ⟨rfl, rfl, rfl, rfl, rfl, rfl⟩ := H
 go_enter Tryz.func110, Tryz.ntmps110
 go_wp2_with (first | ((with_reducible refine gate_dst (N := 4) rfl ?_); refine box_event ?hg (N := 4) ?hd (cs := #[.int .u8 0, .int .u8 0, .int .i64 0, .slice none 0 0, .int .u64 0, .int .i64 0]) (t := 75) ?hr ?_; (case hd => rfl); (case hg => rfl); (case hr => first | (go_simp; done) | (go_simp; rfl)); intro gb298 hg w4 hbox hb; have n0_ := qA (below_step cq1 hb); have n1_ := qA (hbox); have n2_ := qA ((by rw [hg]; exact (below_size cq1) : w.heap.size ≤ gb298)); have n3_ := qA ((by rw [hg]; exact (below_size cq1) : w.heap.size ≤ gb298)); clear HB; have HB := n0_; have BK298 := n1_; have GW298 := n2_; have GE298 := n3_; clear n0_ n1_ n2_ n3_; clear hb hbox hg) | ((with_reducible refine gate_callee (f := 24) rfl ?_); refine goesL_ (some 7) rfl rfl Tryz.func24 cq3 rfl #[.int .i64 a0, .int .i64 a1] rfl cq11 ?_; (with_reducible refine (smithykit_mark.calls a0 a1 t299 _ A3.out).mono ?_); rintro e w' ⟨rfl, ⟨nd, rfl⟩⟩; refine ⟨_, rfl, ?_⟩; (try (rw [drewN_self w4]; generalize hq_ : World.drewN w4 _ = w4; have n0_ : Aside0 (w4.heap[gb298]? = some (.cells #[.int .u8 0, .int .u8 0, .int .i64 0, .slice none 0 0, .int .u64 0, .int .i64 0] 75 (0, 0))) := ⟨by rw [← hq_]; exact (by (with_reducible repeat (first | refine blk_drewN ?_ _ | refine blk_drew ?_ | refine blk_alloc ?_ _)); exact BK298.out)⟩; have n1_ : Aside0 (Below w.heap.size w w4) := ⟨by rw [← hq_]; exact (by repeat (first | (with_reducible first | exact HB.out | apply below_alloc | apply pw_below_drewN | apply below_drew1 | refine below_set ?_ GE298.out) | exact HB.out))⟩; clear BK298 HB hq_; have BK298 := n0_; have HB := n1_; clear n0_ n1_)); have hcz5_0 : w4.cell? ⟨gb298, 0, none⟩ = some (.int .u8 0) := (blk_cell BK298.out 0).trans rfl; have hcz5_1 : w4.cell? ⟨gb298, 1, none⟩ = some (.int .u8 0) := (blk_cell BK298.out 1).trans rfl; have hcz5_2 : w4.cell? ⟨gb298, 2, none⟩ = some (.int .i64 0) := (blk_cell BK298.out 2).trans rfl; have hcz5_3 : w4.cell? ⟨gb298, 3, none⟩ = some (.slice none 0 0) := (blk_cell BK298.out 3).trans rfl; have hcz5_4 : w4.cell? ⟨gb298, 4, none⟩ = some (.int .u64 0) := (blk_cell BK298.out 4).trans rfl; have hcz5_5 : w4.cell? ⟨gb298, 5, none⟩ = some (.int .i64 0) := (blk_cell BK298.out 5).trans rfl; have hfz5_0 := blk_frozen BK298.out 0; have hfz5_1 := blk_frozen BK298.out 1; have hfz5_2 := blk_frozen BK298.out 2; have hfz5_3 := blk_frozen BK298.out 3; have hfz5_4 := blk_frozen BK298.out 4; have hfz5_5 := blk_frozen BK298.out 5))
 refine bodyPost_ret (results_cell_row rfl _ _ gb298 75 #[.int .u8 0, .int .u8 0, .int .i64 t299, .slice none 0 0, .int .u64 0, .int .i64 0] (0, 0) _ rfl (by (with_reducible repeat (first | refine blk_drewN ?_ _ | refine blk_drew ?_ | refine blk_alloc ?_ _)); refine blk_put (cs := #[.int .u8 0, .int .u8 0, .int .i64 t299, .slice none 0 0, .int .u64 0, .int .i64 0]) ?_ 5 _ rfl; (with_reducible repeat (first | refine blk_drewN ?_ _ | refine blk_drew ?_ | refine blk_alloc ?_ _)); refine blk_put (cs := #[.int .u8 0, .int .u8 0, .int .i64 t299, .slice none 0 0, .int .u64 0, .int .i64 0]) ?_ 4 _ rfl; (with_reducible repeat (first | refine blk_drewN ?_ _ | refine blk_drew ?_ | refine blk_alloc ?_ _)); refine blk_put (cs := #[.int .u8 0, .int .u8 0, .int .i64 t299, .slice none 0 0, .int .u64 0, .int .i64 0]) ?_ 3 _ rfl; (with_reducible repeat (first | refine blk_drewN ?_ _ | refine blk_drew ?_ | refine blk_alloc ?_ _)); refine blk_put (cs := #[.int .u8 0, .int .u8 0, .int .i64 0, .slice none 0 0, .int .u64 0, .int .i64 0]) ?_ 2 _ rfl; (with_reducible repeat (first | refine blk_drewN ?_ _ | refine blk_drew ?_ | refine blk_alloc ?_ _)); refine blk_put (cs := #[.int .u8 0, .int .u8 0, .int .i64 0, .slice none 0 0, .int .u64 0, .int .i64 0]) ?_ 1 _ rfl; (with_reducible repeat (first | refine blk_drewN ?_ _ | refine blk_drew ?_ | refine blk_alloc ?_ _)); refine blk_put (cs := #[.int .u8 0, .int .u8 0, .int .i64 0, .slice none 0 0, .int .u64 0, .int .i64 0]) ?_ 0 _ rfl; (with_reducible repeat (first | refine blk_drewN ?_ _ | refine blk_drew ?_ | refine blk_alloc ?_ _)); exact BK298.out) Tryz.underlying75 rfl cq3) rfl ?_
 exact ⟨by first | rfl | (simp <;> rfl) | (simp [*] <;> rfl), by repeat (first | (with_reducible first | exact HB.out | apply below_alloc | apply pw_below_drewN | apply below_drew1 | refine below_set ?_ GE298.out) | exact HB.out)⟩
theorem markBlock_nil (a0 : Int) (a1 : Int) (r1 : List (S75)) (r2 : Int) (r3 : Int) (r4 : Int) (r5 : Int) (r6 : Int) (w : World) (h : smithykit_markBlock.f a0 a1 = some (r1, r2, r3, r4, r5, r6)) :
    Calls Tryz.prog 91 #[.int .i64 a0, .int .i64 a1] w fun e w' => e = .returned (.agg #[.slice none 0 0, .int .u8 r2, .int .i64 r3, .int .i64 r4, .int .i64 r5, .int .u8 r6]) ∧ Below w.heap.size w w'  := by
 have hu58 := Tryz.underlying58
 have hu56 := Tryz.underlying56
 have HB := qA (Below.refl w.heap.size w)
 have H : ((smithykit_mark.f a0 a1).bind fun t305 => (some (([] : List (S75)), 0, t305, 0, 0, 0))) = some (r1, r2, r3, r4, r5, r6) := h
 clear h
 replace H := Option.bind_eq_some_iff.mp H
 obtain ⟨t305, A30, H⟩ := H
 replace H : (some (([] : List (S75)), 0, t305, 0, 0, 0)) = some (r1, r2, r3, r4, r5, r6) := H
 have A3 := qA A30
 clear A30
 simp only [Option.some.injEq, Prod.mk.injEq] at H
 obtain ⟨rfl, rfl, rfl, rfl, rfl, rfl⟩ := H
 go_enter Tryz.func91, Tryz.ntmps91
 go_wp2_with (first | ((with_reducible refine gate_dst (N := 4) rfl ?_); refine box_event ?hg (N := 4) ?hd (cs := #[.slice none 0 0, .int .u8 0, .int .i64 0, .int .i64 0, .int .i64 0, .int .u8 0]) (t := 58) ?hr ?_; (case hd => rfl); (case hg => rfl); (case hr => first | (go_simp; done) | (go_simp; rfl)); intro gb304 hg w4 hbox hb; have n0_ := qA (below_step cq1 hb); have n1_ := qA (hbox); have n2_ := qA ((by rw [hg]; exact (below_size cq1) : w.heap.size ≤ gb304)); have n3_ := qA ((by rw [hg]; exact (below_size cq1) : w.heap.size ≤ gb304)); clear HB; have HB := n0_; have BK304 := n1_; have GW304 := n2_; have GE304 := n3_; clear n0_ n1_ n2_ n3_; clear hb hbox hg) | ((with_reducible refine gate_callee (f := 24) rfl ?_); refine goesL_ (some 7) rfl rfl Tryz.func24 cq3 rfl #[.int .i64 a0, .int .i64 a1] rfl cq11 ?_; (with_reducible refine (smithykit_mark.calls a0 a1 t305 _ A3.out).mono ?_); rintro e w' ⟨rfl, ⟨nd, rfl⟩⟩; refine ⟨_, rfl, ?_⟩; (try (rw [drewN_self w4]; generalize hq_ : World.drewN w4 _ = w4; have n0_ : Aside0 (w4.heap[gb304]? = some (.cells #[.slice none 0 0, .int .u8 0, .int .i64 0, .int .i64 0, .int .i64 0, .int .u8 0] 58 (0, 0))) := ⟨by rw [← hq_]; exact (by (with_reducible repeat (first | refine blk_drewN ?_ _ | refine blk_drew ?_ | refine blk_alloc ?_ _)); exact BK304.out)⟩; have n1_ : Aside0 (Below w.heap.size w w4) := ⟨by rw [← hq_]; exact (by repeat (first | (with_reducible first | exact HB.out | apply below_alloc | apply pw_below_drewN | apply below_drew1 | refine below_set ?_ GE304.out) | exact HB.out))⟩; clear BK304 HB hq_; have BK304 := n0_; have HB := n1_; clear n0_ n1_)); have hcz5_0 : w4.cell? ⟨gb304, 0, none⟩ = some (.slice none 0 0) := (blk_cell BK304.out 0).trans rfl; have hcz5_1 : w4.cell? ⟨gb304, 1, none⟩ = some (.int .u8 0) := (blk_cell BK304.out 1).trans rfl; have hcz5_2 : w4.cell? ⟨gb304, 2, none⟩ = some (.int .i64 0) := (blk_cell BK304.out 2).trans rfl; have hcz5_3 : w4.cell? ⟨gb304, 3, none⟩ = some (.int .i64 0) := (blk_cell BK304.out 3).trans rfl; have hcz5_4 : w4.cell? ⟨gb304, 4, none⟩ = some (.int .i64 0) := (blk_cell BK304.out 4).trans rfl; have hcz5_5 : w4.cell? ⟨gb304, 5, none⟩ = some (.int .u8 0) := (blk_cell BK304.out 5).trans rfl; have hfz5_0 := blk_frozen BK304.out 0; have hfz5_1 := blk_frozen BK304.out 1; have hfz5_2 := blk_frozen BK304.out 2; have hfz5_3 := blk_frozen BK304.out 3; have hfz5_4 := blk_frozen BK304.out 4; have hfz5_5 := blk_frozen BK304.out 5))
 refine bodyPost_ret (results_cell_row rfl _ _ gb304 58 #[.slice none 0 0, .int .u8 0, .int .i64 t305, .int .i64 0, .int .i64 0, .int .u8 0] (0, 0) _ rfl (by (with_reducible repeat (first | refine blk_drewN ?_ _ | refine blk_drew ?_ | refine blk_alloc ?_ _)); refine blk_put (cs := #[.slice none 0 0, .int .u8 0, .int .i64 t305, .int .i64 0, .int .i64 0, .int .u8 0]) ?_ 5 _ rfl; (with_reducible repeat (first | refine blk_drewN ?_ _ | refine blk_drew ?_ | refine blk_alloc ?_ _)); refine blk_put (cs := #[.slice none 0 0, .int .u8 0, .int .i64 t305, .int .i64 0, .int .i64 0, .int .u8 0]) ?_ 4 _ rfl; (with_reducible repeat (first | refine blk_drewN ?_ _ | refine blk_drew ?_ | refine blk_alloc ?_ _)); refine blk_put (cs := #[.slice none 0 0, .int .u8 0, .int .i64 t305, .int .i64 0, .int .i64 0, .int .u8 0]) ?_ 3 _ rfl; (with_reducible repeat (first | refine blk_drewN ?_ _ | refine blk_drew ?_ | refine blk_alloc ?_ _)); refine blk_put (cs := #[.slice none 0 0, .int .u8 0, .int .i64 0, .int .i64 0, .int .i64 0, .int .u8 0]) ?_ 2 _ rfl; (with_reducible repeat (first | refine blk_drewN ?_ _ | refine blk_drew ?_ | refine blk_alloc ?_ _)); refine blk_put (cs := #[.slice none 0 0, .int .u8 0, .int .i64 0, .int .i64 0, .int .i64 0, .int .u8 0]) ?_ 1 _ rfl; (with_reducible repeat (first | refine blk_drewN ?_ _ | refine blk_drew ?_ | refine blk_alloc ?_ _)); refine blk_put (cs := #[.slice none 0 0, .int .u8 0, .int .i64 0, .int .i64 0, .int .i64 0, .int .u8 0]) ?_ 0 _ rfl; (with_reducible repeat (first | refine blk_drewN ?_ _ | refine blk_drew ?_ | refine blk_alloc ?_ _)); exact BK304.out) Tryz.underlying58 rfl cq3) rfl ?_
 exact ⟨by first | rfl | (simp <;> rfl) | (simp [*] <;> rfl), by repeat (first | (with_reducible first | exact HB.out | apply below_alloc | apply pw_below_drewN | apply below_drew1 | refine below_set ?_ GE304.out) | exact HB.out)⟩
theorem markGraph_nil (a0 : Int) (a1 : Int) (r1 : ByteArray) (r2 : List Int) (r3 : Int) (r4 : List Int) (r5 : List (S155)) (r6 : List (S58)) (w : World) (h : smithykit_markGraph.f a0 a1 = some (r1, r2, r3, r4, r5, r6)) :
    Calls Tryz.prog 26 #[.int .i64 a0, .int .i64 a1] w fun e w' => e = .returned (.agg #[.string r1, .slice none 0 0, .int .u8 r3, .slice none 0 0, .slice none 0 0, .slice none 0 0]) ∧ Below w.heap.size w w'  := by
 have hu50 := Tryz.underlying50
 have HB := qA (Below.refl w.heap.size w)
 have H : ((smithykit_markText.f a0 a1).bind fun t312 => (some (t312, ([] : List Int), 0, ([] : List Int), ([] : List (S155)), ([] : List (S58))))) = some (r1, r2, r3, r4, r5, r6) := h
 clear h
 replace H := Option.bind_eq_some_iff.mp H
 obtain ⟨t312, A30, H⟩ := H
 replace H : (some (t312, ([] : List Int), 0, ([] : List Int), ([] : List (S155)), ([] : List (S58)))) = some (r1, r2, r3, r4, r5, r6) := H
 have A3 := qA A30
 clear A30
 simp only [Option.some.injEq, Prod.mk.injEq] at H
 obtain ⟨rfl, rfl, rfl, rfl, rfl, rfl⟩ := H
 go_enter Tryz.func26, Tryz.ntmps26
 go_wp2_with (first | ((with_reducible refine gate_dst (N := 4) rfl ?_); refine box_event ?hg (N := 4) ?hd (cs := #[.string (⟨#[]⟩ : ByteArray), .slice none 0 0, .int .u8 0, .slice none 0 0, .slice none 0 0, .slice none 0 0]) (t := 50) ?hr ?_; (case hd => rfl); (case hg => rfl); (case hr => first | (go_simp; done) | (go_simp; rfl)); intro gb311 hg w4 hbox hb; have n0_ := qA (below_step cq1 hb); have n1_ := qA (hbox); have n2_ := qA ((by rw [hg]; exact (below_size cq1) : w.heap.size ≤ gb311)); have n3_ := qA ((by rw [hg]; exact (below_size cq1) : w.heap.size ≤ gb311)); clear HB; have HB := n0_; have BK311 := n1_; have GW311 := n2_; have GE311 := n3_; clear n0_ n1_ n2_ n3_; clear hb hbox hg) | ((with_reducible refine gate_callee (f := 45) rfl ?_); refine goesL_ (some 7) rfl rfl Tryz.func45 cq3 rfl #[.int .i64 a0, .int .i64 a1] rfl cq11 ?_; (with_reducible refine (smithykit_markText.calls a0 a1 t312 _ A3.out).mono ?_); rintro e w5 ⟨rfl, hb⟩; refine ⟨_, rfl, ?_⟩; have n0_ := qA (blk_below (g := gb311) (o := .cells #[.string (⟨#[]⟩ : ByteArray), .slice none 0 0, .int .u8 0, .slice none 0 0, .slice none 0 0, .slice none 0 0] 50 (0, 0)) (by (with_reducible repeat (first | refine blk_drewN ?_ _ | refine blk_drew ?_ | refine blk_alloc ?_ _)); exact BK311.out) hb); have n1_ := qA (below_step (by repeat (first | (with_reducible first | exact HB.out | apply below_alloc | apply pw_below_drewN | apply below_drew1 | refine below_set ?_ GE311.out) | exact HB.out)) hb); clear BK311; clear HB; have BK311 := n0_; have HB := n1_; clear n0_ n1_; (try clear hb); (try clear hb2); (try clear hk); (try clear hi); have hcz6_0 : w5.cell? ⟨gb311, 0, none⟩ = some (.string (⟨#[]⟩ : ByteArray)) := (blk_cell BK311.out 0).trans rfl; have hcz6_1 : w5.cell? ⟨gb311, 1, none⟩ = some (.slice none 0 0) := (blk_cell BK311.out 1).trans rfl; have hcz6_2 : w5.cell? ⟨gb311, 2, none⟩ = some (.int .u8 0) := (blk_cell BK311.out 2).trans rfl; have hcz6_3 : w5.cell? ⟨gb311, 3, none⟩ = some (.slice none 0 0) := (blk_cell BK311.out 3).trans rfl; have hcz6_4 : w5.cell? ⟨gb311, 4, none⟩ = some (.slice none 0 0) := (blk_cell BK311.out 4).trans rfl; have hcz6_5 : w5.cell? ⟨gb311, 5, none⟩ = some (.slice none 0 0) := (blk_cell BK311.out 5).trans rfl; have hfz6_0 := blk_frozen BK311.out 0; have hfz6_1 := blk_frozen BK311.out 1; have hfz6_2 := blk_frozen BK311.out 2; have hfz6_3 := blk_frozen BK311.out 3; have hfz6_4 := blk_frozen BK311.out 4; have hfz6_5 := blk_frozen BK311.out 5))
 refine bodyPost_ret (results_cell_row rfl _ _ gb311 50 #[.string t312, .slice none 0 0, .int .u8 0, .slice none 0 0, .slice none 0 0, .slice none 0 0] (0, 0) _ rfl (by (with_reducible repeat (first | refine blk_drewN ?_ _ | refine blk_drew ?_ | refine blk_alloc ?_ _)); refine blk_put (cs := #[.string t312, .slice none 0 0, .int .u8 0, .slice none 0 0, .slice none 0 0, .slice none 0 0]) ?_ 5 _ rfl; (with_reducible repeat (first | refine blk_drewN ?_ _ | refine blk_drew ?_ | refine blk_alloc ?_ _)); refine blk_put (cs := #[.string t312, .slice none 0 0, .int .u8 0, .slice none 0 0, .slice none 0 0, .slice none 0 0]) ?_ 4 _ rfl; (with_reducible repeat (first | refine blk_drewN ?_ _ | refine blk_drew ?_ | refine blk_alloc ?_ _)); refine blk_put (cs := #[.string t312, .slice none 0 0, .int .u8 0, .slice none 0 0, .slice none 0 0, .slice none 0 0]) ?_ 3 _ rfl; (with_reducible repeat (first | refine blk_drewN ?_ _ | refine blk_drew ?_ | refine blk_alloc ?_ _)); refine blk_put (cs := #[.string t312, .slice none 0 0, .int .u8 0, .slice none 0 0, .slice none 0 0, .slice none 0 0]) ?_ 2 _ rfl; (with_reducible repeat (first | refine blk_drewN ?_ _ | refine blk_drew ?_ | refine blk_alloc ?_ _)); refine blk_put (cs := #[.string t312, .slice none 0 0, .int .u8 0, .slice none 0 0, .slice none 0 0, .slice none 0 0]) ?_ 1 _ rfl; (with_reducible repeat (first | refine blk_drewN ?_ _ | refine blk_drew ?_ | refine blk_alloc ?_ _)); refine blk_put (cs := #[.string (⟨#[]⟩ : ByteArray), .slice none 0 0, .int .u8 0, .slice none 0 0, .slice none 0 0, .slice none 0 0]) ?_ 0 _ rfl; (with_reducible repeat (first | refine blk_drewN ?_ _ | refine blk_drew ?_ | refine blk_alloc ?_ _)); exact BK311.out) Tryz.underlying50 rfl cq3) rfl ?_
 exact ⟨by first | rfl | (simp <;> rfl) | (simp [*] <;> rfl), by repeat (first | (with_reducible first | exact HB.out | apply below_alloc | apply pw_below_drewN | apply below_drew1 | refine below_set ?_ GE311.out) | exact HB.out)⟩
end Go.Proofs.YtligpleningglaaGreat.F
