/- The kit's flatHomes at rows of one's own in different blocks: true. (Turned from flatMoves by mkfh.py, a program of this session.) -/
import Derived.Test.YtcmbpboeilojmaaGreatFlatA
import Derived.Test.YtcmbpboeilojmaaGreatMkh
import Derived.Maps.Range
namespace Go.Proofs.YtcmbpboeilojmaaGreat.Sw
open Go Go.RowKit Go.Proofs.YtcmbpboeilojmaaGreatW.PrintWords Go.Proofs.YtcmbpboeilojmaaGreatW.PrintLast Go.Proofs.YtcmbpboeilojmaaGreatW.PrintMore Go.Proofs.YtcmbpboeilojmaaGreat.Mi Go.Proofs.YtcmbpboeilojmaaGreat.F Go.Proofs.YtcmbpboeilojmaaGreat.Keep
set_option linter.unusedVariables false
set_option linter.unusedSimpArgs false
attribute [local go_sem high] eqA48

def CH (k : Int) (n : Nat) : List Value := (List.range n).flatMap fun (i : Nat) => [.int .i64 0, .int .i64 0, .int .i64 (mkI k (i : Int))]
theorem CH_zero (k : Int) : CH k 0 = [] := rfl
theorem CH_succ (k : Int) (n : Nat) : CH k (n + 1) = CH k n ++ [.int .i64 0, .int .i64 0, .int .i64 (mkI k (n : Int))] := by unfold CH; rw [List.range_succ, List.flatMap_append]; simp
theorem CH_len (k : Int) (n : Nat) : (CH k n).length = n * 3 := by
  induction n with
  | zero => rfl
  | succ n ih => rw [CH_succ, List.length_append, ih]; simp; omega
theorem CH_get0 (k : Int) {n i : Nat} (h : i < n) : (CH k n)[i * 3]? = some (.int .i64 0) := by
  induction n with
  | zero => omega
  | succ n ih =>
    rw [CH_succ]
    by_cases e : i < n
    · rw [List.getElem?_append_left (by rw [CH_len]; omega)]; exact ih e
    · obtain rfl : i = n := by omega
      rw [List.getElem?_append_right (by rw [CH_len]; omega), CH_len, show i * 3 - i * 3 = 0 by omega]; rfl
theorem CH_get1 (k : Int) {n i : Nat} (h : i < n) : (CH k n)[i * 3 + 1]? = some (.int .i64 0) := by
  induction n with
  | zero => omega
  | succ n ih =>
    rw [CH_succ]
    by_cases e : i < n
    · rw [List.getElem?_append_left (by rw [CH_len]; omega)]; exact ih e
    · obtain rfl : i = n := by omega
      rw [List.getElem?_append_right (by rw [CH_len]; omega), CH_len, show i * 3 + 1 - i * 3 = 1 by omega]; rfl
theorem CH_get2 (k : Int) {n i : Nat} (h : i < n) : (CH k n)[i * 3 + 2]? = some (.int .i64 (mkI k (i : Int))) := by
  induction n with
  | zero => omega
  | succ n ih =>
    rw [CH_succ]
    by_cases e : i < n
    · rw [List.getElem?_append_left (by rw [CH_len]; omega)]; exact ih e
    · obtain rfl : i = n := by omega
      rw [List.getElem?_append_right (by rw [CH_len]; omega), CH_len, show i * 3 + 2 - i * 3 = 2 by omega]; rfl
theorem CH_take (k : Int) (n q : Nat) : (CH k (n + q)).take (n * 3) = CH k n := by
  induction q with
  | zero => rw [Nat.add_zero, List.take_of_length_le (by rw [CH_len]; omega)]
  | succ q ih => rw [← Nat.add_assoc, CH_succ, List.take_append_of_le_length (by rw [CH_len]; omega), ih]
theorem CH_one (k : Int) (n : Nat) : ∀ u ∈ CH k n, u.oneCell' = true := by
  intro u hu
  unfold CH at hu
  obtain ⟨a, _, hu⟩ := List.mem_flatMap.1 hu
  rcases List.mem_cons.1 hu with rfl | hu
  · rfl
  · rcases List.mem_cons.1 hu with rfl | hu
    · rfl
    · rw [List.mem_singleton] at hu; subst hu; rfl
theorem cells_lit3 (w : World) (v u x : Value) (e : TypeId) : ∀ (j : Nat) (z : Value), [v, u, x][j]? = some z → (w.alloc (Obj.cells #[v, u, x] e)).cell? ((⟨w.heap.size, 0, none⟩ : Addr).add j) = some z := by
  intro j z h
  exact (World.ownsRow_lit (e := e) (base := 0) (size := 3) w #[v, u, x] 1 (Nat.zero_le _) (by simp [maxLen]) rfl).cells (g := w.heap.size) rfl j z (by simpa using h)
theorem toList_madeCells_three (z : Value) (n : Nat) : (madeCells #[z, z, z] n).toList = List.replicate n z := by
  apply List.ext_getElem?
  intro j
  by_cases hj : j < n
  · have : j % 3 = 0 ∨ j % 3 = 1 ∨ j % 3 = 2 := by omega
    rcases this with h | h | h <;> simp [madeCells, hj, h]
  · simp [madeCells, hj]
theorem exec_eql48 {o : Oper} {ρ : Operand → Value} {x y : Operand} {yt : TypeId} {a b c : Int} (w : World) (ho : o.op = .binOp .eql 48 x y yt) (hx : ρ x = .agg #[.int .i64 a, .int .i64 b, .int .i64 c]) (hy : ρ y = .agg #[.int .i64 a, .int .i64 b, .int .i64 c]) : (execOp ρ o).run Tryz.prog w = .ok (.value (.bool true)) w := by
  unfold execOp
  simp only [ho, hx, hy]
  go_simp
theorem info27o : (Tryz.prog.info? 27).map (fun i => (i.zero, i.size, i.bytes)) = some (some (.slice none 0 0), 1, 24) := by kernel_rfl

set_option maxHeartbeats 8000000 in
set_option maxRecDepth 100000 in
theorem flatHomes_calls (base : Nat) (vls : Value) (vs : List Value) (ns : List Nat) (w : World) (hm : vs.length ≤ 100) (hn : ∀ j, ns.getD j 0 + 64 ≤ 5864062014805) (hbase : base ≤ w.heap.size)
    (ho : w.ownsRow base 27 1 vls vs.length vs) (hr : ∃ cs, RowsO w base 48 3 vs ns cs) (ha : Apart vs vs) (hs : ∀ j, disj vls (at_ vs j)) :
    Calls Tryz.prog 54 #[vls] w fun e w' => e = .returned (.bool true) ∧ Below base w w' ∧ KQ w w' vs := by
  obtain ⟨A, c, rfl⟩ := own_slice ho
  obtain ⟨cs0, hr0⟩ := hr
  have HO := Aside0.mk ho
  have HR := Aside0.mk hr0
  have HA := Aside0.mk ha
  have HN := Aside0.mk hn
  have HS := Aside0.mk hs
  clear ho hr0 ha hn hs
  go_enter Tryz.func54, Tryz.ntmps54
  go_wp2
  go_loopw [3] (fun v3 wr => ∃ (k : Nat) (cs : Nat → List Value), k ≤ vs.length ∧ v3 = .int .i64 (k : Int) ∧ Aside0 (∀ j, j < k → cs j = CH j (ns.getD j 0)) ∧ Aside0 (wr.ownsRow base 27 1 (.slice A vs.length c) vs.length vs) ∧ Aside0 (RowsO wr base 48 3 vs ns cs) ∧ Aside0 (Below base w wr) ∧ Aside0 (KQ w wr vs)) (fun v3 _ => vs.length - (intOf v3).toNat)
  case atStart => exact ⟨0, cs0, Nat.zero_le _, rfl, ⟨fun j hj => absurd hj (by omega)⟩, HO, HR, ⟨Below.refl _ _⟩, ⟨KQ.refl _ _⟩⟩
  case round =>
    clear HO HR
    obtain ⟨k, cs, hk, rfl, HC, HO, HR, HB, HKQ⟩ := hrel
    by_cases hlt : k < vs.length
    · obtain ⟨L, c', hLv, hLb, hLl⟩ := HO.out.form (by omega)
      injection hLv with e1 _ e2
      subst e1 e2
      have hx0 : wr.cell? ⟨L, k, none⟩ = some (at_ vs k) := by
        have := HO.out.cells (g := L) rfl k (at_ vs k) (by unfold at_; rw [List.getD_eq_getElem?_getD, List.getElem?_eq_getElem hlt]; rfl)
        rwa [add_plain] at this
      have hk0 := HR.out k hlt
      obtain ⟨Ak, ck, hvk⟩ := own_slice hk0
      rw [hvk] at hx0 hk0
      have HVK := Aside0.mk hvk
      have HK0 := Aside0.mk hk0
      clear hvk hk0
      obtain ⟨n, hnk⟩ : ∃ n, ns.getD k 0 = n := ⟨_, rfl⟩
      have hn64 := HN.out k
      rw [hnk] at hx0 HVK HK0 hn64
      have HNK := Aside0.mk hnk
      clear hnk
      have HX : Aside0 (some L ≠ (Value.slice Ak n ck).ownBlock) := ⟨by
        have := HS.out k
        rw [HVK.out] at this
        rcases this with h | h
        · cases h
        · exact h⟩
      go_wp2
      obtain ⟨W1, hW1⟩ : ∃ x, x = wr := ⟨_, rfl⟩
      subst hW1
      go_loopw [4] (fun v4 wi => ∃ (i : Nat), i ≤ n ∧ v4 = .int .i64 (i : Int) ∧ Aside0 (wi.ownsRow base 48 3 (.slice Ak n ck) n (CH k i ++ (cs k).drop (i * 3))) ∧ Aside0 (Below base w wi) ∧ Aside0 (W1.grownBy wi (Value.slice Ak n ck).ownBlock)) (fun v4 _ => n - (intOf v4).toNat)
      case atStart => exact ⟨0, Nat.zero_le _, rfl, ⟨by simpa [CH] using HK0.out⟩, HB, ⟨World.grownBy.refl _ _⟩⟩
      case round =>
        obtain ⟨i, hi, rfl, HK, HBi, HG⟩ := hrel
        have hx0i : wr.cell? ⟨L, k, none⟩ = some (.slice Ak n ck) := by
          rw [HG.out.cell_far _ (World.block_lt_of_cell? _ _ hx0) (HX.out)]; exact hx0
        by_cases hli : i < n
        · have hk1000 : (k : Int) ≤ 1000 := by omega
          obtain ⟨b, c2, hbv, hbb, hbl⟩ := HK.out.form (by omega)
          injection hbv with e1 _ e2
          subst e1 e2
          obtain ⟨r0, r1, r2, rest, hrest⟩ : ∃ r r' r'' rs, (cs k).drop (i * 3) = r :: r' :: r'' :: rs := by
            have hl1 : ((cs k).drop (i * 3)).length = n * 3 - i * 3 := by rw [List.length_drop, HK0.out.1]
            match hd1 : (cs k).drop (i * 3) with
            | [] => rw [hd1] at hl1; simp at hl1; omega
            | [_] => rw [hd1] at hl1; simp at hl1; omega
            | [_, _] => rw [hd1] at hl1; simp at hl1; omega
            | r :: r' :: r'' :: rs => exact ⟨r, r', r'', rs, rfl⟩
          have hget : (CH k i ++ r0 :: r1 :: r2 :: rest)[i * 3]? = some r0 := by rw [List.getElem?_append_right (by rw [CH_len]; exact Nat.le_refl _), CH_len, Nat.sub_self]; rfl
          have hget1 : (CH k i ++ r0 :: r1 :: r2 :: rest)[i * 3 + 1]? = some r1 := by rw [List.getElem?_append_right (by rw [CH_len]; omega), CH_len, show i * 3 + 1 - i * 3 = 1 by omega]; rfl
          have hget2 : (CH k i ++ r0 :: r1 :: r2 :: rest)[i * 3 + 2]? = some r2 := by rw [List.getElem?_append_right (by rw [CH_len]; omega), CH_len, show i * 3 + 2 - i * 3 = 2 by omega]; rfl
          have hset : (((CH k i ++ r0 :: r1 :: r2 :: rest).set (i * 3) (.int .i64 0)).set (i * 3 + 1) (.int .i64 0)).set (i * 3 + 2) (.int .i64 (mkI k (i : Int))) = CH k (i + 1) ++ rest := by
            rw [List.set_append_right _ _ (by rw [CH_len]; exact Nat.le_refl _), CH_len, Nat.sub_self, List.set_append_right _ _ (by rw [CH_len]; omega), CH_len, show i * 3 + 1 - i * 3 = 1 by omega, List.set_append_right _ _ (by rw [CH_len]; omega), CH_len, show i * 3 + 2 - i * 3 = 2 by omega, CH_succ]; simp
          have HGET1 := Aside0.mk hget1
          have HGET2 := Aside0.mk hget2
          clear hget1 hget2
          have HGET := Aside0.mk hget
          have HSET := Aside0.mk hset
          clear hget hset
          have HRE := Aside0.mk hrest
          rw [hrest] at HK
          clear hrest
          go_wp2
          go_upto_region 7 with (fail)
          refine start_ (n := 10) (S := fun w' => Below base w w' ∧ w'.cell? ⟨L, k, none⟩ = some (.slice (some ⟨b, 0, none⟩) n ck) ∧ w'.ownsRow base 48 3 (.slice (some ⟨b, 0, none⟩) n ck) n (CH k i ++ r0 :: r1 :: r2 :: rest) ∧ wr.heap.size ≤ w'.heap.size ∧ Below wr.heap.size wr w') (ds := [9]) #[false, false, false, false, false, false, false, false, false, false] (by kernel_rfl) rfl rfl ⟨(below_drew HBi.out), hx0i, HK.out, ⟨Nat.le_refl _, below_drew (Below.refl _ _)⟩⟩ (fun hHeld => ?_)
          refine pure_ (i := 0) (N := some 31) (v := ?_) (a' := ?_) #[true, false, false, false, false, false, false, false, false, false] rfl rfl (by kernel_rfl) (fun _ _ _ h => h) (Or.inl ⟨by rfl, ?_⟩) ?_ ?_
          rotate_left
          · intro w'
            go_simp
            with_reducible rfl
          rotate_left
          · simp only [Act.put, List.setIfInBounds_toArray, List.set_cons_zero, List.set_cons_succ, i64_w, i32_w]
            rfl
          refine pure_ (i := 1) (N := some 32) (v := ?_) (a' := ?_) #[true, true, false, false, false, false, false, false, false, false] rfl rfl (by kernel_rfl) (fun _ _ _ h => h) (Or.inl ⟨by rfl, ?_⟩) ?_ ?_
          rotate_left
          · intro w'
            go_simp
            with_reducible rfl
          rotate_left
          · simp only [Act.put, List.setIfInBounds_toArray, List.set_cons_zero, List.set_cons_succ, i64_w, i32_w]
            rfl
          refine pure_ (i := 2) (N := some 33) (v := ?_) (a' := ?_) #[true, true, true, false, false, false, false, false, false, false] rfl rfl (by kernel_rfl) (fun _ _ _ h => h) (Or.inl ⟨by rfl, ?_⟩) ?_ ?_
          rotate_left
          · intro w'
            go_simp
            with_reducible rfl
          rotate_left
          · simp only [Act.put, List.setIfInBounds_toArray, List.set_cons_zero, List.set_cons_succ, i64_w, i32_w]
            rfl
          refine pure_ (i := 4) (N := some 35) (v := ?_) (a' := ?_) #[true, true, true, false, true, false, false, false, false, false] rfl rfl (by kernel_rfl) (fun _ _ _ h => h) (Or.inl ⟨by rfl, ?_⟩) ?_ ?_
          rotate_left
          · intro w'
            go_simp
            with_reducible rfl
          rotate_left
          · simp only [Act.put, List.setIfInBounds_toArray, List.set_cons_zero, List.set_cons_succ, i64_w, i32_w]
            rfl
          refine pure_ (i := 5) (N := some 36) (v := ?_) (a' := ?_) #[true, true, true, false, true, true, false, false, false, false] rfl rfl (by kernel_rfl) (fun _ _ _ h => h) (Or.inl ⟨by rfl, ?_⟩) ?_ ?_
          rotate_left
          · intro w'
            go_simp
            with_reducible rfl
          rotate_left
          · simp only [Act.put, List.setIfInBounds_toArray, List.set_cons_zero, List.set_cons_succ, i64_w, i32_w]
            rfl
          refine pure_ (i := 6) (N := some 37) (v := ?_) (a' := ?_) #[true, true, true, false, true, true, true, false, false, false] rfl rfl (by kernel_rfl) (fun _ _ _ h => h) (Or.inl ⟨by rfl, ?_⟩) ?_ ?_
          rotate_left
          · intro w'
            go_simp
            with_reducible rfl
          rotate_left
          · simp only [Act.put, List.setIfInBounds_toArray, List.set_cons_zero, List.set_cons_succ, i64_w, i32_w]
            rfl
          refine take_ (i := 3) (N := some 34) (v := ?_) (a' := ?_) #[true, true, true, true, true, true, true, false, false, false] rfl rfl (by kernel_rfl) (fun _ _ _ h => h) (Or.inl ⟨by rfl, ?_⟩) hHeld ?_ ?_
          rotate_left
          · rintro w' ⟨s0, s1, s2, s3⟩
            go_simp
            with_reducible rfl
          rotate_left
          · simp only [Act.put, List.setIfInBounds_toArray, List.set_cons_zero, List.set_cons_succ, i64_w, i32_w]
            rfl
          refine one_ (i := 7) (N := some 38) #[true, true, true, true, true, true, true, true, false, false] rfl rfl (by kernel_rfl) (by decide) (fun K hK => ?_)
          refine goes_ Tryz.func90 (by kernel_rfl) rfl #[.int .i64 (k : Int), .int .i64 (i : Int)] (by rfl) rfl rfl (by simp only [List.map_toArray, List.map_cons, List.map_nil]; rfl) ?_
          with_reducible refine (mark_home (k : Int) (i : Int) _ (by omega) (by omega) (by omega) (by omega)).mono ?_
          rintro e w3 ⟨rfl, hb3⟩
          refine ⟨_, rfl, ?_⟩
          have hH1 := hHeld.1
          have hH2 := hHeld.2.1
          have hH3 := hHeld.2.2.1
          have hH4 := hHeld.2.2.2
          refine hK.out _ _ ⟨(below_then hH1 (Nat.le_trans hbase hH1.size) hb3), (pw_cell_below hb3 hH2), (pw_own_below hH3 hb3), ⟨Nat.le_trans hH4.1 hb3.size, below_then hH4.2 hH4.1 hb3⟩⟩ (fun hHeld => ?_)
          clear hK K
          refine norm_ (a' := ?_) ?_ ?_
          rotate_left
          · show Act.put _ (some 38) _ = _
            simp only [Act.put, List.setIfInBounds_toArray, List.set_cons_zero, List.set_cons_succ, i64_w, i32_w]
            rfl
          refine pure_ (i := 8) (N := some 39) (v := ?_) (a' := ?_) #[true, true, true, true, true, true, true, true, true, false] rfl rfl (by kernel_rfl) (fun _ _ _ h => h) (Or.inl ⟨by rfl, ?_⟩) ?_ ?_
          rotate_left
          · intro w'
            go_simp
            with_reducible rfl
          rotate_left
          · simp only [Act.put, List.setIfInBounds_toArray, List.set_cons_zero, List.set_cons_succ, i64_w, i32_w]
            rfl
          refine last_ (i := 9) (N := none) #[true, true, true, true, true, true, true, true, true, true] rfl rfl (by kernel_rfl) (by decide) (fun K hK => ?_)
          have hO3 := hHeld.2.2.1
          obtain ⟨hO4, hgr4⟩ := hO3.stored (i * 3) (.int .i64 0)
          obtain ⟨hO5, hgr5⟩ := hO4.stored (i * 3 + 1) (.int .i64 0)
          obtain ⟨hO6, hgr6⟩ := hO5.stored (i * 3 + 2) (.int .i64 (mkI (k : Int) (i : Int)))
          have hcl : w3.cell? ⟨b, i * 3, none⟩ = some r0 := by have := hO3.cells (g := b) rfl (i * 3) r0 HGET.out; rwa [add_plain] at this
          have hfr : w3.frozen? ⟨b, i * 3, none⟩ = false := hO3.frozenAt (i * 3)
          have hcl1 : (w3.setCell ⟨b, i * 3, none⟩ (.int .i64 0)).cell? ⟨b, i * 3 + 1, none⟩ = some r1 := by have := hO4.cells (g := b) rfl (i * 3 + 1) r1 (by rw [List.getElem?_set_ne (by omega)]; exact HGET1.out); rwa [add_plain] at this
          have hfr1 : (w3.setCell ⟨b, i * 3, none⟩ (.int .i64 0)).frozen? ⟨b, i * 3 + 1, none⟩ = false := hO4.frozenAt (i * 3 + 1)
          have hcl2 : ((w3.setCell ⟨b, i * 3, none⟩ (.int .i64 0)).setCell ⟨b, i * 3 + 1, none⟩ (.int .i64 0)).cell? ⟨b, i * 3 + 2, none⟩ = some r2 := by have := hO5.cells (g := b) rfl (i * 3 + 2) r2 (by rw [List.getElem?_set_ne (by omega), List.getElem?_set_ne (by omega)]; exact HGET2.out); rwa [add_plain] at this
          have hfr2 : ((w3.setCell ⟨b, i * 3, none⟩ (.int .i64 0)).setCell ⟨b, i * 3 + 1, none⟩ (.int .i64 0)).frozen? ⟨b, i * 3 + 2, none⟩ = false := hO5.frozenAt (i * 3 + 2)
          have HO5 := Aside0.mk hO6
          have HGR5 := Aside0.mk ((hgr4.trans hgr5).trans hgr6)
          clear hO3 hO4 hgr4 hO5 hgr5 hO6 hgr6
          refine skip_ (w1 := ?_) (by rfl) rfl ?_ ?_
          rotate_left
          · go_simp
            rfl
          refine hK.out _ _ ?_
          clear hK K
          refine done_ (by kernel_rfl) ?_
          have hst := HO5.out
          rw [HSET.out, ← (show (cs k).drop ((i + 1) * 3) = rest by rw [show (i + 1) * 3 = i * 3 + 3 by omega, ← List.drop_drop, HRE.out]; rfl)] at hst
          have HKn := Aside0.mk hst
          have HBn := Aside0.mk (((hHeld.1.setCell (p := ⟨b, i * 3, none⟩) hbb (.int .i64 0)).setCell (p := ⟨b, i * 3 + 1, none⟩) hbb (.int .i64 0)).setCell (p := ⟨b, i * 3 + 2, none⟩) hbb (.int .i64 (mkI (k : Int) (i : Int))))
          have HGn := Aside0.mk (HG.out.trans ((grown_of_below hHeld.2.2.2.2 _).trans HGR5.out))
          clear hst hHeld hcl hfr hcl1 hfr1 hcl2 hfr2 hH1 hH2 hH3 hH4
          go_wp2
          go_roundw
          case rel => exact ⟨i + 1, by omega, by go_num, HKn, HBn, HGn⟩
          case measure => simp [intOf]; omega
        · obtain rfl : i = n := by omega
          have hKd : (CH k i ++ (cs k).drop (i * 3)) = CH k i := by rw [List.drop_eq_nil_of_le (by rw [HK0.out.1]; exact Nat.le_refl _), List.append_nil]
          have hKo := HK.out
          rw [hKd, ← HVK.out] at hKo
          have hGv := HG.out
          rw [← HVK.out] at hGv
          have HO' := Aside0.mk (own_grown HO.out hGv (HS.out k))
          have HKQ' : Aside0 (KQ w wr vs) := ⟨HKQ.out.step HB.out.size hGv (fun q e => .inr ⟨k, e⟩)⟩
          have HR' := Aside0.mk (HR.out.set HA.out hGv (by rw [HNK.out]; exact hKo))
          have HC' : Aside0 (∀ j, j < k + 1 → upd1 cs k (CH k i) j = CH j (ns.getD j 0)) := ⟨fun j hj => by
            by_cases e : j = k
            · subst e; rw [upd1_same, HNK.out]
            · rw [upd1_other e]; exact HC.out j (by omega)⟩
          clear hKd hKo hGv
          go_wp2
          go_roundw
          case rel => exact ⟨k + 1, _, by omega, by go_num, HC', HO', HR', HBi, HKQ'⟩
          case measure => simp [intOf]; omega
    · obtain rfl : k = vs.length := by omega
      obtain ⟨i0, hi, hz0, hz1, hz2⟩ := info_parts info27o
      obtain ⟨W0, hrun, hown, hg⟩ := run_make_full (P := Tryz.prog) wr base 33 27 i0 nilV 1 Tryz.underlying33 hi hz0 hz1 .i64 .i64 vs.length (by rw [hz2]; omega) (by simp only [maxLen]; omega) (Nat.le_trans hbase HB.out.size)
      obtain ⟨G, hG⟩ : ∃ x, wr.heap.size = x := ⟨_, rfl⟩
      have HB0 := Aside0.mk (HB.out.grown hg (Nat.le_trans hbase HB.out.size) (fun k hk => by cases hk))
      have HKQ0 : Aside0 (KQ w W0 vs) := ⟨HKQ.out.step HB.out.size hg (fun q e => by cases e)⟩
      have HGW : Aside0 (w.heap.size ≤ G) := ⟨by rw [← hG]; exact HB.out.size⟩
      have HO0 := Aside0.mk (own_grown HO.out (u := nilV) hg (disj_nil _).symm)
      have HR0 : Aside0 (RowsO W0 base 48 3 vs ns (fun j => CH j (ns.getD j 0))) := ⟨fun j hj => by
        have := own_grown (HR.out j hj) (u := nilV) hg (disj_nil _).symm
        rw [HC.out j hj] at this
        exact this⟩
      have HVG : Aside0 (∀ j, disj (.slice (some ⟨G, 0, none⟩) vs.length vs.length) (at_ vs j)) := ⟨fun j => by
        by_cases hj : j < vs.length
        · refine disj.symm (disj_fresh (HR.out j hj) (b := G) rfl (by omega))
        · refine disj.symm (.inl ?_)
          unfold at_
          rw [List.getD_eq_getElem?_getD, List.getElem?_eq_none (by omega)]
          rfl⟩
      have HLG : Aside0 (disj (.slice A vs.length c) (.slice (some ⟨G, 0, none⟩) vs.length vs.length)) := ⟨disj_fresh HO.out (b := G) rfl (by omega)⟩
      have HGS0 : Aside0 (W0.ownsRow base 27 1 (.slice (some ⟨G, 0, none⟩) vs.length vs.length) vs.length (List.replicate vs.length nilV)) := ⟨by
        rw [← hG]
        rw [show (madeCells nilV.cells (vs.length * 1)).toList = List.replicate vs.length nilV by rw [Nat.mul_one]; exact toList_madeCells_one _ _] at hown
        exact hown⟩
      have HRUN := Aside0.mk hrun
      rw [hG] at hrun
      clear hi hz0 hz1 hz2 hown hg HB HO HR HC HRUN HKQ
      go_wp2
      clear hrun
      go_loopw [6] (fun v6 wr => ∃ (k : Nat) (gs : List Value), k ≤ vs.length ∧ v6 = .int .i64 (k : Int) ∧ Aside0 (gs.length = vs.length)
        ∧ Aside0 (∀ j, j < k → wr.ownsRow base 48 3 (at_ gs j) (ns.getD j 0 + 64) (CH j (ns.getD j 0 + 64)))
        ∧ Aside0 (∀ i j, j < k → i ≠ j → disj (at_ vs i) (at_ gs j)) ∧ Aside0 (∀ i j, i < k → j < k → i ≠ j → disj (at_ gs i) (at_ gs j))
        ∧ Aside0 (∀ j, j < k → disj (.slice (some ⟨G, 0, none⟩) vs.length vs.length) (at_ gs j)) ∧ Aside0 (∀ j, j < k → disj (.slice A vs.length c) (at_ gs j))
        ∧ Aside0 (wr.ownsRow base 27 1 (.slice A vs.length c) vs.length vs) ∧ Aside0 (wr.ownsRow base 27 1 (.slice (some ⟨G, 0, none⟩) vs.length vs.length) vs.length gs)
        ∧ Aside0 (RowsO wr base 48 3 vs ns (fun j => CH j (ns.getD j 0))) ∧ Aside0 (Below base w wr) ∧ Aside0 (KQ w wr vs)) (fun v6 _ => vs.length - (intOf v6).toNat)
      case atStart => exact ⟨0, _, Nat.zero_le _, rfl, ⟨List.length_replicate⟩, ⟨fun j hj => absurd hj (by omega)⟩, ⟨fun i j hj => absurd hj (by omega)⟩, ⟨fun i j hj => absurd hj (by omega)⟩, ⟨fun j hj => absurd hj (by omega)⟩, ⟨fun j hj => absurd hj (by omega)⟩, HO0, HGS0, HR0, HB0, HKQ0⟩
      case round =>
        clear HO0 HGS0 HR0 HB0 HKQ0
        obtain ⟨k, gs, hk, rfl, HGL, HGR, HD1, HD2, HD3, HD4, HO, HGS, HR, HB, HKQ⟩ := hrel
        by_cases hlt : k < vs.length
        · obtain ⟨L, c', hLv, hLb, hLl⟩ := HO.out.form (by omega)
          injection hLv with e1 _ e2
          subst e1 e2
          have hx0 : wr.cell? ⟨L, k, none⟩ = some (at_ vs k) := by
            have := HO.out.cells (g := L) rfl k (at_ vs k) (by unfold at_; rw [List.getD_eq_getElem?_getD, List.getElem?_eq_getElem hlt]; rfl)
            rwa [add_plain] at this
          have hk0 := HR.out k hlt
          obtain ⟨Ak, ck, hvk⟩ := own_slice hk0
          rw [hvk] at hx0 hk0
          have HVK := Aside0.mk hvk
          have HK0 := Aside0.mk hk0
          clear hvk hk0
          obtain ⟨n, hnk⟩ : ∃ n, ns.getD k 0 = n := ⟨_, rfl⟩
          have hn64 := HN.out k
          rw [hnk] at hx0 HVK HK0 hn64
          have HNK := Aside0.mk hnk
          have HK0' : Aside0 (wr.ownsRow base 48 3 (.slice Ak n ck) n (CH k n)) := ⟨by have := HK0.out; simp only [hnk] at this; exact this⟩
          clear hnk
          have HX : Aside0 (some L ≠ (Value.slice Ak n ck).ownBlock) := ⟨by
            have := HS.out k
            rw [HVK.out] at this
            rcases this with h | h
            · cases h
            · exact h⟩
          go_wp2
          obtain ⟨W1, hW1⟩ : ∃ x, x = wr := ⟨_, rfl⟩
          subst hW1
          go_loopw [7, 8] (fun v7 v8 wi => ∃ (q : Nat), q ≤ 64 ∧ v8 = .int .i64 (q : Int) ∧ Aside0 (wi.ownsRow base 48 3 v7 (n + q) (CH k (n + q))) ∧ Aside0 (wi.ownsRow base 48 3 (.slice Ak n ck) n (CH k n)) ∧ Aside0 (Below base w wi) ∧ Aside0 (W1.grownBy wi (Value.slice Ak n ck).ownBlock)
            ∧ Aside0 (v7.ownBlock = (Value.slice Ak n ck).ownBlock ∨ ∃ b, v7.ownBlock = some b ∧ W1.heap.size ≤ b)) (fun _ v8 _ => 64 - (intOf v8).toNat)
          case atStart => exact ⟨0, Nat.zero_le _, rfl, HK0', HK0', HB, ⟨World.grownBy.refl _ _⟩, ⟨.inl rfl⟩⟩
          case round =>
            obtain ⟨q, hq, rfl, HQ, HV, HBi, HG, HA7⟩ := hrel
            have hx0i : wr.cell? ⟨L, k, none⟩ = some (.slice Ak n ck) := by
              rw [HG.out.cell_far _ (World.block_lt_of_cell? _ _ hx0) (HX.out)]; exact hx0
            by_cases hlq : q < 64
            · have hlq' : (q : Int) < 64 := by omega
              go_wp2_with fail
              refine (mark_home (k : Int) ((n : Int) + (q : Int)) _ (by omega) (by omega) (by omega) (by omega)).mono ?_
              rintro e w2 ⟨rfl, hb⟩
              have HQ2 := Aside0.mk (pw_own_below HQ.out hb)
              have HV2 := Aside0.mk (pw_own_below HV.out hb)
              have HB2 := Aside0.mk (below_then HBi.out (Nat.le_trans hbase HBi.out.size) hb)
              have HG2 := Aside0.mk (HG.out.trans (grown_of_below hb _))
              have hx2 := pw_cell_below hb hx0i
              clear hb
              have HCS : Aside0 (CH (k : Int) (n + q) ++ [.int .i64 0, .int .i64 0, .int .i64 (mkI (k : Int) ((n : Int) + (q : Int)))] = CH k (n + (q + 1))) := ⟨by
                rw [← Nat.add_assoc, CH_succ, Int.natCast_add]⟩
              go_wp2_with (first | ((with_reducible refine gate_builtin (b := .append) (xs := #[.tmp 57, .tmp 67]) rfl ?_); at_builtin; go_loud (refine O_append_keep (w0 := w) base rfl (.tmp 57) (.tmp 67) 27 48 (.agg #[.int .i64 0, .int .i64 0, .int .i64 0]) 3 24 rfl Tryz.underlying27 info48 rfl (by decide) (by omega) u7 (n + q) (CH k (n + q)) 1 1 [.int .i64 0, .int .i64 0, .int .i64 (mkI (k : Int) ((n : Int) + (q : Int)))] ⟨w2.heap.size, 0, none⟩ ?aS ?aX rfl ?aC ?aN ?aO ?aB ?aZ ?aL ?_; (case aS => first | rfl | (simp [Act.eval]; done)); (case aX => first | rfl | (simp [Act.eval]; done)); (case aC => exact cells_lit3 _ _ _ _ _); (case aN => intro u hu; simp at hu; rcases hu with rfl | rfl <;> rfl); (case aO => exact HQ2.out.alloc _); (case aB => exact HB2.out.alloc (Nat.le_trans hbase HB2.out.size) _); (case aZ => simp; have := HB2.out.size; omega); (case aL => omega); intro v68 w4 ho1 ho2 hb hg hat; have HN4 := Aside0.mk ho1; have HQ4 := Aside0.mk ho2; have HB4 := Aside0.mk hb; have HG4 := Aside0.mk hg; have HAT := Aside0.mk hat; clear ho1 ho2 hb hg hat)))
              have HGA := HG2.out.trans (World.grownBy_alloc w2 (Obj.cells #[Value.int IntKind.i64 0, Value.int IntKind.i64 0, Value.int IntKind.i64 (mkI (k : Int) ((n : Int) + (q : Int)))] 48) _)
              have HVn : Aside0 (w4.ownsRow base 48 3 (.slice Ak n ck) n (CH k n)) := ⟨by
                rcases HA7.out with h | ⟨b, h, hge⟩
                · exact own_under (by decide) HV2.out HQ2.out h HQ4.out (by omega) (CH_take _ _ _)
                · exact own_grown (HV2.out.alloc _) HG4.out (disj_fresh HK0'.out h hge)⟩
              have HGn : Aside0 (W1.grownBy w4 (Value.slice Ak n ck).ownBlock) := ⟨HGA.andThen HG4.out (fun j hj => by
                rcases HA7.out with h | ⟨b, h, hge⟩
                · exact .inr (by rw [← h]; exact hj)
                · rw [hj] at h; injection h with h; subst h; exact .inl hge)⟩
              have HAn : Aside0 (v68.ownBlock = (Value.slice Ak n ck).ownBlock ∨ ∃ b, v68.ownBlock = some b ∧ W1.heap.size ≤ b) := ⟨by
                rcases HAT.out with h | h
                · rw [h]; exact HA7.out
                · exact .inr ⟨_, h, HGA.size⟩⟩
              have HNn : Aside0 (w4.ownsRow base 48 3 v68 (n + (q + 1)) (CH k (n + (q + 1)))) := ⟨by have := HN4.out; rw [HCS.out] at this; exact this⟩
              clear HGA HCS
              go_roundw
              case rel => exact ⟨q + 1, by omega, by go_num, HNn, HVn, HB4, HGn, HAn⟩
              case measure => simp [intOf]; omega
            · obtain rfl : q = 64 := by omega
              obtain ⟨A7, c7, rfl⟩ := own_slice HQ.out
              have hGv := HG.out
              rw [← HVK.out] at hGv
              have h7 := HA7.out
              rw [← HVK.out] at h7
              have HGSi := own_grown HGS.out hGv (HVG.out k)
              have HC0 : ∃ z, wr.cell? ⟨G, k, none⟩ = some z := by
                have hl : k < gs.length := by rw [HGL.out]; exact hlt
                exact ⟨gs[k], by have := HGSi.cells (g := G) rfl k gs[k] (List.getElem?_eq_getElem hl); rwa [add_plain] at this⟩
              obtain ⟨z0, hz0⟩ := HC0
              have hzf := HGSi.frozenAt k
              obtain ⟨hst, hgr⟩ := HGSi.stored k (.slice A7 (n + 64) c7)
              have HST := Aside0.mk hst
              have HGR' := Aside0.mk hgr
              have HGV := Aside0.mk hGv
              have H7 := Aside0.mk h7
              have HGSI := Aside0.mk HGSi
              have HGB : Aside0 (base ≤ G) := ⟨(HGS.out.lt G rfl).1⟩
              clear hst hgr hGv h7 HGSi
              go_wp2
              have hkg : k < gs.length := by rw [HGL.out]; exact hlt
              have hset : ∀ j, at_ (gs.set k (.slice A7 (n + 64) c7)) j = if j = k then .slice A7 (n + 64) c7 else at_ gs j := fun j => by
                unfold at_
                rw [List.getD_eq_getElem?_getD, List.getD_eq_getElem?_getD, List.getElem?_set]
                by_cases e : j = k
                · subst e; simp [hkg]
                · rw [if_neg (fun h => e h.symm), if_neg e]
              have dV : ∀ i, i ≠ k → disj (at_ vs i) (.slice A7 (n + 64) c7) := fun i hi => by
                by_cases hl : i < vs.length
                · exact disj_step H7.out (HR.out i hl) (HA.out i k hi)
                · refine .inl ?_
                  unfold at_
                  rw [List.getD_eq_getElem?_getD, List.getElem?_eq_none (by omega)]
                  rfl
              have dG : ∀ j, j < k → disj (at_ gs j) (.slice A7 (n + 64) c7) := fun j hj => disj_step H7.out (HGR.out j hj) (HD1.out k j hj (by omega)).symm
              have dH : disj (.slice (some ⟨G, 0, none⟩) vs.length vs.length) (.slice A7 (n + 64) c7) := disj_step H7.out HGS.out (HVG.out k)
              have dL : disj (.slice (some ⟨L, 0, none⟩) vs.length c) (.slice A7 (n + 64) c7) := disj_step H7.out HO.out (HS.out k)
              have R1 : Aside0 (∀ j, j < k + 1 → (wr.setCell ⟨G, k, none⟩ (.slice A7 (n + 64) c7)).ownsRow base 48 3 (at_ (gs.set k (.slice A7 (n + 64) c7)) j) (ns.getD j 0 + 64) (CH j (ns.getD j 0 + 64))) := ⟨fun j hj => by
                rw [hset]
                by_cases e : j = k
                · subst e
                  rw [if_pos rfl, HNK.out]
                  exact own_grown HQ.out (u := .slice (some ⟨G, 0, none⟩) vs.length vs.length) HGR'.out dH.symm
                · rw [if_neg e]
                  exact own_grown (own_grown (HGR.out j (by omega)) HGV.out (HD1.out k j (by omega) (by omega)).symm) (u := .slice (some ⟨G, 0, none⟩) vs.length vs.length) HGR'.out (HD3.out j (by omega)).symm⟩
              have R2 : Aside0 (∀ i j, j < k + 1 → i ≠ j → disj (at_ vs i) (at_ (gs.set k (.slice A7 (n + 64) c7)) j)) := ⟨fun i j hj hij => by
                rw [hset]
                by_cases e : j = k
                · subst e; rw [if_pos rfl]; exact dV i hij
                · rw [if_neg e]; exact HD1.out i j (by omega) hij⟩
              have R3 : Aside0 (∀ i j, i < k + 1 → j < k + 1 → i ≠ j → disj (at_ (gs.set k (.slice A7 (n + 64) c7)) i) (at_ (gs.set k (.slice A7 (n + 64) c7)) j)) := ⟨fun i j hi hj hij => by
                rw [hset, hset]
                by_cases e : j = k
                · subst e; rw [if_pos rfl, if_neg hij]; exact dG i (by omega)
                · by_cases e2 : i = k
                  · subst e2; rw [if_pos rfl, if_neg e]; exact (dG j (by omega)).symm
                  · rw [if_neg e, if_neg e2]; exact HD2.out i j (by omega) (by omega) hij⟩
              have R4 : Aside0 (∀ j, j < k + 1 → disj (.slice (some ⟨G, 0, none⟩) vs.length vs.length) (at_ (gs.set k (.slice A7 (n + 64) c7)) j)) := ⟨fun j hj => by
                rw [hset]
                by_cases e : j = k
                · subst e; rw [if_pos rfl]; exact dH
                · rw [if_neg e]; exact HD3.out j (by omega)⟩
              have R5 : Aside0 (∀ j, j < k + 1 → disj (.slice (some ⟨L, 0, none⟩) vs.length c) (at_ (gs.set k (.slice A7 (n + 64) c7)) j)) := ⟨fun j hj => by
                rw [hset]
                by_cases e : j = k
                · subst e; rw [if_pos rfl]; exact dL
                · rw [if_neg e]; exact HD4.out j (by omega)⟩
              have R6 := Aside0.mk (own_grown (own_grown HO.out HGV.out (HS.out k)) (u := .slice (some ⟨G, 0, none⟩) vs.length vs.length) HGR'.out HLG.out)
              have R7 : Aside0 (RowsO (wr.setCell ⟨G, k, none⟩ (.slice A7 (n + 64) c7)) base 48 3 vs ns (fun j => CH j (ns.getD j 0))) := ⟨fun j hj => by
                by_cases e : j = k
                · subst e
                  have := HV.out
                  rw [← HVK.out, ← HNK.out] at this
                  exact own_grown this (u := .slice (some ⟨G, 0, none⟩) vs.length vs.length) HGR'.out (HVG.out j).symm
                · exact own_grown (own_grown (HR.out j hj) HGV.out (HA.out j k e)) (u := .slice (some ⟨G, 0, none⟩) vs.length vs.length) HGR'.out (HVG.out j).symm⟩
              have R8 : Aside0 (Below base w (wr.setCell ⟨G, k, none⟩ (.slice A7 (n + 64) c7))) := ⟨HBi.out.setCell HGB.out _⟩
              have R9 : Aside0 (KQ w (wr.setCell ⟨G, k, none⟩ (.slice A7 (n + 64) c7)) vs) := ⟨(HKQ.out.step HB.out.size HGV.out (fun q e => .inr ⟨k, e⟩)).step HBi.out.size HGR'.out (fun q e => .inl (by injection e with e; subst e; exact HGW.out))⟩
              have R0 : Aside0 ((gs.set k (.slice A7 (n + 64) c7)).length = vs.length) := ⟨by rw [List.length_set]; exact HGL.out⟩
              clear hset dV dG dH dL
              go_roundw
              case rel => exact ⟨k + 1, _, by omega, by go_num, R0, R1, R2, R3, R4, R5, R6, HST, R7, R8, R9⟩
              case measure => simp [intOf]; omega
        · obtain rfl : k = vs.length := by omega
          go_wp2
          obtain ⟨W2, hW2⟩ : ∃ x, x = wr := ⟨_, rfl⟩
          subst hW2
          go_loopw [2, 9] (fun v2 v9 wr => ∃ (k : Nat), k ≤ vs.length ∧ v2 = .bool false ∧ v9 = .int .i64 (k : Int) ∧ Aside0 (Below W2.heap.size W2 wr)) (fun _ v9 _ => vs.length - (intOf v9).toNat)
          case atStart => exact ⟨0, Nat.zero_le _, rfl, rfl, ⟨Below.refl _ _⟩⟩
          case round =>
            obtain ⟨k, hk, rfl, rfl, HB3⟩ := hrel
            by_cases hlt : k < vs.length
            · obtain ⟨L, c', hLv, hLb, hLl⟩ := HO.out.form (by omega)
              injection hLv with e1 _ e2
              subst e1 e2
              have hx00 : W2.cell? ⟨L, k, none⟩ = some (at_ vs k) := by
                have := HO.out.cells (g := L) rfl k (at_ vs k) (by unfold at_; rw [List.getD_eq_getElem?_getD, List.getElem?_eq_getElem hlt]; rfl)
                rwa [add_plain] at this
              have hg00 : W2.cell? ⟨G, k, none⟩ = some (at_ gs k) := by
                have := HGS.out.cells (g := G) rfl k (at_ gs k) (by unfold at_; rw [List.getD_eq_getElem?_getD, List.getElem?_eq_getElem (by rw [HGL.out]; exact hlt)]; rfl)
                rwa [add_plain] at this
              have hk0 := HR.out k hlt
              have hj0 := HGR.out k hlt
              obtain ⟨n, hnk⟩ : ∃ n, ns.getD k 0 = n := ⟨_, rfl⟩
              have hn64 := HN.out k
              simp only [hnk] at hk0 hj0 hn64
              clear hnk
              obtain ⟨Ak, ck, hvk⟩ := own_slice hk0
              obtain ⟨bg, cg, hvg, hgb, hgl⟩ := hj0.form (by omega)
              rw [hvk] at hx00 hk0
              rw [hvg] at hg00 hj0
              have HK0 := Aside0.mk hk0
              have HJ0 := Aside0.mk hj0
              clear hvk hvg hk0 hj0
              have hx01 := pw_cell_below HB3.out hx00
              have hg01 := pw_cell_below HB3.out hg00
              go_wp2
              go_loopw [2, 10] (fun v2 v10 wr => ∃ (j : Nat), j ≤ n + 64 ∧ v2 = .bool false ∧ v10 = .int .i64 (j : Int) ∧ Aside0 (Below W2.heap.size W2 wr)) (fun _ v10 _ => n + 64 - (intOf v10).toNat)
              case atStart => exact ⟨0, Nat.zero_le _, rfl, rfl, HB3⟩
              case round =>
                clear HB3 hx01 hg01
                obtain ⟨j, hj, rfl, rfl, HB⟩ := hrel
                have hx0 := pw_cell_below HB.out hx00
                have hg0 := pw_cell_below HB.out hg00
                by_cases hlj : j < n + 64
                · have hlj' : (j : Int) < (n : Int) + 64 := by omega
                  have hg1 : wr.cell? ⟨bg, j * 3, none⟩ = some (.int .i64 0) := pw_cell_below HB.out (by
                    have := HJ0.out.cells (g := bg) rfl (j * 3) _ (CH_get0 _ hlj); rwa [add_plain] at this)
                  have hg2 : wr.cell? ⟨bg, j * 3 + 1, none⟩ = some (.int .i64 0) := pw_cell_below HB.out (by
                    have := HJ0.out.cells (g := bg) rfl (j * 3 + 1) _ (CH_get1 _ hlj); rwa [add_plain] at this)
                  have hg3 : wr.cell? ⟨bg, j * 3 + 2, none⟩ = some (.int .i64 (mkI (k : Int) (j : Int))) := pw_cell_below HB.out (by
                    have := HJ0.out.cells (g := bg) rfl (j * 3 + 2) _ (CH_get2 _ hlj); rwa [add_plain] at this)
                  go_wp2
                  by_cases hjn : j < n
                  · obtain ⟨bv, ck', hbv, hbb, hbl⟩ := HK0.out.form (by omega)
                    injection hbv with e1 _ e2
                    subst e1 e2
                    have hx1 : wr.cell? ⟨bv, j * 3, none⟩ = some (.int .i64 0) := pw_cell_below HB.out (by
                      have := HK0.out.cells (g := bv) rfl (j * 3) _ (CH_get0 _ hjn); rwa [add_plain] at this)
                    have hx2 : wr.cell? ⟨bv, j * 3 + 1, none⟩ = some (.int .i64 0) := pw_cell_below HB.out (by
                      have := HK0.out.cells (g := bv) rfl (j * 3 + 1) _ (CH_get1 _ hjn); rwa [add_plain] at this)
                    have hx3 : wr.cell? ⟨bv, j * 3 + 2, none⟩ = some (.int .i64 (mkI (k : Int) (j : Int))) := pw_cell_below HB.out (by
                      have := HK0.out.cells (g := bv) rfl (j * 3 + 2) _ (CH_get2 _ hjn); rwa [add_plain] at this)
                    refine start_ (n := 35) (S := fun w' => Below W2.heap.size W2 w' ∧ w'.cell? ⟨G, k, none⟩ = some (.slice (some ⟨bg, 0, none⟩) (n + 64) cg) ∧ w'.cell? ⟨bg, j * 3, none⟩ = some (.int .i64 0) ∧ w'.cell? ⟨bg, j * 3 + 1, none⟩ = some (.int .i64 0) ∧ w'.cell? ⟨bg, j * 3 + 2, none⟩ = some (.int .i64 (mkI (k : Int) (j : Int))) ∧ w'.cell? ⟨L, k, none⟩ = some (.slice (some ⟨bv, 0, none⟩) n ck) ∧ w'.cell? ⟨bv, j * 3, none⟩ = some (.int .i64 0) ∧ w'.cell? ⟨bv, j * 3 + 1, none⟩ = some (.int .i64 0) ∧ w'.cell? ⟨bv, j * 3 + 2, none⟩ = some (.int .i64 (mkI (k : Int) (j : Int)))) (ds := []) #[false, false, false, false, false, false, false, false, false, false, false, false, false, false, false, false, false, false, false, false, false, false, false, false, false, false, false, false, false, false, false, false, false, false, false] (by kernel_rfl) rfl rfl ⟨(below_drew HB.out), hg0, hg1, hg2, hg3, hx0, hx1, hx2, hx3⟩ (fun hHeld => ?_)
                    refine pure_ (i := 0) (N := some 88) (v := ?_) (a' := ?_) #[true, false, false, false, false, false, false, false, false, false, false, false, false, false, false, false, false, false, false, false, false, false, false, false, false, false, false, false, false, false, false, false, false, false, false] rfl rfl (by kernel_rfl) (fun _ _ _ h => h) (Or.inl ⟨by rfl, ?_⟩) ?_ ?_
                    rotate_left
                    · intro w'
                      go_simp
                      with_reducible rfl
                    rotate_left
                    · simp only [Act.put, List.setIfInBounds_toArray, List.set_cons_zero, List.set_cons_succ, i64_w, i32_w]
                      rfl
                    refine pure_ (i := 1) (N := some 89) (v := ?_) (a' := ?_) #[true, true, false, false, false, false, false, false, false, false, false, false, false, false, false, false, false, false, false, false, false, false, false, false, false, false, false, false, false, false, false, false, false, false, false] rfl rfl (by kernel_rfl) (fun _ _ _ h => h) (Or.inl ⟨by rfl, ?_⟩) ?_ ?_
                    rotate_left
                    · intro w'
                      go_simp
                      with_reducible rfl
                    rotate_left
                    · simp only [Act.put, List.setIfInBounds_toArray, List.set_cons_zero, List.set_cons_succ, i64_w, i32_w]
                      rfl
                    refine pure_ (i := 2) (N := some 90) (v := ?_) (a' := ?_) #[true, true, true, false, false, false, false, false, false, false, false, false, false, false, false, false, false, false, false, false, false, false, false, false, false, false, false, false, false, false, false, false, false, false, false] rfl rfl (by kernel_rfl) (fun _ _ _ h => h) (Or.inl ⟨by rfl, ?_⟩) ?_ ?_
                    rotate_left
                    · intro w'
                      go_simp
                      with_reducible rfl
                    rotate_left
                    · simp only [Act.put, List.setIfInBounds_toArray, List.set_cons_zero, List.set_cons_succ, i64_w, i32_w]
                      rfl
                    refine pure_ (i := 4) (N := some 92) (v := ?_) (a' := ?_) #[true, true, true, false, true, false, false, false, false, false, false, false, false, false, false, false, false, false, false, false, false, false, false, false, false, false, false, false, false, false, false, false, false, false, false] rfl rfl (by kernel_rfl) (fun _ _ _ h => h) (Or.inl ⟨by rfl, ?_⟩) ?_ ?_
                    rotate_left
                    · intro w'
                      go_simp
                      with_reducible rfl
                    rotate_left
                    · simp only [Act.put, List.setIfInBounds_toArray, List.set_cons_zero, List.set_cons_succ, i64_w, i32_w]
                      rfl
                    refine pure_ (i := 7) (N := some 95) (v := ?_) (a' := ?_) #[true, true, true, false, true, false, false, true, false, false, false, false, false, false, false, false, false, false, false, false, false, false, false, false, false, false, false, false, false, false, false, false, false, false, false] rfl rfl (by kernel_rfl) (fun _ _ _ h => h) (Or.inl ⟨by rfl, ?_⟩) ?_ ?_
                    rotate_left
                    · intro w'
                      go_simp
                      with_reducible rfl
                    rotate_left
                    · simp only [Act.put, List.setIfInBounds_toArray, List.set_cons_zero, List.set_cons_succ, i64_w, i32_w]
                      rfl
                    refine pure_ (i := 8) (N := some 96) (v := ?_) (a' := ?_) #[true, true, true, false, true, false, false, true, true, false, false, false, false, false, false, false, false, false, false, false, false, false, false, false, false, false, false, false, false, false, false, false, false, false, false] rfl rfl (by kernel_rfl) (fun _ _ _ h => h) (Or.inl ⟨by rfl, ?_⟩) ?_ ?_
                    rotate_left
                    · intro w'
                      go_simp
                      with_reducible rfl
                    rotate_left
                    · simp only [Act.put, List.setIfInBounds_toArray, List.set_cons_zero, List.set_cons_succ, i64_w, i32_w]
                      rfl
                    refine take_ (i := 3) (N := some 91) (v := ?_) (a' := ?_) #[true, true, true, true, true, false, false, true, true, false, false, false, false, false, false, false, false, false, false, false, false, false, false, false, false, false, false, false, false, false, false, false, false, false, false] rfl rfl (by kernel_rfl) (fun _ _ _ h => h) (Or.inl ⟨by rfl, ?_⟩) hHeld ?_ ?_
                    rotate_left
                    · rintro w' ⟨s0, s1, s2, s3, s4, s5, s6, s7, s8⟩
                      go_simp
                      with_reducible rfl
                    rotate_left
                    · simp only [Act.put, List.setIfInBounds_toArray, List.set_cons_zero, List.set_cons_succ, i64_w, i32_w]
                      rfl
                    refine pure_ (i := 5) (N := some 93) (v := ?_) (a' := ?_) #[true, true, true, true, true, true, false, true, true, false, false, false, false, false, false, false, false, false, false, false, false, false, false, false, false, false, false, false, false, false, false, false, false, false, false] rfl rfl (by kernel_rfl) (fun _ _ _ h => h) (Or.inl ⟨by rfl, ?_⟩) ?_ ?_
                    rotate_left
                    · intro w'
                      go_simp
                      with_reducible rfl
                    rotate_left
                    · simp only [Act.put, List.setIfInBounds_toArray, List.set_cons_zero, List.set_cons_succ, i64_w, i32_w]
                      rfl
                    refine take_ (i := 6) (N := some 94) (v := ?_) (a' := ?_) #[true, true, true, true, true, true, true, true, true, false, false, false, false, false, false, false, false, false, false, false, false, false, false, false, false, false, false, false, false, false, false, false, false, false, false] rfl rfl (by kernel_rfl) (fun _ _ _ h => h) (Or.inl ⟨by rfl, ?_⟩) hHeld ?_ ?_
                    rotate_left
                    · rintro w' ⟨s0, s1, s2, s3, s4, s5, s6, s7, s8⟩
                      go_simp
                      with_reducible rfl
                    rotate_left
                    · simp only [Act.put, List.setIfInBounds_toArray, List.set_cons_zero, List.set_cons_succ, i64_w, i32_w]
                      rfl
                    refine one_ (i := 9) (N := some 97) #[true, true, true, true, true, true, true, true, true, true, false, false, false, false, false, false, false, false, false, false, false, false, false, false, false, false, false, false, false, false, false, false, false, false, false] rfl rfl (by kernel_rfl) (by decide) (fun K hK => ?_)
                    refine goes_ Tryz.func90 (by kernel_rfl) rfl #[.int .i64 (k : Int), .int .i64 (j : Int)] (by rfl) rfl rfl (by simp only [List.map_toArray, List.map_cons, List.map_nil]; rfl) ?_
                    with_reducible refine (mark_home (k : Int) (j : Int) _ (by omega) (by omega) (by omega) (by omega)).mono ?_
                    rintro e w3 ⟨rfl, hb3⟩
                    refine ⟨_, rfl, ?_⟩
                    refine hK.out _ _ ⟨(below_then hHeld.1 hHeld.1.size hb3), (pw_cell_below hb3 hHeld.2.1), (pw_cell_below hb3 hHeld.2.2.1), (pw_cell_below hb3 hHeld.2.2.2.1), (pw_cell_below hb3 hHeld.2.2.2.2.1), (pw_cell_below hb3 hHeld.2.2.2.2.2.1), (pw_cell_below hb3 hHeld.2.2.2.2.2.2.1), (pw_cell_below hb3 hHeld.2.2.2.2.2.2.2.1), (pw_cell_below hb3 hHeld.2.2.2.2.2.2.2.2)⟩ (fun hHeld => ?_)
                    clear hK K
                    refine norm_ (a' := ?_) ?_ ?_
                    rotate_left
                    · show Act.put _ (some 97) _ = _
                      simp only [Act.put, List.setIfInBounds_toArray, List.set_cons_zero, List.set_cons_succ, i64_w, i32_w]
                      rfl
                    refine pure_ (i := 10) (N := some 98) (v := ?_) (a' := ?_) #[true, true, true, true, true, true, true, true, true, true, true, false, false, false, false, false, false, false, false, false, false, false, false, false, false, false, false, false, false, false, false, false, false, false, false] rfl rfl (by kernel_rfl) (fun _ _ _ h => h) (Or.inl ⟨by rfl, ?_⟩) ?_ ?_
                    rotate_left
                    · intro w'
                      refine (exec_eql48 (x := .tmp 94) (y := .tmp 97) (yt := 48) (a := 0) (b := 0) (c := mkI (k : Int) (j : Int)) w' rfl rfl rfl).trans ?_
                      with_reducible rfl
                    rotate_left
                    · simp only [Act.put, List.setIfInBounds_toArray, List.set_cons_zero, List.set_cons_succ, i64_w, i32_w]
                      rfl
                    refine pure_ (i := 11) (N := some 99) (v := ?_) (a' := ?_) #[true, true, true, true, true, true, true, true, true, true, true, true, false, false, false, false, false, false, false, false, false, false, false, false, false, false, false, false, false, false, false, false, false, false, false] rfl rfl (by kernel_rfl) (fun _ _ _ h => h) (Or.inl ⟨by rfl, ?_⟩) ?_ ?_
                    rotate_left
                    · intro w'
                      go_simp
                      with_reducible rfl
                    rotate_left
                    · simp only [Act.put, List.setIfInBounds_toArray, List.set_cons_zero, List.set_cons_succ, i64_w, i32_w]
                      rfl
                    refine pure_ (i := 12) (N := some 100) (v := ?_) (a' := ?_) #[true, true, true, true, true, true, true, true, true, true, true, true, true, false, false, false, false, false, false, false, false, false, false, false, false, false, false, false, false, false, false, false, false, false, false] rfl rfl (by kernel_rfl) (fun _ _ _ h => h) (Or.inl ⟨by rfl, ?_⟩) ?_ ?_
                    rotate_left
                    · intro w'
                      go_simp
                      with_reducible rfl
                    rotate_left
                    · simp only [Act.put, List.setIfInBounds_toArray, List.set_cons_zero, List.set_cons_succ, i64_w, i32_w]
                      rfl
                    refine pure_ (i := 13) (N := some 101) (v := ?_) (a' := ?_) #[true, true, true, true, true, true, true, true, true, true, true, true, true, true, false, false, false, false, false, false, false, false, false, false, false, false, false, false, false, false, false, false, false, false, false] rfl rfl (by kernel_rfl) (fun _ _ _ h => h) (Or.inl ⟨by rfl, ?_⟩) ?_ ?_
                    rotate_left
                    · intro w'
                      go_simp
                      with_reducible rfl
                    rotate_left
                    · simp only [Act.put, List.setIfInBounds_toArray, List.set_cons_zero, List.set_cons_succ, i64_w, i32_w]
                      rfl
                    refine pure_ (i := 14) (N := some 102) (v := ?_) (a' := ?_) #[true, true, true, true, true, true, true, true, true, true, true, true, true, true, true, false, false, false, false, false, false, false, false, false, false, false, false, false, false, false, false, false, false, false, false] rfl rfl (by kernel_rfl) (fun _ _ _ h => h) (Or.inl ⟨by rfl, ?_⟩) ?_ ?_
                    rotate_left
                    · intro w'
                      go_simp
                      with_reducible rfl
                    rotate_left
                    · simp only [Act.put, List.setIfInBounds_toArray, List.set_cons_zero, List.set_cons_succ, i64_w, i32_w]
                      rfl
                    refine pure_ (i := 15) (N := some 103) (v := ?_) (a' := ?_) #[true, true, true, true, true, true, true, true, true, true, true, true, true, true, true, true, false, false, false, false, false, false, false, false, false, false, false, false, false, false, false, false, false, false, false] rfl rfl (by kernel_rfl) (fun _ _ _ h => h) (Or.inl ⟨by rfl, ?_⟩) ?_ ?_
                    rotate_left
                    · intro w'
                      go_simp
                      with_reducible rfl
                    rotate_left
                    · simp only [Act.put, List.setIfInBounds_toArray, List.set_cons_zero, List.set_cons_succ, i64_w, i32_w]
                      rfl
                    refine pure_ (i := 16) (N := some 104) (v := ?_) (a' := ?_) #[true, true, true, true, true, true, true, true, true, true, true, true, true, true, true, true, true, false, false, false, false, false, false, false, false, false, false, false, false, false, false, false, false, false, false] rfl rfl (by kernel_rfl) (fun _ _ _ h => h) (Or.inl ⟨by rfl, ?_⟩) ?_ ?_
                    rotate_left
                    · intro w'
                      go_simp
                      with_reducible rfl
                    rotate_left
                    · simp only [Act.put, List.setIfInBounds_toArray, List.set_cons_zero, List.set_cons_succ, i64_w, i32_w]
                      rfl
                    refine take_ (i := 17) (N := some 105) (v := ?_) (a' := ?_) #[true, true, true, true, true, true, true, true, true, true, true, true, true, true, true, true, true, true, false, false, false, false, false, false, false, false, false, false, false, false, false, false, false, false, false] rfl rfl (by kernel_rfl) (fun _ _ _ h => h) (Or.inl ⟨by rfl, ?_⟩) hHeld ?_ ?_
                    rotate_left
                    · rintro w' ⟨s0, s1, s2, s3, s4, s5, s6, s7, s8⟩
                      go_simp
                      with_reducible rfl
                    rotate_left
                    · simp only [Act.put, List.setIfInBounds_toArray, List.set_cons_zero, List.set_cons_succ, i64_w, i32_w]
                      rfl
                    refine pure_ (i := 18) (N := some 106) (v := ?_) (a' := ?_) #[true, true, true, true, true, true, true, true, true, true, true, true, true, true, true, true, true, true, true, false, false, false, false, false, false, false, false, false, false, false, false, false, false, false, false] rfl rfl (by kernel_rfl) (fun _ _ _ h => h) (Or.inl ⟨by rfl, ?_⟩) ?_ ?_
                    rotate_left
                    · intro w'
                      go_simp
                      with_reducible rfl
                    rotate_left
                    · simp only [Act.put, List.setIfInBounds_toArray, List.set_cons_zero, List.set_cons_succ, i64_w, i32_w]
                      rfl
                    refine pure_ (i := 19) (N := some 107) (v := ?_) (a' := ?_) #[true, true, true, true, true, true, true, true, true, true, true, true, true, true, true, true, true, true, true, true, false, false, false, false, false, false, false, false, false, false, false, false, false, false, false] rfl rfl (by kernel_rfl) (fun _ _ _ h => h) (Or.inl ⟨by rfl, ?_⟩) ?_ ?_
                    rotate_left
                    · intro w'
                      go_simp
                      with_reducible rfl
                    rotate_left
                    · simp only [Act.put, List.setIfInBounds_toArray, List.set_cons_zero, List.set_cons_succ, i64_w, i32_w]
                      rfl
                    refine pure_ (i := 20) (N := some 108) (v := ?_) (a' := ?_) #[true, true, true, true, true, true, true, true, true, true, true, true, true, true, true, true, true, true, true, true, true, false, false, false, false, false, false, false, false, false, false, false, false, false, false] rfl rfl (by kernel_rfl) (fun _ _ _ h => h) (Or.inl ⟨by rfl, ?_⟩) ?_ ?_
                    rotate_left
                    · intro w'
                      go_simp
                      with_reducible rfl
                    rotate_left
                    · simp only [Act.put, List.setIfInBounds_toArray, List.set_cons_zero, List.set_cons_succ, i64_w, i32_w]
                      rfl
                    refine pure_ (i := 21) (N := some 109) (v := ?_) (a' := ?_) #[true, true, true, true, true, true, true, true, true, true, true, true, true, true, true, true, true, true, true, true, true, true, false, false, false, false, false, false, false, false, false, false, false, false, false] rfl rfl (by kernel_rfl) (fun _ _ _ h => h) (Or.inl ⟨by rfl, ?_⟩) ?_ ?_
                    rotate_left
                    · intro w'
                      go_simp
                      with_reducible rfl
                    rotate_left
                    · simp only [Act.put, List.setIfInBounds_toArray, List.set_cons_zero, List.set_cons_succ, i64_w, i32_w]
                      rfl
                    refine pure_ (i := 22) (N := some 110) (v := ?_) (a' := ?_) #[true, true, true, true, true, true, true, true, true, true, true, true, true, true, true, true, true, true, true, true, true, true, true, false, false, false, false, false, false, false, false, false, false, false, false] rfl rfl (by kernel_rfl) (fun _ _ _ h => h) (Or.inl ⟨by rfl, ?_⟩) ?_ ?_
                    rotate_left
                    · intro w'
                      go_simp
                      with_reducible rfl
                    rotate_left
                    · simp only [Act.put, List.setIfInBounds_toArray, List.set_cons_zero, List.set_cons_succ, i64_w, i32_w]
                      rfl
                    refine pure_ (i := 23) (N := some 111) (v := ?_) (a' := ?_) #[true, true, true, true, true, true, true, true, true, true, true, true, true, true, true, true, true, true, true, true, true, true, true, true, false, false, false, false, false, false, false, false, false, false, false] rfl rfl (by kernel_rfl) (fun _ _ _ h => h) (Or.inl ⟨by rfl, ?_⟩) ?_ ?_
                    rotate_left
                    · intro w'
                      go_simp
                      with_reducible rfl
                    rotate_left
                    · simp only [Act.put, List.setIfInBounds_toArray, List.set_cons_zero, List.set_cons_succ, i64_w, i32_w]
                      rfl
                    refine pure_ (i := 25) (N := some 113) (v := ?_) (a' := ?_) #[true, true, true, true, true, true, true, true, true, true, true, true, true, true, true, true, true, true, true, true, true, true, true, true, false, true, false, false, false, false, false, false, false, false, false] rfl rfl (by kernel_rfl) (fun _ _ _ h => h) (Or.inl ⟨by rfl, ?_⟩) ?_ ?_
                    rotate_left
                    · intro w'
                      go_simp
                      with_reducible rfl
                    rotate_left
                    · simp only [Act.put, List.setIfInBounds_toArray, List.set_cons_zero, List.set_cons_succ, i64_w, i32_w]
                      rfl
                    refine pure_ (i := 28) (N := some 116) (v := ?_) (a' := ?_) #[true, true, true, true, true, true, true, true, true, true, true, true, true, true, true, true, true, true, true, true, true, true, true, true, false, true, false, false, true, false, false, false, false, false, false] rfl rfl (by kernel_rfl) (fun _ _ _ h => h) (Or.inl ⟨by rfl, ?_⟩) ?_ ?_
                    rotate_left
                    · intro w'
                      go_simp
                      with_reducible rfl
                    rotate_left
                    · simp only [Act.put, List.setIfInBounds_toArray, List.set_cons_zero, List.set_cons_succ, i64_w, i32_w]
                      rfl
                    refine pure_ (i := 29) (N := some 117) (v := ?_) (a' := ?_) #[true, true, true, true, true, true, true, true, true, true, true, true, true, true, true, true, true, true, true, true, true, true, true, true, false, true, false, false, true, true, false, false, false, false, false] rfl rfl (by kernel_rfl) (fun _ _ _ h => h) (Or.inl ⟨by rfl, ?_⟩) ?_ ?_
                    rotate_left
                    · intro w'
                      go_simp
                      with_reducible rfl
                    rotate_left
                    · simp only [Act.put, List.setIfInBounds_toArray, List.set_cons_zero, List.set_cons_succ, i64_w, i32_w]
                      rfl
                    refine take_ (i := 24) (N := some 112) (v := ?_) (a' := ?_) #[true, true, true, true, true, true, true, true, true, true, true, true, true, true, true, true, true, true, true, true, true, true, true, true, true, true, false, false, true, true, false, false, false, false, false] rfl rfl (by kernel_rfl) (fun _ _ _ h => h) (Or.inl ⟨by rfl, ?_⟩) hHeld ?_ ?_
                    rotate_left
                    · rintro w' ⟨s0, s1, s2, s3, s4, s5, s6, s7, s8⟩
                      go_simp
                      with_reducible rfl
                    rotate_left
                    · simp only [Act.put, List.setIfInBounds_toArray, List.set_cons_zero, List.set_cons_succ, i64_w, i32_w]
                      rfl
                    refine pure_ (i := 26) (N := some 114) (v := ?_) (a' := ?_) #[true, true, true, true, true, true, true, true, true, true, true, true, true, true, true, true, true, true, true, true, true, true, true, true, true, true, true, false, true, true, false, false, false, false, false] rfl rfl (by kernel_rfl) (fun _ _ _ h => h) (Or.inl ⟨by rfl, ?_⟩) ?_ ?_
                    rotate_left
                    · intro w'
                      go_simp
                      with_reducible rfl
                    rotate_left
                    · simp only [Act.put, List.setIfInBounds_toArray, List.set_cons_zero, List.set_cons_succ, i64_w, i32_w]
                      rfl
                    refine take_ (i := 27) (N := some 115) (v := ?_) (a' := ?_) #[true, true, true, true, true, true, true, true, true, true, true, true, true, true, true, true, true, true, true, true, true, true, true, true, true, true, true, true, true, true, false, false, false, false, false] rfl rfl (by kernel_rfl) (fun _ _ _ h => h) (Or.inl ⟨by rfl, ?_⟩) hHeld ?_ ?_
                    rotate_left
                    · rintro w' ⟨s0, s1, s2, s3, s4, s5, s6, s7, s8⟩
                      go_simp
                      with_reducible rfl
                    rotate_left
                    · simp only [Act.put, List.setIfInBounds_toArray, List.set_cons_zero, List.set_cons_succ, i64_w, i32_w]
                      rfl
                    refine one_ (i := 30) (N := some 118) #[true, true, true, true, true, true, true, true, true, true, true, true, true, true, true, true, true, true, true, true, true, true, true, true, true, true, true, true, true, true, true, false, false, false, false] rfl rfl (by kernel_rfl) (by decide) (fun K hK => ?_)
                    refine goes_ Tryz.func90 (by kernel_rfl) rfl #[.int .i64 (k : Int), .int .i64 (j : Int)] (by rfl) rfl rfl (by simp only [List.map_toArray, List.map_cons, List.map_nil]; rfl) ?_
                    with_reducible refine (mark_home (k : Int) (j : Int) _ (by omega) (by omega) (by omega) (by omega)).mono ?_
                    rintro e w3 ⟨rfl, hb3⟩
                    refine ⟨_, rfl, ?_⟩
                    refine hK.out _ _ ⟨(below_then hHeld.1 hHeld.1.size hb3), (pw_cell_below hb3 hHeld.2.1), (pw_cell_below hb3 hHeld.2.2.1), (pw_cell_below hb3 hHeld.2.2.2.1), (pw_cell_below hb3 hHeld.2.2.2.2.1), (pw_cell_below hb3 hHeld.2.2.2.2.2.1), (pw_cell_below hb3 hHeld.2.2.2.2.2.2.1), (pw_cell_below hb3 hHeld.2.2.2.2.2.2.2.1), (pw_cell_below hb3 hHeld.2.2.2.2.2.2.2.2)⟩ (fun hHeld => ?_)
                    clear hK K
                    refine norm_ (a' := ?_) ?_ ?_
                    rotate_left
                    · show Act.put _ (some 118) _ = _
                      simp only [Act.put, List.setIfInBounds_toArray, List.set_cons_zero, List.set_cons_succ, i64_w, i32_w]
                      rfl
                    refine pure_ (i := 31) (N := some 119) (v := ?_) (a' := ?_) #[true, true, true, true, true, true, true, true, true, true, true, true, true, true, true, true, true, true, true, true, true, true, true, true, true, true, true, true, true, true, true, true, false, false, false] rfl rfl (by kernel_rfl) (fun _ _ _ h => h) (Or.inl ⟨by rfl, ?_⟩) ?_ ?_
                    rotate_left
                    · intro w'
                      refine (exec_eql48 (x := .tmp 115) (y := .tmp 118) (yt := 48) (a := 0) (b := 0) (c := mkI (k : Int) (j : Int)) w' rfl rfl rfl).trans ?_
                      with_reducible rfl
                    rotate_left
                    · simp only [Act.put, List.setIfInBounds_toArray, List.set_cons_zero, List.set_cons_succ, i64_w, i32_w]
                      rfl
                    refine pure_ (i := 32) (N := some 120) (v := ?_) (a' := ?_) #[true, true, true, true, true, true, true, true, true, true, true, true, true, true, true, true, true, true, true, true, true, true, true, true, true, true, true, true, true, true, true, true, true, false, false] rfl rfl (by kernel_rfl) (fun _ _ _ h => h) (Or.inl ⟨by rfl, ?_⟩) ?_ ?_
                    rotate_left
                    · intro w'
                      go_simp
                      with_reducible rfl
                    rotate_left
                    · simp only [Act.put, List.setIfInBounds_toArray, List.set_cons_zero, List.set_cons_succ, i64_w, i32_w]
                      rfl
                    refine pure_ (i := 33) (N := some 121) (v := ?_) (a' := ?_) #[true, true, true, true, true, true, true, true, true, true, true, true, true, true, true, true, true, true, true, true, true, true, true, true, true, true, true, true, true, true, true, true, true, true, false] rfl rfl (by kernel_rfl) (fun _ _ _ h => h) (Or.inl ⟨by rfl, ?_⟩) ?_ ?_
                    rotate_left
                    · intro w'
                      go_simp
                      with_reducible rfl
                    rotate_left
                    · simp only [Act.put, List.setIfInBounds_toArray, List.set_cons_zero, List.set_cons_succ, i64_w, i32_w]
                      rfl
                    refine pure_ (i := 34) (N := some 122) (v := ?_) (a' := ?_) #[true, true, true, true, true, true, true, true, true, true, true, true, true, true, true, true, true, true, true, true, true, true, true, true, true, true, true, true, true, true, true, true, true, true, true] rfl rfl (by kernel_rfl) (fun _ _ _ h => h) (Or.inl ⟨by rfl, ?_⟩) ?_ ?_
                    rotate_left
                    · intro w'
                      go_simp
                      with_reducible rfl
                    rotate_left
                    · simp only [Act.put, List.setIfInBounds_toArray, List.set_cons_zero, List.set_cons_succ, i64_w, i32_w]
                      rfl
                    refine done_ (by kernel_rfl) ?_
                    go_wp2
                    go_roundw
                    case rel => exact ⟨j + 1, by omega, rfl, by go_num, ⟨hHeld.1⟩⟩
                    case measure => simp [intOf]; omega
                  · have hjn' : ¬ (j : Int) < (n : Int) := by omega
                    refine start_ (n := 35) (S := fun w' => Below W2.heap.size W2 w' ∧ w'.cell? ⟨G, k, none⟩ = some (.slice (some ⟨bg, 0, none⟩) (n + 64) cg) ∧ w'.cell? ⟨bg, j * 3, none⟩ = some (.int .i64 0) ∧ w'.cell? ⟨bg, j * 3 + 1, none⟩ = some (.int .i64 0) ∧ w'.cell? ⟨bg, j * 3 + 2, none⟩ = some (.int .i64 (mkI (k : Int) (j : Int))) ∧ w'.cell? ⟨L, k, none⟩ = some (.slice Ak n ck)) (ds := []) #[false, false, false, false, false, false, false, false, false, false, false, false, false, false, false, false, false, false, false, false, false, false, false, false, false, false, false, false, false, false, false, false, false, false, false] (by kernel_rfl) rfl rfl ⟨(below_drew HB.out), hg0, hg1, hg2, hg3, hx0⟩ (fun hHeld => ?_)
                    refine pure_ (i := 0) (N := some 88) (v := ?_) (a' := ?_) #[true, false, false, false, false, false, false, false, false, false, false, false, false, false, false, false, false, false, false, false, false, false, false, false, false, false, false, false, false, false, false, false, false, false, false] rfl rfl (by kernel_rfl) (fun _ _ _ h => h) (Or.inl ⟨by rfl, ?_⟩) ?_ ?_
                    rotate_left
                    · intro w'
                      go_simp
                      with_reducible rfl
                    rotate_left
                    · simp only [Act.put, List.setIfInBounds_toArray, List.set_cons_zero, List.set_cons_succ, i64_w, i32_w]
                      rfl
                    refine pure_ (i := 1) (N := some 89) (v := ?_) (a' := ?_) #[true, true, false, false, false, false, false, false, false, false, false, false, false, false, false, false, false, false, false, false, false, false, false, false, false, false, false, false, false, false, false, false, false, false, false] rfl rfl (by kernel_rfl) (fun _ _ _ h => h) (Or.inl ⟨by rfl, ?_⟩) ?_ ?_
                    rotate_left
                    · intro w'
                      go_simp
                      with_reducible rfl
                    rotate_left
                    · simp only [Act.put, List.setIfInBounds_toArray, List.set_cons_zero, List.set_cons_succ, i64_w, i32_w]
                      rfl
                    refine pure_ (i := 2) (N := some 90) (v := ?_) (a' := ?_) #[true, true, true, false, false, false, false, false, false, false, false, false, false, false, false, false, false, false, false, false, false, false, false, false, false, false, false, false, false, false, false, false, false, false, false] rfl rfl (by kernel_rfl) (fun _ _ _ h => h) (Or.inl ⟨by rfl, ?_⟩) ?_ ?_
                    rotate_left
                    · intro w'
                      go_simp
                      with_reducible rfl
                    rotate_left
                    · simp only [Act.put, List.setIfInBounds_toArray, List.set_cons_zero, List.set_cons_succ, i64_w, i32_w]
                      rfl
                    refine pure_ (i := 4) (N := some 92) (v := ?_) (a' := ?_) #[true, true, true, false, true, false, false, false, false, false, false, false, false, false, false, false, false, false, false, false, false, false, false, false, false, false, false, false, false, false, false, false, false, false, false] rfl rfl (by kernel_rfl) (fun _ _ _ h => h) (Or.inl ⟨by rfl, ?_⟩) ?_ ?_
                    rotate_left
                    · intro w'
                      go_simp
                      with_reducible rfl
                    rotate_left
                    · simp only [Act.put, List.setIfInBounds_toArray, List.set_cons_zero, List.set_cons_succ, i64_w, i32_w]
                      rfl
                    refine pure_ (i := 7) (N := some 95) (v := ?_) (a' := ?_) #[true, true, true, false, true, false, false, true, false, false, false, false, false, false, false, false, false, false, false, false, false, false, false, false, false, false, false, false, false, false, false, false, false, false, false] rfl rfl (by kernel_rfl) (fun _ _ _ h => h) (Or.inl ⟨by rfl, ?_⟩) ?_ ?_
                    rotate_left
                    · intro w'
                      go_simp
                      with_reducible rfl
                    rotate_left
                    · simp only [Act.put, List.setIfInBounds_toArray, List.set_cons_zero, List.set_cons_succ, i64_w, i32_w]
                      rfl
                    refine pure_ (i := 8) (N := some 96) (v := ?_) (a' := ?_) #[true, true, true, false, true, false, false, true, true, false, false, false, false, false, false, false, false, false, false, false, false, false, false, false, false, false, false, false, false, false, false, false, false, false, false] rfl rfl (by kernel_rfl) (fun _ _ _ h => h) (Or.inl ⟨by rfl, ?_⟩) ?_ ?_
                    rotate_left
                    · intro w'
                      go_simp
                      with_reducible rfl
                    rotate_left
                    · simp only [Act.put, List.setIfInBounds_toArray, List.set_cons_zero, List.set_cons_succ, i64_w, i32_w]
                      rfl
                    refine take_ (i := 3) (N := some 91) (v := ?_) (a' := ?_) #[true, true, true, true, true, false, false, true, true, false, false, false, false, false, false, false, false, false, false, false, false, false, false, false, false, false, false, false, false, false, false, false, false, false, false] rfl rfl (by kernel_rfl) (fun _ _ _ h => h) (Or.inl ⟨by rfl, ?_⟩) hHeld ?_ ?_
                    rotate_left
                    · rintro w' ⟨s0, s1, s2, s3, s4, s5⟩
                      go_simp
                      with_reducible rfl
                    rotate_left
                    · simp only [Act.put, List.setIfInBounds_toArray, List.set_cons_zero, List.set_cons_succ, i64_w, i32_w]
                      rfl
                    refine pure_ (i := 5) (N := some 93) (v := ?_) (a' := ?_) #[true, true, true, true, true, true, false, true, true, false, false, false, false, false, false, false, false, false, false, false, false, false, false, false, false, false, false, false, false, false, false, false, false, false, false] rfl rfl (by kernel_rfl) (fun _ _ _ h => h) (Or.inl ⟨by rfl, ?_⟩) ?_ ?_
                    rotate_left
                    · intro w'
                      go_simp
                      with_reducible rfl
                    rotate_left
                    · simp only [Act.put, List.setIfInBounds_toArray, List.set_cons_zero, List.set_cons_succ, i64_w, i32_w]
                      rfl
                    refine take_ (i := 6) (N := some 94) (v := ?_) (a' := ?_) #[true, true, true, true, true, true, true, true, true, false, false, false, false, false, false, false, false, false, false, false, false, false, false, false, false, false, false, false, false, false, false, false, false, false, false] rfl rfl (by kernel_rfl) (fun _ _ _ h => h) (Or.inl ⟨by rfl, ?_⟩) hHeld ?_ ?_
                    rotate_left
                    · rintro w' ⟨s0, s1, s2, s3, s4, s5⟩
                      go_simp
                      with_reducible rfl
                    rotate_left
                    · simp only [Act.put, List.setIfInBounds_toArray, List.set_cons_zero, List.set_cons_succ, i64_w, i32_w]
                      rfl
                    refine one_ (i := 9) (N := some 97) #[true, true, true, true, true, true, true, true, true, true, false, false, false, false, false, false, false, false, false, false, false, false, false, false, false, false, false, false, false, false, false, false, false, false, false] rfl rfl (by kernel_rfl) (by decide) (fun K hK => ?_)
                    refine goes_ Tryz.func90 (by kernel_rfl) rfl #[.int .i64 (k : Int), .int .i64 (j : Int)] (by rfl) rfl rfl (by simp only [List.map_toArray, List.map_cons, List.map_nil]; rfl) ?_
                    with_reducible refine (mark_home (k : Int) (j : Int) _ (by omega) (by omega) (by omega) (by omega)).mono ?_
                    rintro e w3 ⟨rfl, hb3⟩
                    refine ⟨_, rfl, ?_⟩
                    refine hK.out _ _ ⟨(below_then hHeld.1 hHeld.1.size hb3), (pw_cell_below hb3 hHeld.2.1), (pw_cell_below hb3 hHeld.2.2.1), (pw_cell_below hb3 hHeld.2.2.2.1), (pw_cell_below hb3 hHeld.2.2.2.2.1), (pw_cell_below hb3 hHeld.2.2.2.2.2)⟩ (fun hHeld => ?_)
                    clear hK K
                    refine norm_ (a' := ?_) ?_ ?_
                    rotate_left
                    · show Act.put _ (some 97) _ = _
                      simp only [Act.put, List.setIfInBounds_toArray, List.set_cons_zero, List.set_cons_succ, i64_w, i32_w]
                      rfl
                    refine pure_ (i := 10) (N := some 98) (v := ?_) (a' := ?_) #[true, true, true, true, true, true, true, true, true, true, true, false, false, false, false, false, false, false, false, false, false, false, false, false, false, false, false, false, false, false, false, false, false, false, false] rfl rfl (by kernel_rfl) (fun _ _ _ h => h) (Or.inl ⟨by rfl, ?_⟩) ?_ ?_
                    rotate_left
                    · intro w'
                      refine (exec_eql48 (x := .tmp 94) (y := .tmp 97) (yt := 48) (a := 0) (b := 0) (c := mkI (k : Int) (j : Int)) w' rfl rfl rfl).trans ?_
                      with_reducible rfl
                    rotate_left
                    · simp only [Act.put, List.setIfInBounds_toArray, List.set_cons_zero, List.set_cons_succ, i64_w, i32_w]
                      rfl
                    refine pure_ (i := 11) (N := some 99) (v := ?_) (a' := ?_) #[true, true, true, true, true, true, true, true, true, true, true, true, false, false, false, false, false, false, false, false, false, false, false, false, false, false, false, false, false, false, false, false, false, false, false] rfl rfl (by kernel_rfl) (fun _ _ _ h => h) (Or.inl ⟨by rfl, ?_⟩) ?_ ?_
                    rotate_left
                    · intro w'
                      go_simp
                      with_reducible rfl
                    rotate_left
                    · simp only [Act.put, List.setIfInBounds_toArray, List.set_cons_zero, List.set_cons_succ, i64_w, i32_w]
                      rfl
                    refine pure_ (i := 12) (N := some 100) (v := ?_) (a' := ?_) #[true, true, true, true, true, true, true, true, true, true, true, true, true, false, false, false, false, false, false, false, false, false, false, false, false, false, false, false, false, false, false, false, false, false, false] rfl rfl (by kernel_rfl) (fun _ _ _ h => h) (Or.inl ⟨by rfl, ?_⟩) ?_ ?_
                    rotate_left
                    · intro w'
                      go_simp
                      with_reducible rfl
                    rotate_left
                    · simp only [Act.put, List.setIfInBounds_toArray, List.set_cons_zero, List.set_cons_succ, i64_w, i32_w]
                      rfl
                    refine pure_ (i := 13) (N := some 101) (v := ?_) (a' := ?_) #[true, true, true, true, true, true, true, true, true, true, true, true, true, true, false, false, false, false, false, false, false, false, false, false, false, false, false, false, false, false, false, false, false, false, false] rfl rfl (by kernel_rfl) (fun _ _ _ h => h) (Or.inl ⟨by rfl, ?_⟩) ?_ ?_
                    rotate_left
                    · intro w'
                      go_simp
                      with_reducible rfl
                    rotate_left
                    · simp only [Act.put, List.setIfInBounds_toArray, List.set_cons_zero, List.set_cons_succ, i64_w, i32_w]
                      rfl
                    refine pure_ (i := 14) (N := some 102) (v := ?_) (a' := ?_) #[true, true, true, true, true, true, true, true, true, true, true, true, true, true, true, false, false, false, false, false, false, false, false, false, false, false, false, false, false, false, false, false, false, false, false] rfl rfl (by kernel_rfl) (fun _ _ _ h => h) (Or.inl ⟨by rfl, ?_⟩) ?_ ?_
                    rotate_left
                    · intro w'
                      go_simp
                      with_reducible rfl
                    rotate_left
                    · simp only [Act.put, List.setIfInBounds_toArray, List.set_cons_zero, List.set_cons_succ, i64_w, i32_w]
                      rfl
                    refine pure_ (i := 15) (N := some 103) (v := ?_) (a' := ?_) #[true, true, true, true, true, true, true, true, true, true, true, true, true, true, true, true, false, false, false, false, false, false, false, false, false, false, false, false, false, false, false, false, false, false, false] rfl rfl (by kernel_rfl) (fun _ _ _ h => h) (Or.inl ⟨by rfl, ?_⟩) ?_ ?_
                    rotate_left
                    · intro w'
                      go_simp
                      with_reducible rfl
                    rotate_left
                    · simp only [Act.put, List.setIfInBounds_toArray, List.set_cons_zero, List.set_cons_succ, i64_w, i32_w]
                      rfl
                    refine pure_ (i := 16) (N := some 104) (v := ?_) (a' := ?_) #[true, true, true, true, true, true, true, true, true, true, true, true, true, true, true, true, true, false, false, false, false, false, false, false, false, false, false, false, false, false, false, false, false, false, false] rfl rfl (by kernel_rfl) (fun _ _ _ h => h) (Or.inl ⟨by rfl, ?_⟩) ?_ ?_
                    rotate_left
                    · intro w'
                      go_simp
                      with_reducible rfl
                    rotate_left
                    · simp only [Act.put, List.setIfInBounds_toArray, List.set_cons_zero, List.set_cons_succ, i64_w, i32_w]
                      rfl
                    refine take_ (i := 17) (N := some 105) (v := ?_) (a' := ?_) #[true, true, true, true, true, true, true, true, true, true, true, true, true, true, true, true, true, true, false, false, false, false, false, false, false, false, false, false, false, false, false, false, false, false, false] rfl rfl (by kernel_rfl) (fun _ _ _ h => h) (Or.inl ⟨by rfl, ?_⟩) hHeld ?_ ?_
                    rotate_left
                    · rintro w' ⟨s0, s1, s2, s3, s4, s5⟩
                      go_simp
                      with_reducible rfl
                    rotate_left
                    · simp only [Act.put, List.setIfInBounds_toArray, List.set_cons_zero, List.set_cons_succ, i64_w, i32_w]
                      rfl
                    refine pure_ (i := 18) (N := some 106) (v := ?_) (a' := ?_) #[true, true, true, true, true, true, true, true, true, true, true, true, true, true, true, true, true, true, true, false, false, false, false, false, false, false, false, false, false, false, false, false, false, false, false] rfl rfl (by kernel_rfl) (fun _ _ _ h => h) (Or.inl ⟨by rfl, ?_⟩) ?_ ?_
                    rotate_left
                    · intro w'
                      go_simp
                      with_reducible rfl
                    rotate_left
                    · simp only [Act.put, List.setIfInBounds_toArray, List.set_cons_zero, List.set_cons_succ, i64_w, i32_w]
                      rfl
                    refine pure_ (i := 19) (N := some 107) (v := ?_) (a' := ?_) #[true, true, true, true, true, true, true, true, true, true, true, true, true, true, true, true, true, true, true, true, false, false, false, false, false, false, false, false, false, false, false, false, false, false, false] rfl rfl (by kernel_rfl) (fun _ _ _ h => h) (Or.inl ⟨by rfl, ?_⟩) ?_ ?_
                    rotate_left
                    · intro w'
                      go_simp
                      with_reducible rfl
                    rotate_left
                    · simp only [Act.put, List.setIfInBounds_toArray, List.set_cons_zero, List.set_cons_succ, i64_w, i32_w]
                      rfl
                    refine pure_ (i := 20) (N := some 108) (v := ?_) (a' := ?_) #[true, true, true, true, true, true, true, true, true, true, true, true, true, true, true, true, true, true, true, true, true, false, false, false, false, false, false, false, false, false, false, false, false, false, false] rfl rfl (by kernel_rfl) (fun _ _ _ h => h) (Or.inl ⟨by rfl, ?_⟩) ?_ ?_
                    rotate_left
                    · intro w'
                      go_simp
                      with_reducible rfl
                    rotate_left
                    · simp only [Act.put, List.setIfInBounds_toArray, List.set_cons_zero, List.set_cons_succ, i64_w, i32_w]
                      rfl
                    refine pure_ (i := 21) (N := some 109) (v := undef) (a' := ?_) #[true, true, true, true, true, true, true, true, true, true, true, true, true, true, true, true, true, true, true, true, true, true, false, false, false, false, false, false, false, false, false, false, false, false, false] rfl rfl (by kernel_rfl) (fun _ _ _ h => h) (Or.inr ⟨by rfl, rfl⟩) ?_ ?_
                    rotate_left
                    · simp only [Act.put, List.setIfInBounds_toArray, List.set_cons_zero, List.set_cons_succ, i64_w, i32_w]
                      rfl
                    refine pure_ (i := 22) (N := some 110) (v := undef) (a' := ?_) #[true, true, true, true, true, true, true, true, true, true, true, true, true, true, true, true, true, true, true, true, true, true, true, false, false, false, false, false, false, false, false, false, false, false, false] rfl rfl (by kernel_rfl) (fun _ _ _ h => h) (Or.inr ⟨by rfl, rfl⟩) ?_ ?_
                    rotate_left
                    · simp only [Act.put, List.setIfInBounds_toArray, List.set_cons_zero, List.set_cons_succ, i64_w, i32_w]
                      rfl
                    refine pure_ (i := 23) (N := some 111) (v := undef) (a' := ?_) #[true, true, true, true, true, true, true, true, true, true, true, true, true, true, true, true, true, true, true, true, true, true, true, true, false, false, false, false, false, false, false, false, false, false, false] rfl rfl (by kernel_rfl) (fun _ _ _ h => h) (Or.inr ⟨by rfl, rfl⟩) ?_ ?_
                    rotate_left
                    · simp only [Act.put, List.setIfInBounds_toArray, List.set_cons_zero, List.set_cons_succ, i64_w, i32_w]
                      rfl
                    refine pure_ (i := 24) (N := some 112) (v := undef) (a' := ?_) #[true, true, true, true, true, true, true, true, true, true, true, true, true, true, true, true, true, true, true, true, true, true, true, true, true, false, false, false, false, false, false, false, false, false, false] rfl rfl (by kernel_rfl) (fun _ _ _ h => h) (Or.inr ⟨by rfl, rfl⟩) ?_ ?_
                    rotate_left
                    · simp only [Act.put, List.setIfInBounds_toArray, List.set_cons_zero, List.set_cons_succ, i64_w, i32_w]
                      rfl
                    refine pure_ (i := 25) (N := some 113) (v := undef) (a' := ?_) #[true, true, true, true, true, true, true, true, true, true, true, true, true, true, true, true, true, true, true, true, true, true, true, true, true, true, false, false, false, false, false, false, false, false, false] rfl rfl (by kernel_rfl) (fun _ _ _ h => h) (Or.inr ⟨by rfl, rfl⟩) ?_ ?_
                    rotate_left
                    · simp only [Act.put, List.setIfInBounds_toArray, List.set_cons_zero, List.set_cons_succ, i64_w, i32_w]
                      rfl
                    refine pure_ (i := 26) (N := some 114) (v := undef) (a' := ?_) #[true, true, true, true, true, true, true, true, true, true, true, true, true, true, true, true, true, true, true, true, true, true, true, true, true, true, true, false, false, false, false, false, false, false, false] rfl rfl (by kernel_rfl) (fun _ _ _ h => h) (Or.inr ⟨by rfl, rfl⟩) ?_ ?_
                    rotate_left
                    · simp only [Act.put, List.setIfInBounds_toArray, List.set_cons_zero, List.set_cons_succ, i64_w, i32_w]
                      rfl
                    refine pure_ (i := 27) (N := some 115) (v := undef) (a' := ?_) #[true, true, true, true, true, true, true, true, true, true, true, true, true, true, true, true, true, true, true, true, true, true, true, true, true, true, true, true, false, false, false, false, false, false, false] rfl rfl (by kernel_rfl) (fun _ _ _ h => h) (Or.inr ⟨by rfl, rfl⟩) ?_ ?_
                    rotate_left
                    · simp only [Act.put, List.setIfInBounds_toArray, List.set_cons_zero, List.set_cons_succ, i64_w, i32_w]
                      rfl
                    refine pure_ (i := 28) (N := some 116) (v := undef) (a' := ?_) #[true, true, true, true, true, true, true, true, true, true, true, true, true, true, true, true, true, true, true, true, true, true, true, true, true, true, true, true, true, false, false, false, false, false, false] rfl rfl (by kernel_rfl) (fun _ _ _ h => h) (Or.inr ⟨by rfl, rfl⟩) ?_ ?_
                    rotate_left
                    · simp only [Act.put, List.setIfInBounds_toArray, List.set_cons_zero, List.set_cons_succ, i64_w, i32_w]
                      rfl
                    refine pure_ (i := 29) (N := some 117) (v := undef) (a' := ?_) #[true, true, true, true, true, true, true, true, true, true, true, true, true, true, true, true, true, true, true, true, true, true, true, true, true, true, true, true, true, true, false, false, false, false, false] rfl rfl (by kernel_rfl) (fun _ _ _ h => h) (Or.inr ⟨by rfl, rfl⟩) ?_ ?_
                    rotate_left
                    · simp only [Act.put, List.setIfInBounds_toArray, List.set_cons_zero, List.set_cons_succ, i64_w, i32_w]
                      rfl
                    refine pure_ (i := 30) (N := some 118) (v := undef) (a' := ?_) #[true, true, true, true, true, true, true, true, true, true, true, true, true, true, true, true, true, true, true, true, true, true, true, true, true, true, true, true, true, true, true, false, false, false, false] rfl rfl (by kernel_rfl) (fun _ _ _ h => h) (Or.inr ⟨by rfl, rfl⟩) ?_ ?_
                    rotate_left
                    · simp only [Act.put, List.setIfInBounds_toArray, List.set_cons_zero, List.set_cons_succ, i64_w, i32_w]
                      rfl
                    refine pure_ (i := 31) (N := some 119) (v := undef) (a' := ?_) #[true, true, true, true, true, true, true, true, true, true, true, true, true, true, true, true, true, true, true, true, true, true, true, true, true, true, true, true, true, true, true, true, false, false, false] rfl rfl (by kernel_rfl) (fun _ _ _ h => h) (Or.inr ⟨by rfl, rfl⟩) ?_ ?_
                    rotate_left
                    · simp only [Act.put, List.setIfInBounds_toArray, List.set_cons_zero, List.set_cons_succ, i64_w, i32_w]
                      rfl
                    refine pure_ (i := 32) (N := some 120) (v := undef) (a' := ?_) #[true, true, true, true, true, true, true, true, true, true, true, true, true, true, true, true, true, true, true, true, true, true, true, true, true, true, true, true, true, true, true, true, true, false, false] rfl rfl (by kernel_rfl) (fun _ _ _ h => h) (Or.inr ⟨by rfl, rfl⟩) ?_ ?_
                    rotate_left
                    · simp only [Act.put, List.setIfInBounds_toArray, List.set_cons_zero, List.set_cons_succ, i64_w, i32_w]
                      rfl
                    refine pure_ (i := 33) (N := some 121) (v := ?_) (a' := ?_) #[true, true, true, true, true, true, true, true, true, true, true, true, true, true, true, true, true, true, true, true, true, true, true, true, true, true, true, true, true, true, true, true, true, true, false] rfl rfl (by kernel_rfl) (fun _ _ _ h => h) (Or.inl ⟨by rfl, ?_⟩) ?_ ?_
                    rotate_left
                    · intro w'
                      go_simp
                      with_reducible rfl
                    rotate_left
                    · simp only [Act.put, List.setIfInBounds_toArray, List.set_cons_zero, List.set_cons_succ, i64_w, i32_w]
                      rfl
                    refine pure_ (i := 34) (N := some 122) (v := ?_) (a' := ?_) #[true, true, true, true, true, true, true, true, true, true, true, true, true, true, true, true, true, true, true, true, true, true, true, true, true, true, true, true, true, true, true, true, true, true, true] rfl rfl (by kernel_rfl) (fun _ _ _ h => h) (Or.inl ⟨by rfl, ?_⟩) ?_ ?_
                    rotate_left
                    · intro w'
                      go_simp
                      with_reducible rfl
                    rotate_left
                    · simp only [Act.put, List.setIfInBounds_toArray, List.set_cons_zero, List.set_cons_succ, i64_w, i32_w]
                      rfl
                    refine done_ (by kernel_rfl) ?_
                    go_wp2
                    go_roundw
                    case rel => exact ⟨j + 1, by omega, rfl, by go_num, ⟨hHeld.1⟩⟩
                    case measure => simp [intOf]; omega
                · obtain rfl : j = n + 64 := by omega
                  go_wp2
                  go_roundw
                  case rel => exact ⟨k + 1, by omega, rfl, by go_num, HB⟩
                  case measure => simp [intOf]; omega
            · obtain rfl : k = vs.length := by omega
              have HO4 := Aside0.mk (pw_own_below HO.out HB3.out)
              have HGS4 := Aside0.mk (pw_own_below HGS.out HB3.out)
              have HR4 := Aside0.mk (HR.out.below HB3.out)
              have HB4 := Aside0.mk (below_then HB.out (Nat.le_trans hbase HB.out.size) HB3.out)
              have HKQ4 := Aside0.mk (HKQ.out.below HB.out.size HB3.out)
              clear HO HGS HR HB HGR HD1 HD2 HD3 HD4 HB3 HKQ
              go_wp2
              go_loopw [11] (fun v11 wr => ∃ (k : Nat) (gs : List Value), k ≤ vs.length ∧ v11 = .int .i64 (k : Int) ∧ Aside0 (gs.length = vs.length)
                ∧ Aside0 (∀ j, j < k → wr.ownsRow base 48 3 (at_ gs j) (ns.getD j 0 + 64) (CH j (ns.getD j 0) ++ CH (j + vs.length : Nat) 64))
                ∧ Aside0 (∀ i j, j < k → i ≠ j → disj (at_ vs i) (at_ gs j))
                ∧ Aside0 (∀ j, j < k → disj (.slice (some ⟨G, 0, none⟩) vs.length vs.length) (at_ gs j)) ∧ Aside0 (∀ j, j < k → disj (.slice A vs.length c) (at_ gs j))
                ∧ Aside0 (wr.ownsRow base 27 1 (.slice A vs.length c) vs.length vs) ∧ Aside0 (wr.ownsRow base 27 1 (.slice (some ⟨G, 0, none⟩) vs.length vs.length) vs.length gs)
                ∧ Aside0 (RowsO wr base 48 3 vs ns (fun j => CH j (ns.getD j 0))) ∧ Aside0 (Below base w wr) ∧ Aside0 (KQ w wr vs)) (fun v11 _ => vs.length - (intOf v11).toNat)
              case atStart => exact ⟨0, gs, Nat.zero_le _, rfl, HGL, ⟨fun j hj => absurd hj (by omega)⟩, ⟨fun i j hj => absurd hj (by omega)⟩, ⟨fun j hj => absurd hj (by omega)⟩, ⟨fun j hj => absurd hj (by omega)⟩, HO4, HGS4, HR4, HB4, HKQ4⟩
              case round =>
                clear HO4 HGS4 HR4 HB4 HGL HKQ4
                obtain ⟨k, gs, hk, rfl, HGL, HGR, HD1, HD3, HD4, HO, HGS, HR, HB, HKQ⟩ := hrel
                by_cases hlt : k < vs.length
                · obtain ⟨L, c', hLv, hLb, hLl⟩ := HO.out.form (by omega)
                  injection hLv with e1 _ e2
                  subst e1 e2
                  have hx00 : wr.cell? ⟨L, k, none⟩ = some (at_ vs k) := by
                    have := HO.out.cells (g := L) rfl k (at_ vs k) (by unfold at_; rw [List.getD_eq_getElem?_getD, List.getElem?_eq_getElem hlt]; rfl)
                    rwa [add_plain] at this
                  have hk0 := HR.out k hlt
                  obtain ⟨n, hnk⟩ : ∃ n, ns.getD k 0 = n := ⟨_, rfl⟩
                  have hn64 := HN.out k
                  simp only [hnk] at hk0 hn64
                  obtain ⟨Ak, ck, hvk⟩ := own_slice hk0
                  rw [hvk] at hx00 hk0
                  have HVK := Aside0.mk hvk
                  have HK0 := Aside0.mk hk0
                  have HNK := Aside0.mk hnk
                  clear hvk hk0 hnk
                  have HVGk : Aside0 (disj (.slice (some ⟨G, 0, none⟩) vs.length vs.length) (.slice Ak n ck)) := ⟨by have := HVG.out k; rwa [HVK.out] at this⟩
                  obtain ⟨i0, hi, hz0, hz1, hz2⟩ := info_parts info48
                  obtain ⟨W0, hrun, hown, hg⟩ := run_make_full (P := Tryz.prog) wr base 27 48 i0 (.agg #[.int .i64 0, .int .i64 0, .int .i64 0]) 3 Tryz.underlying27 hi hz0 hz1 .i64 .i64 64 (by rw [hz2]; omega) (by simp only [maxLen]; omega) (Nat.le_trans hbase HB.out.size)
                  obtain ⟨M, hM⟩ : ∃ x, wr.heap.size = x := ⟨_, rfl⟩
                  obtain ⟨W1, hW1⟩ : ∃ x, x = wr := ⟨_, rfl⟩
                  have HBM : Aside0 (Below W1.heap.size W1 W0) := ⟨by rw [hW1]; exact (Below.refl wr.heap.size wr).grown hg (Nat.le_refl _) (fun k hk => by cases hk)⟩
                  have HMW : Aside0 (M = W1.heap.size) := ⟨by rw [hW1, hM]⟩
                  have HMN : Aside0 (W0.ownsRow base 48 3 (.slice (some ⟨M, 0, none⟩) 64 64) 64 (CH ((k : Int) + (vs.length : Int)) 0 ++ List.replicate (64 * 3) (Value.int .i64 0))) := ⟨by
                    rw [hM] at hown
                    rw [show (madeCells (Value.agg #[.int .i64 0, .int .i64 0, .int .i64 0]).cells (64 * 3)).toList = List.replicate (64 * 3) (Value.int .i64 0) from toList_madeCells_three _ _] at hown
                    exact hown⟩
                  rw [hM] at hrun
                  have hrun' : (Instr.makeSlice 27 (.int .i64 64) (.int .i64 64)).run Tryz.prog wr = .ok (.slice (some ⟨M, 0, none⟩) 64 64) W0 := hrun
                  rw [← hW1] at HO HGS HR HB HGR hx00 HK0 HKQ
                  have HHM := Aside0.mk hM
                  clear hi hz0 hz1 hz2 hown hg hrun hM
                  go_wp2
                  clear hrun' hW1
                  go_loopw [13] (fun v13 wi => ∃ i : Nat, i ≤ 64 ∧ v13 = .int .i64 (i : Int) ∧ Aside0 (wi.ownsRow base 48 3 (.slice (some ⟨M, 0, none⟩) 64 64) 64 (CH ((k : Int) + (vs.length : Int)) i ++ List.replicate ((64 - i) * 3) (Value.int .i64 0))) ∧ Aside0 (Below W1.heap.size W1 wi)) (fun v13 _ => 64 - (intOf v13).toNat)
                  case atStart => exact ⟨0, Nat.zero_le _, rfl, HMN, HBM⟩
                  case round =>
                    clear HMN HBM
                    obtain ⟨i, hi, rfl, HMN, HBM⟩ := hrel
                    by_cases hli : i < 64
                    · have hli' : (i : Int) < 64 := by omega
                      go_wp2_with fail
                      refine (mark_home ((k : Int) + (vs.length : Int)) (i : Int) _ (by omega) (by omega) (by omega) (by omega)).mono ?_
                      rintro e w2 ⟨rfl, hb⟩
                      have HMN2 := Aside0.mk (pw_own_below HMN.out hb)
                      have HBM2 := Aside0.mk (below_then HBM.out HBM.out.size hb)
                      clear hb
                      obtain ⟨K, hK⟩ : ∃ K : Int, K = (k : Int) + (vs.length : Int) := ⟨_, rfl⟩
                      rw [← hK] at HMN2
                      have hset : (((CH K i ++ List.replicate ((64 - i) * 3) (Value.int .i64 0)).set (i * 3) (.int .i64 0)).set (i * 3 + 1) (.int .i64 0)).set (i * 3 + 2) (.int .i64 (mkI K (i : Int))) = CH K (i + 1) ++ List.replicate ((64 - (i + 1)) * 3) (Value.int .i64 0) := by
                        rw [List.set_append_right _ _ (by rw [CH_len]; exact Nat.le_refl _), CH_len, Nat.sub_self, List.set_append_right _ _ (by rw [CH_len]; omega), CH_len, show i * 3 + 1 - i * 3 = 1 by omega, List.set_append_right _ _ (by rw [CH_len]; omega), CH_len, show i * 3 + 2 - i * 3 = 2 by omega, CH_succ, show (64 - i) * 3 = (64 - (i + 1)) * 3 + 1 + 1 + 1 by omega, List.replicate_succ, List.replicate_succ, List.replicate_succ]
                        simp
                      obtain ⟨hO4, hgr4⟩ := HMN2.out.stored (i * 3) (.int .i64 0)
                      obtain ⟨hO5, hgr5⟩ := hO4.stored (i * 3 + 1) (.int .i64 0)
                      obtain ⟨hO6, hgr6⟩ := hO5.stored (i * 3 + 2) (.int .i64 (mkI K (i : Int)))
                      have hcl : w2.cell? ⟨M, i * 3, none⟩ = some (.int .i64 0) := by
                        have := HMN2.out.cells (g := M) rfl (i * 3) (.int .i64 0) (by rw [List.getElem?_append_right (by rw [CH_len]; omega), CH_len, show i * 3 - i * 3 = 0 by omega, List.getElem?_replicate, if_pos (by omega)])
                        rwa [add_plain] at this
                      have hfr : w2.frozen? ⟨M, i * 3, none⟩ = false := HMN2.out.frozenAt (i * 3)
                      have hcl1 : (w2.setCell ⟨M, i * 3, none⟩ (.int .i64 0)).cell? ⟨M, i * 3 + 1, none⟩ = some (.int .i64 0) := by
                        have := hO4.cells (g := M) rfl (i * 3 + 1) (.int .i64 0) (by rw [List.getElem?_set_ne (by omega), List.getElem?_append_right (by rw [CH_len]; omega), CH_len, show i * 3 + 1 - i * 3 = 1 by omega, List.getElem?_replicate, if_pos (by omega)])
                        rwa [add_plain] at this
                      have hfr1 : (w2.setCell ⟨M, i * 3, none⟩ (.int .i64 0)).frozen? ⟨M, i * 3 + 1, none⟩ = false := hO4.frozenAt (i * 3 + 1)
                      have hcl2 : ((w2.setCell ⟨M, i * 3, none⟩ (.int .i64 0)).setCell ⟨M, i * 3 + 1, none⟩ (.int .i64 0)).cell? ⟨M, i * 3 + 2, none⟩ = some (.int .i64 0) := by
                        have := hO5.cells (g := M) rfl (i * 3 + 2) (.int .i64 0) (by rw [List.getElem?_set_ne (by omega), List.getElem?_set_ne (by omega), List.getElem?_append_right (by rw [CH_len]; omega), CH_len, show i * 3 + 2 - i * 3 = 2 by omega, List.getElem?_replicate, if_pos (by omega)])
                        rwa [add_plain] at this
                      have hfr2 : ((w2.setCell ⟨M, i * 3, none⟩ (.int .i64 0)).setCell ⟨M, i * 3 + 1, none⟩ (.int .i64 0)).frozen? ⟨M, i * 3 + 2, none⟩ = false := hO5.frozenAt (i * 3 + 2)
                      rw [hset] at hO6
                      have HST := Aside0.mk hO6
                      have HBN : Aside0 (Below W1.heap.size W1 (((w2.setCell ⟨M, i * 3, none⟩ (.int .i64 0)).setCell ⟨M, i * 3 + 1, none⟩ (.int .i64 0)).setCell ⟨M, i * 3 + 2, none⟩ (.int .i64 (mkI K (i : Int))))) := ⟨((HBM2.out.setCell (p := ⟨M, i * 3, none⟩) (by rw [HMW.out]; exact Nat.le_refl _) _).setCell (p := ⟨M, i * 3 + 1, none⟩) (by rw [HMW.out]; exact Nat.le_refl _) _).setCell (p := ⟨M, i * 3 + 2, none⟩) (by rw [HMW.out]; exact Nat.le_refl _) _⟩
                      clear hO4 hgr4 hO5 hgr5 hO6 hgr6 hset
                      subst hK
                      go_wp2
                      go_roundw
                      case rel => exact ⟨i + 1, by omega, by go_num, HST, HBN⟩
                      case measure => simp [intOf]; omega
                    · obtain rfl : i = 64 := by omega
                      have HMN6 : Aside0 (wr.ownsRow base 48 3 (.slice (some ⟨M, 0, none⟩) 64 64) 64 (CH ((k : Int) + (vs.length : Int)) 64)) := ⟨by simpa using HMN.out⟩
                      have hx0i := pw_cell_below HBM.out hx00
                      have HBW := Aside0.mk (below_then HB.out (Nat.le_trans hbase HB.out.size) HBM.out)
                      have HOi := Aside0.mk (pw_own_below HO.out HBM.out)
                      have HGSi := Aside0.mk (pw_own_below HGS.out HBM.out)
                      have HKi := Aside0.mk (pw_own_below HK0.out HBM.out)
                      have hcells : ∀ (j : Nat) (u : Value), (CH ((k : Int) + (vs.length : Int)) 64)[j]? = some u → wr.cell? ((⟨M, 0, none⟩ : Addr).add j) = some u := fun j u h => HMN6.out.cells (g := M) rfl j u h
                      have hone : ∀ u ∈ CH ((k : Int) + (vs.length : Int)) 64, u.oneCell' = true := CH_one _ _
                      have HCE := Aside0.mk hcells
                      have HON := Aside0.mk hone
                      clear hcells hone
                      go_wp2_with (first | ((with_reducible refine gate_builtin (b := .append) (xs := #[.tmp 148, .tmp 149]) rfl ?_); at_builtin; go_loud (refine O_append_keep (w0 := w) base rfl (.tmp 148) (.tmp 149) 27 48 (.agg #[.int .i64 0, .int .i64 0, .int .i64 0]) 3 24 rfl Tryz.underlying27 info48 rfl (by decide) (by omega) (.slice Ak n ck) n (CH k n) 64 64 (CH ((k : Int) + (vs.length : Int)) 64) ⟨M, 0, none⟩ ?aS ?aX ?aLe ?aC ?aN ?aO ?aB ?aZ ?aL ?_; (case aS => first | rfl | (simp [Act.eval]; done)); (case aX => first | rfl | (simp [Act.eval]; done)); (case aLe => rw [CH_len]); (case aC => exact HCE.out); (case aN => exact HON.out); (case aO => exact HKi.out); (case aB => exact HBW.out); (case aZ => have := HBW.out.size; omega); (case aL => omega); intro v150 w4 ho1 ho2 hb hg hat; have HN4 := Aside0.mk ho1; have HQ4 := Aside0.mk ho2; have HB4 := Aside0.mk hb; have HG4 := Aside0.mk hg; have HAT := Aside0.mk hat; clear ho1 ho2 hb hg hat; obtain ⟨A7, c7, rfl⟩ := own_slice HN4.out; have HGS4 := Aside0.mk (own_grown HGSi.out HG4.out HVGk.out); obtain ⟨z0, hz0⟩ := row_cell HGS4.out k (by rw [HGL.out]; exact hlt); have hzf := HGS4.out.frozenAt k)))
                      obtain ⟨hst, hgr⟩ := HGS4.out.stored k (.slice A7 (n + 64) c7)
                      have HST := Aside0.mk hst
                      have HGR' := Aside0.mk hgr
                      have HGB : Aside0 (base ≤ G) := ⟨(HGS.out.lt G rfl).1⟩
                      clear hst hgr
                      have hkg : k < gs.length := by rw [HGL.out]; exact hlt
                      have hset : ∀ j, at_ (gs.set k (.slice A7 (n + 64) c7)) j = if j = k then .slice A7 (n + 64) c7 else at_ gs j := fun j => by
                        unfold at_
                        rw [List.getD_eq_getElem?_getD, List.getD_eq_getElem?_getD, List.getElem?_set]
                        by_cases e : j = k
                        · subst e; simp [hkg]
                        · rw [if_neg (fun h => e h.symm), if_neg e]
                      have H7 : Aside0 ((Value.slice A7 (n + 64) c7).ownBlock = (Value.slice Ak n ck).ownBlock ∨ ∃ b, (Value.slice A7 (n + 64) c7).ownBlock = some b ∧ wr.heap.size ≤ b) := ⟨HAT.out.imp id (fun h => ⟨_, h, Nat.le_refl _⟩)⟩
                      have hRi : ∀ i, i < vs.length → wr.ownsRow base 48 3 (at_ vs i) (ns.getD i 0) (CH i (ns.getD i 0)) := fun i hi => pw_own_below (HR.out i hi) HBM.out
                      have dV : ∀ i, i ≠ k → disj (at_ vs i) (.slice A7 (n + 64) c7) := fun i hi => by
                        by_cases hl : i < vs.length
                        · exact disj_step H7.out (hRi i hl) (by have := HA.out i k hi; rwa [HVK.out] at this)
                        · refine .inl ?_
                          unfold at_
                          rw [List.getD_eq_getElem?_getD, List.getElem?_eq_none (by omega)]
                          rfl
                      have dH : disj (.slice (some ⟨G, 0, none⟩) vs.length vs.length) (.slice A7 (n + 64) c7) := disj_step H7.out HGSi.out HVGk.out
                      have dL : disj (.slice (some ⟨L, 0, none⟩) vs.length c) (.slice A7 (n + 64) c7) := disj_step H7.out HOi.out (by have := HS.out k; rwa [HVK.out] at this)
                      have R1 : Aside0 (∀ j, j < k + 1 → (w4.setCell ⟨G, k, none⟩ (.slice A7 (n + 64) c7)).ownsRow base 48 3 (at_ (gs.set k (.slice A7 (n + 64) c7)) j) (ns.getD j 0 + 64) (CH j (ns.getD j 0) ++ CH (j + vs.length : Nat) 64)) := ⟨fun j hj => by
                        rw [hset]
                        by_cases e : j = k
                        · subst e
                          rw [if_pos rfl, HNK.out, Int.natCast_add]
                          exact own_grown HN4.out (u := .slice (some ⟨G, 0, none⟩) vs.length vs.length) HGR'.out dH.symm
                        · rw [if_neg e]
                          exact own_grown (own_grown (pw_own_below (HGR.out j (by omega)) HBM.out) HG4.out (by have := (HD1.out k j (by omega) (fun e' => e e'.symm)).symm; rwa [HVK.out] at this)) (u := .slice (some ⟨G, 0, none⟩) vs.length vs.length) HGR'.out (HD3.out j (by omega)).symm⟩
                      have R2 : Aside0 (∀ i j, j < k + 1 → i ≠ j → disj (at_ vs i) (at_ (gs.set k (.slice A7 (n + 64) c7)) j)) := ⟨fun i j hj hij => by
                        rw [hset]
                        by_cases e : j = k
                        · subst e; rw [if_pos rfl]; exact dV i hij
                        · rw [if_neg e]; exact HD1.out i j (by omega) hij⟩
                      have R4 : Aside0 (∀ j, j < k + 1 → disj (.slice (some ⟨G, 0, none⟩) vs.length vs.length) (at_ (gs.set k (.slice A7 (n + 64) c7)) j)) := ⟨fun j hj => by
                        rw [hset]
                        by_cases e : j = k
                        · subst e; rw [if_pos rfl]; exact dH
                        · rw [if_neg e]; exact HD3.out j (by omega)⟩
                      have R5 : Aside0 (∀ j, j < k + 1 → disj (.slice (some ⟨L, 0, none⟩) vs.length c) (at_ (gs.set k (.slice A7 (n + 64) c7)) j)) := ⟨fun j hj => by
                        rw [hset]
                        by_cases e : j = k
                        · subst e; rw [if_pos rfl]; exact dL
                        · rw [if_neg e]; exact HD4.out j (by omega)⟩
                      have R6 := Aside0.mk (own_grown (own_grown HOi.out HG4.out (by have := HS.out k; rwa [HVK.out] at this)) (u := .slice (some ⟨G, 0, none⟩) vs.length vs.length) HGR'.out HLG.out)
                      have R7 : Aside0 (RowsO (w4.setCell ⟨G, k, none⟩ (.slice A7 (n + 64) c7)) base 48 3 vs ns (fun j => CH j (ns.getD j 0))) := ⟨fun j hj => by
                        by_cases e : j = k
                        · subst e
                          have := HQ4.out
                          rw [← HVK.out] at this
                          show World.ownsRow _ base 48 3 _ _ (CH j (ns.getD j 0))
                          rw [HNK.out]
                          exact own_grown this (u := .slice (some ⟨G, 0, none⟩) vs.length vs.length) HGR'.out (HVG.out j).symm
                        · exact own_grown (own_grown (hRi j hj) HG4.out (by have := HA.out j k e; rwa [HVK.out] at this)) (u := .slice (some ⟨G, 0, none⟩) vs.length vs.length) HGR'.out (HVG.out j).symm⟩
                      have R8 : Aside0 (Below base w (w4.setCell ⟨G, k, none⟩ (.slice A7 (n + 64) c7))) := ⟨HB4.out.setCell HGB.out _⟩
                      have R9 : Aside0 (KQ w (w4.setCell ⟨G, k, none⟩ (.slice A7 (n + 64) c7)) vs) := ⟨((HKQ.out.below HB.out.size HBM.out).step HBW.out.size HG4.out (fun q e => .inr ⟨k, by rw [HVK.out]; exact e⟩)).step HB4.out.size HGR'.out (fun q e => .inl (by injection e with e; subst e; exact HGW.out))⟩
                      have R0 : Aside0 ((gs.set k (.slice A7 (n + 64) c7)).length = vs.length) := ⟨by rw [List.length_set]; exact HGL.out⟩
                      clear hset dV dH dL hRi
                      go_roundw
                      case rel => exact ⟨k + 1, _, by omega, by go_num, R0, R1, R2, R4, R5, R6, HST, R7, R8, R9⟩
                      case measure => simp [intOf]; omega
                · obtain rfl : k = vs.length := by omega
                  go_wp2
                  obtain ⟨W2, hW2⟩ : ∃ x, x = wr := ⟨_, rfl⟩
                  subst hW2
                  go_loopw [2, 14] (fun v2 v14 wr => ∃ (k : Nat), k ≤ vs.length ∧ v2 = .bool false ∧ v14 = .int .i64 (k : Int) ∧ Aside0 (Below W2.heap.size W2 wr)) (fun _ v14 _ => vs.length - (intOf v14).toNat)
                  case atStart => exact ⟨0, Nat.zero_le _, rfl, rfl, ⟨Below.refl _ _⟩⟩
                  case round =>
                    obtain ⟨k, hk, rfl, rfl, HB3⟩ := hrel
                    by_cases hlt : k < vs.length
                    · obtain ⟨L, c', hLv, hLb, hLl⟩ := HO.out.form (by omega)
                      injection hLv with e1 _ e2
                      subst e1 e2
                      have hx00 : W2.cell? ⟨L, k, none⟩ = some (at_ vs k) := by
                        have := HO.out.cells (g := L) rfl k (at_ vs k) (by unfold at_; rw [List.getD_eq_getElem?_getD, List.getElem?_eq_getElem hlt]; rfl)
                        rwa [add_plain] at this
                      have hg00 : W2.cell? ⟨G, k, none⟩ = some (at_ gs k) := by
                        have := HGS.out.cells (g := G) rfl k (at_ gs k) (by unfold at_; rw [List.getD_eq_getElem?_getD, List.getElem?_eq_getElem (by rw [HGL.out]; exact hlt)]; rfl)
                        rwa [add_plain] at this
                      have hk0 := HR.out k hlt
                      have hj0 := HGR.out k hlt
                      obtain ⟨n, hnk⟩ : ∃ n, ns.getD k 0 = n := ⟨_, rfl⟩
                      have hn64 := HN.out k
                      simp only [hnk] at hk0 hj0 hn64
                      clear hnk
                      obtain ⟨Ak, ck, hvk⟩ := own_slice hk0
                      obtain ⟨bg, cg, hvg, hgb, hgl⟩ := hj0.form (by omega)
                      rw [hvk] at hx00 hk0
                      rw [hvg] at hg00 hj0
                      have HK0 := Aside0.mk hk0
                      have HJ0 := Aside0.mk hj0
                      clear hvk hvg hk0 hj0
                      have hx01 := pw_cell_below HB3.out hx00
                      have hg01 := pw_cell_below HB3.out hg00
                      go_wp2
                      go_loopw [2, 15] (fun v2 v15 wr => ∃ (j : Nat), j ≤ n ∧ v2 = .bool false ∧ v15 = .int .i64 (j : Int) ∧ Aside0 (Below W2.heap.size W2 wr)) (fun _ v15 _ => n - (intOf v15).toNat)
                      case atStart => exact ⟨0, Nat.zero_le _, rfl, rfl, HB3⟩
                      case round =>
                        clear HB3 hx01 hg01
                        obtain ⟨j, hj, rfl, rfl, HB⟩ := hrel
                        have hx0 := pw_cell_below HB.out hx00
                        have hg0 := pw_cell_below HB.out hg00
                        by_cases hlj : j < n
                        · have hlj' : (j : Int) < (n : Int) := by omega
                          have hlj6 : (j : Int) < (n : Int) + 64 := by omega
                          have hg1 : wr.cell? ⟨bg, j * 3, none⟩ = some (.int .i64 0) := pw_cell_below HB.out (by
                            have := HJ0.out.cells (g := bg) rfl (j * 3) (.int .i64 0) (by rw [List.getElem?_append_left (by rw [CH_len]; omega)]; exact CH_get0 _ hlj); rwa [add_plain] at this)
                          have hg2 : wr.cell? ⟨bg, j * 3 + 1, none⟩ = some (.int .i64 0) := pw_cell_below HB.out (by
                            have := HJ0.out.cells (g := bg) rfl (j * 3 + 1) (.int .i64 0) (by rw [List.getElem?_append_left (by rw [CH_len]; omega)]; exact CH_get1 _ hlj); rwa [add_plain] at this)
                          have hg3 : wr.cell? ⟨bg, j * 3 + 2, none⟩ = some (.int .i64 (mkI (k : Int) (j : Int))) := pw_cell_below HB.out (by
                            have := HJ0.out.cells (g := bg) rfl (j * 3 + 2) (.int .i64 (mkI (k : Int) (j : Int))) (by rw [List.getElem?_append_left (by rw [CH_len]; omega)]; exact CH_get2 _ hlj); rwa [add_plain] at this)
                          obtain ⟨bv, ck', hbv, hbb, hbl⟩ := HK0.out.form (by omega)
                          injection hbv with e1 _ e2
                          subst e1 e2
                          have hx1 : wr.cell? ⟨bv, j * 3, none⟩ = some (.int .i64 0) := pw_cell_below HB.out (by
                            have := HK0.out.cells (g := bv) rfl (j * 3) _ (CH_get0 _ hlj); rwa [add_plain] at this)
                          have hx2 : wr.cell? ⟨bv, j * 3 + 1, none⟩ = some (.int .i64 0) := pw_cell_below HB.out (by
                            have := HK0.out.cells (g := bv) rfl (j * 3 + 1) _ (CH_get1 _ hlj); rwa [add_plain] at this)
                          have hx3 : wr.cell? ⟨bv, j * 3 + 2, none⟩ = some (.int .i64 (mkI (k : Int) (j : Int))) := pw_cell_below HB.out (by
                            have := HK0.out.cells (g := bv) rfl (j * 3 + 2) _ (CH_get2 _ hlj); rwa [add_plain] at this)
                          go_wp2
                          refine start_ (n := 26) (S := fun w' => Below W2.heap.size W2 w' ∧ w'.cell? ⟨G, k, none⟩ = some (.slice (some ⟨bg, 0, none⟩) (n + 64) cg) ∧ w'.cell? ⟨bg, j * 3, none⟩ = some (.int .i64 0) ∧ w'.cell? ⟨bg, j * 3 + 1, none⟩ = some (.int .i64 0) ∧ w'.cell? ⟨bg, j * 3 + 2, none⟩ = some (.int .i64 (mkI (k : Int) (j : Int))) ∧ w'.cell? ⟨L, k, none⟩ = some (.slice (some ⟨bv, 0, none⟩) n ck) ∧ w'.cell? ⟨bv, j * 3, none⟩ = some (.int .i64 0) ∧ w'.cell? ⟨bv, j * 3 + 1, none⟩ = some (.int .i64 0) ∧ w'.cell? ⟨bv, j * 3 + 2, none⟩ = some (.int .i64 (mkI (k : Int) (j : Int)))) (ds := []) #[false, false, false, false, false, false, false, false, false, false, false, false, false, false, false, false, false, false, false, false, false, false, false, false, false, false] (by kernel_rfl) rfl rfl ⟨(below_drew HB.out), hg0, hg1, hg2, hg3, hx0, hx1, hx2, hx3⟩ (fun hHeld => ?_)
                          refine pure_ (i := 0) (N := some 167) (v := ?_) (a' := ?_) #[true, false, false, false, false, false, false, false, false, false, false, false, false, false, false, false, false, false, false, false, false, false, false, false, false, false] rfl rfl (by kernel_rfl) (fun _ _ _ h => h) (Or.inl ⟨by rfl, ?_⟩) ?_ ?_
                          rotate_left
                          · intro w'
                            go_simp
                            with_reducible rfl
                          rotate_left
                          · simp only [Act.put, List.setIfInBounds_toArray, List.set_cons_zero, List.set_cons_succ, i64_w, i32_w]
                            rfl
                          refine pure_ (i := 1) (N := some 168) (v := ?_) (a' := ?_) #[true, true, false, false, false, false, false, false, false, false, false, false, false, false, false, false, false, false, false, false, false, false, false, false, false, false] rfl rfl (by kernel_rfl) (fun _ _ _ h => h) (Or.inl ⟨by rfl, ?_⟩) ?_ ?_
                          rotate_left
                          · intro w'
                            go_simp
                            with_reducible rfl
                          rotate_left
                          · simp only [Act.put, List.setIfInBounds_toArray, List.set_cons_zero, List.set_cons_succ, i64_w, i32_w]
                            rfl
                          refine pure_ (i := 2) (N := some 169) (v := ?_) (a' := ?_) #[true, true, true, false, false, false, false, false, false, false, false, false, false, false, false, false, false, false, false, false, false, false, false, false, false, false] rfl rfl (by kernel_rfl) (fun _ _ _ h => h) (Or.inl ⟨by rfl, ?_⟩) ?_ ?_
                          rotate_left
                          · intro w'
                            go_simp
                            with_reducible rfl
                          rotate_left
                          · simp only [Act.put, List.setIfInBounds_toArray, List.set_cons_zero, List.set_cons_succ, i64_w, i32_w]
                            rfl
                          refine pure_ (i := 4) (N := some 171) (v := ?_) (a' := ?_) #[true, true, true, false, true, false, false, false, false, false, false, false, false, false, false, false, false, false, false, false, false, false, false, false, false, false] rfl rfl (by kernel_rfl) (fun _ _ _ h => h) (Or.inl ⟨by rfl, ?_⟩) ?_ ?_
                          rotate_left
                          · intro w'
                            go_simp
                            with_reducible rfl
                          rotate_left
                          · simp only [Act.put, List.setIfInBounds_toArray, List.set_cons_zero, List.set_cons_succ, i64_w, i32_w]
                            rfl
                          refine pure_ (i := 7) (N := some 174) (v := ?_) (a' := ?_) #[true, true, true, false, true, false, false, true, false, false, false, false, false, false, false, false, false, false, false, false, false, false, false, false, false, false] rfl rfl (by kernel_rfl) (fun _ _ _ h => h) (Or.inl ⟨by rfl, ?_⟩) ?_ ?_
                          rotate_left
                          · intro w'
                            go_simp
                            with_reducible rfl
                          rotate_left
                          · simp only [Act.put, List.setIfInBounds_toArray, List.set_cons_zero, List.set_cons_succ, i64_w, i32_w]
                            rfl
                          refine pure_ (i := 8) (N := some 175) (v := ?_) (a' := ?_) #[true, true, true, false, true, false, false, true, true, false, false, false, false, false, false, false, false, false, false, false, false, false, false, false, false, false] rfl rfl (by kernel_rfl) (fun _ _ _ h => h) (Or.inl ⟨by rfl, ?_⟩) ?_ ?_
                          rotate_left
                          · intro w'
                            go_simp
                            with_reducible rfl
                          rotate_left
                          · simp only [Act.put, List.setIfInBounds_toArray, List.set_cons_zero, List.set_cons_succ, i64_w, i32_w]
                            rfl
                          refine take_ (i := 3) (N := some 170) (v := ?_) (a' := ?_) #[true, true, true, true, true, false, false, true, true, false, false, false, false, false, false, false, false, false, false, false, false, false, false, false, false, false] rfl rfl (by kernel_rfl) (fun _ _ _ h => h) (Or.inl ⟨by rfl, ?_⟩) hHeld ?_ ?_
                          rotate_left
                          · rintro w' ⟨s0, s1, s2, s3, s4, s5, s6, s7, s8⟩
                            go_simp
                            with_reducible rfl
                          rotate_left
                          · simp only [Act.put, List.setIfInBounds_toArray, List.set_cons_zero, List.set_cons_succ, i64_w, i32_w]
                            rfl
                          refine pure_ (i := 5) (N := some 172) (v := ?_) (a' := ?_) #[true, true, true, true, true, true, false, true, true, false, false, false, false, false, false, false, false, false, false, false, false, false, false, false, false, false] rfl rfl (by kernel_rfl) (fun _ _ _ h => h) (Or.inl ⟨by rfl, ?_⟩) ?_ ?_
                          rotate_left
                          · intro w'
                            go_simp
                            with_reducible rfl
                          rotate_left
                          · simp only [Act.put, List.setIfInBounds_toArray, List.set_cons_zero, List.set_cons_succ, i64_w, i32_w]
                            rfl
                          refine take_ (i := 6) (N := some 173) (v := ?_) (a' := ?_) #[true, true, true, true, true, true, true, true, true, false, false, false, false, false, false, false, false, false, false, false, false, false, false, false, false, false] rfl rfl (by kernel_rfl) (fun _ _ _ h => h) (Or.inl ⟨by rfl, ?_⟩) hHeld ?_ ?_
                          rotate_left
                          · rintro w' ⟨s0, s1, s2, s3, s4, s5, s6, s7, s8⟩
                            go_simp
                            with_reducible rfl
                          rotate_left
                          · simp only [Act.put, List.setIfInBounds_toArray, List.set_cons_zero, List.set_cons_succ, i64_w, i32_w]
                            rfl
                          refine one_ (i := 9) (N := some 176) #[true, true, true, true, true, true, true, true, true, true, false, false, false, false, false, false, false, false, false, false, false, false, false, false, false, false] rfl rfl (by kernel_rfl) (by decide) (fun K hK => ?_)
                          refine goes_ Tryz.func90 (by kernel_rfl) rfl #[.int .i64 (k : Int), .int .i64 (j : Int)] (by rfl) rfl rfl (by simp only [List.map_toArray, List.map_cons, List.map_nil]; rfl) ?_
                          with_reducible refine (mark_home (k : Int) (j : Int) _ (by omega) (by omega) (by omega) (by omega)).mono ?_
                          rintro e w3 ⟨rfl, hb3⟩
                          refine ⟨_, rfl, ?_⟩
                          refine hK.out _ _ ⟨(below_then hHeld.1 hHeld.1.size hb3), (pw_cell_below hb3 hHeld.2.1), (pw_cell_below hb3 hHeld.2.2.1), (pw_cell_below hb3 hHeld.2.2.2.1), (pw_cell_below hb3 hHeld.2.2.2.2.1), (pw_cell_below hb3 hHeld.2.2.2.2.2.1), (pw_cell_below hb3 hHeld.2.2.2.2.2.2.1), (pw_cell_below hb3 hHeld.2.2.2.2.2.2.2.1), (pw_cell_below hb3 hHeld.2.2.2.2.2.2.2.2)⟩ (fun hHeld => ?_)
                          clear hK K
                          refine norm_ (a' := ?_) ?_ ?_
                          rotate_left
                          · show Act.put _ (some 176) _ = _
                            simp only [Act.put, List.setIfInBounds_toArray, List.set_cons_zero, List.set_cons_succ, i64_w, i32_w]
                            rfl
                          refine pure_ (i := 10) (N := some 177) (v := ?_) (a' := ?_) #[true, true, true, true, true, true, true, true, true, true, true, false, false, false, false, false, false, false, false, false, false, false, false, false, false, false] rfl rfl (by kernel_rfl) (fun _ _ _ h => h) (Or.inl ⟨by rfl, ?_⟩) ?_ ?_
                          rotate_left
                          · intro w'
                            refine (exec_eql48 (x := .tmp 173) (y := .tmp 176) (yt := 48) (a := 0) (b := 0) (c := mkI (k : Int) (j : Int)) w' rfl rfl rfl).trans ?_
                            with_reducible rfl
                          rotate_left
                          · simp only [Act.put, List.setIfInBounds_toArray, List.set_cons_zero, List.set_cons_succ, i64_w, i32_w]
                            rfl
                          refine pure_ (i := 11) (N := some 178) (v := ?_) (a' := ?_) #[true, true, true, true, true, true, true, true, true, true, true, true, false, false, false, false, false, false, false, false, false, false, false, false, false, false] rfl rfl (by kernel_rfl) (fun _ _ _ h => h) (Or.inl ⟨by rfl, ?_⟩) ?_ ?_
                          rotate_left
                          · intro w'
                            go_simp
                            with_reducible rfl
                          rotate_left
                          · simp only [Act.put, List.setIfInBounds_toArray, List.set_cons_zero, List.set_cons_succ, i64_w, i32_w]
                            rfl
                          refine pure_ (i := 12) (N := some 179) (v := ?_) (a' := ?_) #[true, true, true, true, true, true, true, true, true, true, true, true, true, false, false, false, false, false, false, false, false, false, false, false, false, false] rfl rfl (by kernel_rfl) (fun _ _ _ h => h) (Or.inl ⟨by rfl, ?_⟩) ?_ ?_
                          rotate_left
                          · intro w'
                            go_simp
                            with_reducible rfl
                          rotate_left
                          · simp only [Act.put, List.setIfInBounds_toArray, List.set_cons_zero, List.set_cons_succ, i64_w, i32_w]
                            rfl
                          refine pure_ (i := 13) (N := some 180) (v := ?_) (a' := ?_) #[true, true, true, true, true, true, true, true, true, true, true, true, true, true, false, false, false, false, false, false, false, false, false, false, false, false] rfl rfl (by kernel_rfl) (fun _ _ _ h => h) (Or.inl ⟨by rfl, ?_⟩) ?_ ?_
                          rotate_left
                          · intro w'
                            go_simp
                            with_reducible rfl
                          rotate_left
                          · simp only [Act.put, List.setIfInBounds_toArray, List.set_cons_zero, List.set_cons_succ, i64_w, i32_w]
                            rfl
                          refine pure_ (i := 14) (N := some 181) (v := ?_) (a' := ?_) #[true, true, true, true, true, true, true, true, true, true, true, true, true, true, true, false, false, false, false, false, false, false, false, false, false, false] rfl rfl (by kernel_rfl) (fun _ _ _ h => h) (Or.inl ⟨by rfl, ?_⟩) ?_ ?_
                          rotate_left
                          · intro w'
                            go_simp
                            with_reducible rfl
                          rotate_left
                          · simp only [Act.put, List.setIfInBounds_toArray, List.set_cons_zero, List.set_cons_succ, i64_w, i32_w]
                            rfl
                          refine pure_ (i := 15) (N := some 182) (v := ?_) (a' := ?_) #[true, true, true, true, true, true, true, true, true, true, true, true, true, true, true, true, false, false, false, false, false, false, false, false, false, false] rfl rfl (by kernel_rfl) (fun _ _ _ h => h) (Or.inl ⟨by rfl, ?_⟩) ?_ ?_
                          rotate_left
                          · intro w'
                            go_simp
                            with_reducible rfl
                          rotate_left
                          · simp only [Act.put, List.setIfInBounds_toArray, List.set_cons_zero, List.set_cons_succ, i64_w, i32_w]
                            rfl
                          refine pure_ (i := 17) (N := some 184) (v := ?_) (a' := ?_) #[true, true, true, true, true, true, true, true, true, true, true, true, true, true, true, true, false, true, false, false, false, false, false, false, false, false] rfl rfl (by kernel_rfl) (fun _ _ _ h => h) (Or.inl ⟨by rfl, ?_⟩) ?_ ?_
                          rotate_left
                          · intro w'
                            go_simp
                            with_reducible rfl
                          rotate_left
                          · simp only [Act.put, List.setIfInBounds_toArray, List.set_cons_zero, List.set_cons_succ, i64_w, i32_w]
                            rfl
                          refine pure_ (i := 20) (N := some 187) (v := ?_) (a' := ?_) #[true, true, true, true, true, true, true, true, true, true, true, true, true, true, true, true, false, true, false, false, true, false, false, false, false, false] rfl rfl (by kernel_rfl) (fun _ _ _ h => h) (Or.inl ⟨by rfl, ?_⟩) ?_ ?_
                          rotate_left
                          · intro w'
                            go_simp
                            with_reducible rfl
                          rotate_left
                          · simp only [Act.put, List.setIfInBounds_toArray, List.set_cons_zero, List.set_cons_succ, i64_w, i32_w]
                            rfl
                          refine pure_ (i := 21) (N := some 188) (v := ?_) (a' := ?_) #[true, true, true, true, true, true, true, true, true, true, true, true, true, true, true, true, false, true, false, false, true, true, false, false, false, false] rfl rfl (by kernel_rfl) (fun _ _ _ h => h) (Or.inl ⟨by rfl, ?_⟩) ?_ ?_
                          rotate_left
                          · intro w'
                            go_simp
                            with_reducible rfl
                          rotate_left
                          · simp only [Act.put, List.setIfInBounds_toArray, List.set_cons_zero, List.set_cons_succ, i64_w, i32_w]
                            rfl
                          refine take_ (i := 16) (N := some 183) (v := ?_) (a' := ?_) #[true, true, true, true, true, true, true, true, true, true, true, true, true, true, true, true, true, true, false, false, true, true, false, false, false, false] rfl rfl (by kernel_rfl) (fun _ _ _ h => h) (Or.inl ⟨by rfl, ?_⟩) hHeld ?_ ?_
                          rotate_left
                          · rintro w' ⟨s0, s1, s2, s3, s4, s5, s6, s7, s8⟩
                            go_simp
                            with_reducible rfl
                          rotate_left
                          · simp only [Act.put, List.setIfInBounds_toArray, List.set_cons_zero, List.set_cons_succ, i64_w, i32_w]
                            rfl
                          refine pure_ (i := 18) (N := some 185) (v := ?_) (a' := ?_) #[true, true, true, true, true, true, true, true, true, true, true, true, true, true, true, true, true, true, true, false, true, true, false, false, false, false] rfl rfl (by kernel_rfl) (fun _ _ _ h => h) (Or.inl ⟨by rfl, ?_⟩) ?_ ?_
                          rotate_left
                          · intro w'
                            go_simp
                            with_reducible rfl
                          rotate_left
                          · simp only [Act.put, List.setIfInBounds_toArray, List.set_cons_zero, List.set_cons_succ, i64_w, i32_w]
                            rfl
                          refine take_ (i := 19) (N := some 186) (v := ?_) (a' := ?_) #[true, true, true, true, true, true, true, true, true, true, true, true, true, true, true, true, true, true, true, true, true, true, false, false, false, false] rfl rfl (by kernel_rfl) (fun _ _ _ h => h) (Or.inl ⟨by rfl, ?_⟩) hHeld ?_ ?_
                          rotate_left
                          · rintro w' ⟨s0, s1, s2, s3, s4, s5, s6, s7, s8⟩
                            go_simp
                            with_reducible rfl
                          rotate_left
                          · simp only [Act.put, List.setIfInBounds_toArray, List.set_cons_zero, List.set_cons_succ, i64_w, i32_w]
                            rfl
                          refine one_ (i := 22) (N := some 189) #[true, true, true, true, true, true, true, true, true, true, true, true, true, true, true, true, true, true, true, true, true, true, true, false, false, false] rfl rfl (by kernel_rfl) (by decide) (fun K hK => ?_)
                          refine goes_ Tryz.func90 (by kernel_rfl) rfl #[.int .i64 (k : Int), .int .i64 (j : Int)] (by rfl) rfl rfl (by simp only [List.map_toArray, List.map_cons, List.map_nil]; rfl) ?_
                          with_reducible refine (mark_home (k : Int) (j : Int) _ (by omega) (by omega) (by omega) (by omega)).mono ?_
                          rintro e w3 ⟨rfl, hb3⟩
                          refine ⟨_, rfl, ?_⟩
                          refine hK.out _ _ ⟨(below_then hHeld.1 hHeld.1.size hb3), (pw_cell_below hb3 hHeld.2.1), (pw_cell_below hb3 hHeld.2.2.1), (pw_cell_below hb3 hHeld.2.2.2.1), (pw_cell_below hb3 hHeld.2.2.2.2.1), (pw_cell_below hb3 hHeld.2.2.2.2.2.1), (pw_cell_below hb3 hHeld.2.2.2.2.2.2.1), (pw_cell_below hb3 hHeld.2.2.2.2.2.2.2.1), (pw_cell_below hb3 hHeld.2.2.2.2.2.2.2.2)⟩ (fun hHeld => ?_)
                          clear hK K
                          refine norm_ (a' := ?_) ?_ ?_
                          rotate_left
                          · show Act.put _ (some 189) _ = _
                            simp only [Act.put, List.setIfInBounds_toArray, List.set_cons_zero, List.set_cons_succ, i64_w, i32_w]
                            rfl
                          refine pure_ (i := 23) (N := some 190) (v := ?_) (a' := ?_) #[true, true, true, true, true, true, true, true, true, true, true, true, true, true, true, true, true, true, true, true, true, true, true, true, false, false] rfl rfl (by kernel_rfl) (fun _ _ _ h => h) (Or.inl ⟨by rfl, ?_⟩) ?_ ?_
                          rotate_left
                          · intro w'
                            refine (exec_eql48 (x := .tmp 186) (y := .tmp 189) (yt := 48) (a := 0) (b := 0) (c := mkI (k : Int) (j : Int)) w' rfl rfl rfl).trans ?_
                            with_reducible rfl
                          rotate_left
                          · simp only [Act.put, List.setIfInBounds_toArray, List.set_cons_zero, List.set_cons_succ, i64_w, i32_w]
                            rfl
                          refine pure_ (i := 24) (N := some 191) (v := ?_) (a' := ?_) #[true, true, true, true, true, true, true, true, true, true, true, true, true, true, true, true, true, true, true, true, true, true, true, true, true, false] rfl rfl (by kernel_rfl) (fun _ _ _ h => h) (Or.inl ⟨by rfl, ?_⟩) ?_ ?_
                          rotate_left
                          · intro w'
                            go_simp
                            with_reducible rfl
                          rotate_left
                          · simp only [Act.put, List.setIfInBounds_toArray, List.set_cons_zero, List.set_cons_succ, i64_w, i32_w]
                            rfl
                          refine pure_ (i := 25) (N := some 192) (v := ?_) (a' := ?_) #[true, true, true, true, true, true, true, true, true, true, true, true, true, true, true, true, true, true, true, true, true, true, true, true, true, true] rfl rfl (by kernel_rfl) (fun _ _ _ h => h) (Or.inl ⟨by rfl, ?_⟩) ?_ ?_
                          rotate_left
                          · intro w'
                            go_simp
                            with_reducible rfl
                          rotate_left
                          · simp only [Act.put, List.setIfInBounds_toArray, List.set_cons_zero, List.set_cons_succ, i64_w, i32_w]
                            rfl
                          refine done_ (by kernel_rfl) ?_
                          go_wp2
                          go_roundw
                          case rel => exact ⟨j + 1, by omega, rfl, by go_num, ⟨hHeld.1⟩⟩
                          case measure => simp [intOf]; omega
                        · obtain rfl : j = n := by omega
                          go_wp2
                          go_roundw
                          case rel => exact ⟨k + 1, by omega, rfl, by go_num, HB⟩
                          case measure => simp [intOf]; omega
                    · obtain rfl : k = vs.length := by omega
                      go_wp2
                      go_ret
                      exact ⟨rfl, below_then HB.out (Nat.le_trans hbase HB.out.size) HB3.out, HKQ.out.below HB.out.size HB3.out⟩
end Go.Proofs.YtcmbpboeilojmaaGreat.Sw
