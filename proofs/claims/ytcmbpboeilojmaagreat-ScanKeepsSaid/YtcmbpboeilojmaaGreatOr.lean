/- The walk of scan.ordered: what it answers is ordB. -/
import Derived.Test.YtcmbpboeilojmaaGreatFx0
import Derived.Test.YtcmbpboeilojmaaGreatMi
import Derived.Test.YtcmbpboeilojmaaGreatFxf24
import Derived.Test.YtcmbpboeilojmaaGreatFxf25
import Derived.Deep.DeepCutAuto
namespace Go.Proofs.YtcmbpboeilojmaaGreat.Sw
open Go Go.RowKit Go.Proofs.YtcmbpboeilojmaaGreatW.PrintWords Go.Proofs.YtcmbpboeilojmaaGreatW.PrintLast Go.Proofs.YtcmbpboeilojmaaGreatW.PrintMore Go.Proofs.YtcmbpboeilojmaaGreat.Mi Go.Proofs.YtcmbpboeilojmaaGreat.F
set_option linter.unusedVariables false
set_option linter.unusedSimpArgs false

def wfS (l : List S36) : Prop := ∀ m ∈ l, wf m.f0
theorem wf_zero : wf 0 := by unfold wf; decide
theorem wf_one : wf 1 := by unfold wf; decide
theorem wfS_at {l : List S36} (h : wfS l) (i : Int) : wf (rd_T36 l i).f0 := by
  unfold rd_T36
  by_cases hi : i.toNat < l.length
  · rw [List.getD_eq_getElem?_getD, List.getElem?_eq_getElem hi]; exact h _ (List.getElem_mem hi)
  · rw [List.getD_eq_getElem?_getD, List.getElem?_eq_none (by omega)]; exact wf_zero

theorem wrap64_small {n : Int} (h1 : -9223372036854775808 ≤ n) (h2 : n ≤ 9223372036854775807) : wrap64 n = n := by unfold wrap64; omega
/-- the names that the first k spans bear. -/
def seen (l : List S36) : Int → Option Int := l.foldl (fun f m => mput f m.f0 1) mnil
theorem seen_succ (l : List S36) (k : Nat) (h : k < l.length) : seen (l.take (k + 1)) = mput (seen (l.take k)) (rd_T36 l k).f0 1 := by
  unfold seen rd_T36
  rw [List.take_succ_eq_append_getElem h, List.foldl_append, List.getD_eq_getElem?_getD, Int.toNat_natCast, List.getElem?_eq_getElem h]
  rfl
theorem seen_get (l : List S36) (x : Int) : mget (seen l) x = if ∃ m ∈ l, m.f0 = x then 1 else 0 := by
  unfold seen
  have : ∀ (l : List S36) (f : Int → Option Int), mget (l.foldl (fun f m => mput f m.f0 1) f) x = if ∃ m ∈ l, m.f0 = x then 1 else mget f x := by
    intro l
    induction l with
    | nil => intro f; simp
    | cons a r ih =>
      intro f
      rw [List.foldl_cons, ih]
      by_cases e : ∃ m ∈ r, m.f0 = x
      · rw [if_pos e, if_pos (by obtain ⟨m, hm, e⟩ := e; exact ⟨m, List.mem_cons_of_mem _ hm, e⟩)]
      · rw [if_neg e]
        by_cases ea : a.f0 = x
        · rw [if_pos ⟨a, List.mem_cons_self, ea⟩]
          simp [mget, mput, ea]
        · rw [if_neg (by
            rintro ⟨m, hm, e'⟩
            rcases List.mem_cons.1 hm with rfl | hm
            · exact ea e'
            · exact e ⟨m, hm, e'⟩)]
          unfold mget mput
          rw [if_neg (fun h => ea h.symm)]
  rw [this]
  rfl
/-- what is wrong at place k by itself, and against the one ahead. -/
def badA (l : List S36) (k : Nat) : Bool :=
  let m := rd_T36 l k
  decide (m.f1 < -1) || (decide (m.f2 < m.f1) || (decide (m.f2 > 1099511627776) || (decide (m.f0 < 0) || decide (mget (seen (l.take k)) m.f0 > 0))))
def lexLt (p m : S36) : Prop := p.f1 < m.f1 ∨ (p.f1 = m.f1 ∧ p.f0 < m.f0)
instance (p m : S36) : Decidable (lexLt p m) := by unfold lexLt; exact inferInstance
def badB (l : List S36) (k : Nat) : Bool := decide (0 < k) && decide (¬ lexLt (rd_T36 l (k - 1 : Int)) (rd_T36 l k))
def ordB (l : List S36) : Bool := (List.range l.length).all (fun k => !badA l k && !badB l k)
theorem ordB_bad {l : List S36} {k : Nat} (h : k < l.length) (hb : badA l k = true ∨ badB l k = true) : ordB l = false := by
  unfold ordB
  rw [List.all_eq_false]
  refine ⟨k, List.mem_range.2 h, ?_⟩
  rcases hb with hb | hb <;> simp [hb]
theorem ordB_end {l : List S36} (h : ∀ k, k < l.length → badA l k = false ∧ badB l k = false) : ordB l = true := by
  unfold ordB
  rw [List.all_eq_true]
  intro k hk
  have := h k (List.mem_range.1 hk)
  simp [this.1, this.2]
theorem zero3 (w : World) : (zeroValue 3).run Tryz.prog w = .ok (.int .i64 0) w := by kernel_rfl

def cmpI (a b : Int) : Int := if a < b then -1 else if a > b then 1 else 0
theorem cmp_f (a b : Int) : cmp_Compare_int.f a b = some (cmpI a b) := by
  unfold cmp_Compare_int.f cmp_isNaN_int.f cmpI
  simp
  split
  · rfl
  · split <;> rfl
def orI (a b : Int) : Int := if a = 0 then b else a
theorem or_f (a b : Int) : cmp_Or_int.f 4 [a, b] = some (orI a b) := by
  unfold cmp_Or_int.f orI
  have w0 : wrap64 (1 : Int) = 1 := wrap64_small (by omega) (by omega)
  have w1 : wrap64 (2 : Int) = 2 := wrap64_small (by omega) (by omega)
  by_cases ha : a = 0
  · by_cases hb : b = 0
    · simp [cmp_Or_int.l0, rd, w0, w1, ha, hb]
    · simp [cmp_Or_int.l0, rd, w0, w1, ha, hb]
  · simp [cmp_Or_int.l0, rd, w0, w1, ha]
theorem lex_cmp (p m : S36) : (0 ≤ orI (cmpI p.f1 m.f1) (cmpI p.f0 m.f0)) ↔ ¬ lexLt p m := by
  unfold orI cmpI lexLt
  split <;> split <;> (try split) <;> (try split) <;> omega

theorem or2_calls (A0 : Option Addr) (a b : Int) (w : World) (hr0 : Kd.C (Kd.int .i64) w A0 2 [a, b]) : Calls Tryz.prog 24 #[.slice A0 2 2] w fun e w' => e = .returned (.int .i64 (orI a b)) ∧ Drawn0 w w' := cmp_Or_int.calls 4 A0 2 [a, b] _ w hr0 (Nat.le_refl 2) (or_f a b)
section
variable {P : Program} {ops : Array Oper} {o : Oper} {a : Act} {Q : Exit → Act → World → Prop} {Kc : Act → World → Prop}
/-- two numbers laid as a row of their own. -/
theorem lit2_C (W : World) (x y : Int) (e : Nat) : Kd.C (Kd.int .i64) (W.alloc (.cells #[.int .i64 x, .int .i64 y] e)) (some ⟨W.heap.size, 0, none⟩) 2 [x, y] := by
  refine ⟨rfl, by decide, fun _ => ⟨_, rfl, fun j p hp => ?_⟩⟩
  have hb := blk_new W (.cells #[.int .i64 x, .int .i64 y] e)
  match j, hp with
  | 0, hp =>
    cases hp
    refine ⟨[.int .i64 x], rfl, rfl, fun i u hu => ?_⟩
    match i, hu with
    | 0, hu => cases hu; exact (blk_cell hb 0).trans rfl
    | i + 1, hu => simp at hu
  | 1, hp =>
    cases hp
    refine ⟨[.int .i64 y], rfl, rfl, fun i u hu => ?_⟩
    match i, hu with
    | 0, hu => cases hu; exact (blk_cell hb 1).trans rfl
    | i + 1, hu => simp at hu
  | j + 2, hp => simp at hp
theorem lit2_step {W : World} {x y : Int} {e : Nat} (hw : Region.wanted o (yielded ops a.tmps) = true)
    (hrun : (execOp a.eval o).run P W = .ok (.value (.slice (some ⟨W.heap.size, 0, none⟩) 2 2)) (W.alloc (.cells #[.int .i64 x, .int .i64 y] e)))
    (h : ∀ nb w1, Kd.C (Kd.int .i64) w1 (some ⟨nb, 0, none⟩) 2 [x, y] → Below W.heap.size W w1 → Kc (a.put o.dst (.slice (some ⟨nb, 0, none⟩) 2 2)) w1) : if Region.wanted o (yielded ops a.tmps) = true then Oper.wp P o a W Kc Q else Kc (a.put o.dst undef) W :=
  event_step hw hrun (h _ _ (lit2_C W x y e) (below_alloc (Below.refl _ _) _))
end

set_option maxHeartbeats 1000000 in
set_option maxRecDepth 100000 in
theorem ordered_calls (A0 : Option Addr) (c0 : Nat) (l : List S36) (w : World) (hr0 : Kd.C k36 w A0 l.length l) (hlen : l.length ≤ 1000000) (hwf : wfS l) :
    Calls Tryz.prog 12 #[.slice A0 l.length c0] w fun e w' => e = .returned (.bool (ordB l)) ∧ Below w.heap.size w w' := by
  have HR0 := Aside0.mk hr0
  have HWF := Aside0.mk hwf
  clear hr0 hwf
  have hmm := @run_makeMap Tryz.prog
  go_enter Tryz.func12, Tryz.ntmps12
  go_wp2
  go_loopw [9] (fun i wr => ∃ k : Nat, k ≤ l.length ∧ i = .int .i64 k ∧ Aside0 (MapIs Tryz.prog 3 wr w.heap.size k (seen (l.take k))) ∧ Aside0 (∀ j, j < k → badA l j = false ∧ badB l j = false) ∧ Aside0 (Below w.heap.size w wr)) (fun i _ => l.length - (intOf i).toNat)
  case atStart => exact ⟨0, Nat.zero_le _, rfl, ⟨MapIs.made _ _ _⟩, ⟨fun j hj => absurd hj (by omega)⟩, ⟨(Below.refl _ _).alloc (Nat.le_refl _) _⟩⟩
  case round =>
    obtain ⟨k, hk, rfl, HM, HG, HB⟩ := hrel
    by_cases hlt : k < l.length
    · have p1 : (0 : Int) ≤ (k : Int) := by omega
      have q1 : (k : Int) < l.length := by omega
      obtain ⟨ad, rfl, hx0, hx1, hx2⟩ := at_T36 (Kd.C_below HR0.out HB.out) (k : Int) p1 q1
      simp only [Int.toNat_natCast] at hx0 hx1 hx2
      have HLT := Aside0.mk hlt
      have HW := Aside0.mk (wfS_at HWF.out (k : Int))
      clear q1
      have FIN := Aside0.mk (show badA l k = true ∨ badB l k = true → ∀ e : Ending, e = Ending.returned (Value.bool false) → e = Ending.returned (Value.bool (ordB l)) from fun h e he => by rw [ordB_bad HLT.out h]; exact he)
      have DEC := Aside0.mk (show badA l k = (decide ((rd_T36 l k).f1 < -1) || (decide ((rd_T36 l k).f2 < (rd_T36 l k).f1) || (decide ((rd_T36 l k).f2 > 1099511627776) || (decide ((rd_T36 l k).f0 < 0) || decide (mget (seen (l.take k)) (rd_T36 l k).f0 > 0))))) from rfl)
      by_cases c1 : (rd_T36 l k).f1 < -1
      · have HE := Aside0.mk (show badA l k = true by rw [DEC.out, decide_eq_true c1]; rfl)
        go_wp2
        go_ret
        exact ⟨FIN.out (.inl HE.out) _ rfl, HB.out.alloc HB.out.size _⟩
      by_cases c2 : (rd_T36 l k).f2 < (rd_T36 l k).f1
      · have HE := Aside0.mk (show badA l k = true by rw [DEC.out, decide_eq_true c2]; simp)
        go_wp2
        go_ret
        exact ⟨FIN.out (.inl HE.out) _ rfl, HB.out.alloc HB.out.size _⟩
      by_cases c3 : (rd_T36 l k).f2 > 1099511627776
      · have HE := Aside0.mk (show badA l k = true by rw [DEC.out, decide_eq_true c3]; simp)
        go_wp2
        go_ret
        exact ⟨FIN.out (.inl HE.out) _ rfl, HB.out.alloc HB.out.size _⟩
      by_cases c4 : (rd_T36 l k).f0 < 0
      · have HE := Aside0.mk (show badA l k = true by rw [DEC.out, decide_eq_true c4]; simp)
        go_wp2
        go_ret
        exact ⟨FIN.out (.inl HE.out) _ rfl, HB.out.alloc HB.out.size _⟩
      have DEC2 := Aside0.mk (show badA l k = decide (mget (seen (l.take k)) (rd_T36 l k).f0 > 0) by rw [DEC.out, decide_eq_false c1, decide_eq_false c2, decide_eq_false c3, decide_eq_false c4]; rfl)
      obtain ⟨adS, eS⟩ : ∃ o, o = Obj.cells #[.int .i64 (rd_T36 l k).f0, .int .i64 (rd_T36 l k).f1, .int .i64 (rd_T36 l k).f2] 36 := ⟨_, rfl⟩
      have HM1 := Aside0.mk (HM.out.alloc (.cells #[.int .i64 (rd_T36 l k).f0, .int .i64 (rd_T36 l k).f1, .int .i64 (rd_T36 l k).f2] 36))
      clear adS eS
      have hlk := HM1.out.run_look (t := 86) Tryz.underlying3 Tryz.underlying86 zero3 _ HW.out
      by_cases c5 : mget (seen (l.take k)) (rd_T36 l k).f0 > 0
      · have HE := Aside0.mk (show badA l k = true by rw [DEC2.out]; exact decide_eq_true c5)
        go_wp2
        go_ret
        exact ⟨FIN.out (.inl HE.out) _ rfl, HB.out.alloc HB.out.size _⟩
      · have HE := Aside0.mk (show badA l k = false by rw [DEC2.out]; exact decide_eq_false c5)
        have e0 : mget (seen (l.take k)) (rd_T36 l k).f0 = 0 := by
          rw [seen_get] at c5 ⊢
          by_cases e : ∃ m ∈ l.take k, m.f0 = (rd_T36 l k).f0
          · rw [if_pos e] at c5; omega
          · rw [if_neg e]
        rw [e0] at hlk
        clear c5 e0
        obtain ⟨w1, hst, hM2, hg2⟩ := HM1.out.run_store (t := 86) Tryz.underlying3 Tryz.underlying86 (by simp only [maxLen]; omega) _ 1 HW.out wf_one
        have HM2 := Aside0.mk hM2
        have HG2 := Aside0.mk hg2
        clear hM2 hg2
        go_wp2
        --R8
        have HSZ := Aside0.mk HB.out.size
        have HB2 := Aside0.mk ((HB.out.alloc HB.out.size (.cells #[.int .i64 (rd_T36 l k).f0, .int .i64 (rd_T36 l k).f1, .int .i64 (rd_T36 l k).f2] 36)).grown HG2.out (by have := HB.out.size; simp; omega) (fun j hj => by cases hj; exact Nat.le_refl _))
        have HM3 := Aside0.mk (show MapIs Tryz.prog 3 w1 w.heap.size (k + 1) (seen (l.take (k + 1))) by rw [seen_succ l k HLT.out]; exact HM2.out)
        have hnew := blk_new wr (.cells #[.int .i64 (rd_T36 l k).f0, .int .i64 (rd_T36 l k).f1, .int .i64 (rd_T36 l k).f2] 36)
        have hnw : w1.heap[wr.heap.size]? = some (.cells #[.int .i64 (rd_T36 l k).f0, .int .i64 (rd_T36 l k).f1, .int .i64 (rd_T36 l k).f2] 36) := by
          rw [HG2.out.block _ (by simp) (by have := HM.out.lt; intro h; injection h with h; omega)]; exact hnew
        have s0 := (blk_cell hnw 0).trans rfl
        have s1 := (blk_cell hnw 1).trans rfl
        clear hnew hnw hst hmm hlk
        by_cases hk0 : 0 < k
        · have HWR := Aside0.mk (show wrap64 ((k : Int) - 1) = (k : Int) - 1 from wrap64_small (by omega) (by omega))
          have p2 : (0 : Int) ≤ wrap64 ((k : Int) - 1) := by rw [HWR.out]; omega
          have q2 : wrap64 ((k : Int) - 1) < l.length := by rw [HWR.out]; have := HLT.out; omega
          obtain ⟨ad2, e2, y0, y1, _⟩ := at_T36 (Kd.C_below HR0.out HB2.out) (wrap64 ((k : Int) - 1)) p2 q2
          cases e2
          have d0 : decide ((0 : Int) < (k : Int)) = true := decide_eq_true (by omega)
          refine start_ (n := 25) (S := fun w' => Below w.heap.size w w' ∧ MapIs Tryz.prog 3 w' w.heap.size (k + 1) (seen (l.take (k + 1))) ∧ w'.cell? ⟨wr.heap.size, 0, none⟩ = some (.int .i64 (rd_T36 l k).f0) ∧ w'.cell? ⟨wr.heap.size, 1, none⟩ = some (.int .i64 (rd_T36 l k).f1) ∧ w'.cell? (ad.add ((wrap64 ((k : Int) - 1)).toNat * 3)) = some (.int .i64 (rd_T36 l (wrap64 ((k : Int) - 1))).f0) ∧ w'.cell? ⟨(ad.add ((wrap64 ((k : Int) - 1)).toNat * 3)).block, (ad.add ((wrap64 ((k : Int) - 1)).toNat * 3)).off + 1, none⟩ = some (.int .i64 (rd_T36 l (wrap64 ((k : Int) - 1))).f1)) (ds := []) #[false, false, false, false, false, false, false, false, false, false, false, false, false, false, false, false, false, false, false, false, false, false, false, false, false] (by kernel_rfl) rfl rfl ⟨(below_drew HB2.out), (HM3.out.drewN 1), (pw_cell_below (below_drew (Below.refl _ _)) s0), (pw_cell_below (below_drew (Below.refl _ _)) s1), (pw_cell_below (below_drew (Below.refl _ _)) y0), (pw_cell_below (below_drew (Below.refl _ _)) y1)⟩ (fun hHeld => ?_)
          refine pure_ (i := 0) (N := some 46) (v := ?_) (a' := ?_) #[true, false, false, false, false, false, false, false, false, false, false, false, false, false, false, false, false, false, false, false, false, false, false, false, false] rfl rfl (by kernel_rfl) (fun _ _ _ h => h) (Or.inl ⟨by rfl, ?_⟩) ?_ ?_
          rotate_left
          · intro w'
            go_simp
            with_reducible rfl
          rotate_left
          · simp only [Act.put, List.setIfInBounds_toArray, List.set_cons_zero, List.set_cons_succ, i64_w, i32_w]
            rfl
          refine pure_ (i := 1) (N := some 47) (v := ?_) (a' := ?_) #[true, true, false, false, false, false, false, false, false, false, false, false, false, false, false, false, false, false, false, false, false, false, false, false, false] rfl rfl (by kernel_rfl) (fun _ _ _ h => h) (Or.inl ⟨by rfl, ?_⟩) ?_ ?_
          rotate_left
          · intro w'
            go_simp
            with_reducible rfl
          rotate_left
          · simp only [Act.put, List.setIfInBounds_toArray, List.set_cons_zero, List.set_cons_succ, i64_w, i32_w]
            rfl
          refine pure_ (i := 2) (N := some 48) (v := ?_) (a' := ?_) #[true, true, true, false, false, false, false, false, false, false, false, false, false, false, false, false, false, false, false, false, false, false, false, false, false] rfl rfl (by kernel_rfl) (fun _ _ _ h => h) (Or.inl ⟨by rfl, ?_⟩) ?_ ?_
          rotate_left
          · intro w'
            go_simp
            with_reducible rfl
          rotate_left
          · simp only [Act.put, List.setIfInBounds_toArray, List.set_cons_zero, List.set_cons_succ, i64_w, i32_w]
            rfl
          refine pure_ (i := 3) (N := some 49) (v := ?_) (a' := ?_) #[true, true, true, true, false, false, false, false, false, false, false, false, false, false, false, false, false, false, false, false, false, false, false, false, false] rfl rfl (by kernel_rfl) (fun _ _ _ h => h) (Or.inl ⟨by rfl, ?_⟩) ?_ ?_
          rotate_left
          · intro w'
            go_simp
            with_reducible rfl
          rotate_left
          · simp only [Act.put, List.setIfInBounds_toArray, List.set_cons_zero, List.set_cons_succ, i64_w, i32_w]
            rfl
          refine pure_ (i := 4) (N := some 50) (v := ?_) (a' := ?_) #[true, true, true, true, true, false, false, false, false, false, false, false, false, false, false, false, false, false, false, false, false, false, false, false, false] rfl rfl (by kernel_rfl) (fun _ _ _ h => h) (Or.inl ⟨by rfl, ?_⟩) ?_ ?_
          rotate_left
          · intro w'
            go_simp
            with_reducible rfl
          rotate_left
          · simp only [Act.put, List.setIfInBounds_toArray, List.set_cons_zero, List.set_cons_succ, i64_w, i32_w]
            rfl
          refine pure_ (i := 5) (N := some 51) (v := ?_) (a' := ?_) #[true, true, true, true, true, true, false, false, false, false, false, false, false, false, false, false, false, false, false, false, false, false, false, false, false] rfl rfl (by kernel_rfl) (fun _ _ _ h => h) (Or.inl ⟨by rfl, ?_⟩) ?_ ?_
          rotate_left
          · intro w'
            go_simp
            with_reducible rfl
          rotate_left
          · simp only [Act.put, List.setIfInBounds_toArray, List.set_cons_zero, List.set_cons_succ, i64_w, i32_w]
            rfl
          refine pure_ (i := 6) (N := some 52) (v := ?_) (a' := ?_) #[true, true, true, true, true, true, true, false, false, false, false, false, false, false, false, false, false, false, false, false, false, false, false, false, false] rfl rfl (by kernel_rfl) (fun _ _ _ h => h) (Or.inl ⟨by rfl, ?_⟩) ?_ ?_
          rotate_left
          · intro w'
            go_simp
            with_reducible rfl
          rotate_left
          · simp only [Act.put, List.setIfInBounds_toArray, List.set_cons_zero, List.set_cons_succ, i64_w, i32_w]
            rfl
          refine pure_ (i := 7) (N := some 53) (v := ?_) (a' := ?_) #[true, true, true, true, true, true, true, true, false, false, false, false, false, false, false, false, false, false, false, false, false, false, false, false, false] rfl rfl (by kernel_rfl) (fun _ _ _ h => h) (Or.inl ⟨by rfl, ?_⟩) ?_ ?_
          rotate_left
          · intro w'
            go_simp
            with_reducible rfl
          rotate_left
          · simp only [Act.put, List.setIfInBounds_toArray, List.set_cons_zero, List.set_cons_succ, i64_w, i32_w]
            rfl
          refine pure_ (i := 9) (N := some 55) (v := ?_) (a' := ?_) #[true, true, true, true, true, true, true, true, false, true, false, false, false, false, false, false, false, false, false, false, false, false, false, false, false] rfl rfl (by kernel_rfl) (fun _ _ _ h => h) (Or.inl ⟨by rfl, ?_⟩) ?_ ?_
          rotate_left
          · intro w'
            go_simp
            with_reducible rfl
          rotate_left
          · simp only [Act.put, List.setIfInBounds_toArray, List.set_cons_zero, List.set_cons_succ, i64_w, i32_w]
            rfl
          refine pure_ (i := 12) (N := some 58) (v := ?_) (a' := ?_) #[true, true, true, true, true, true, true, true, false, true, false, false, true, false, false, false, false, false, false, false, false, false, false, false, false] rfl rfl (by kernel_rfl) (fun _ _ _ h => h) (Or.inl ⟨by rfl, ?_⟩) ?_ ?_
          rotate_left
          · intro w'
            go_simp
            with_reducible rfl
          rotate_left
          · simp only [Act.put, List.setIfInBounds_toArray, List.set_cons_zero, List.set_cons_succ, i64_w, i32_w]
            rfl
          refine pure_ (i := 13) (N := some 59) (v := ?_) (a' := ?_) #[true, true, true, true, true, true, true, true, false, true, false, false, true, true, false, false, false, false, false, false, false, false, false, false, false] rfl rfl (by kernel_rfl) (fun _ _ _ h => h) (Or.inl ⟨by rfl, ?_⟩) ?_ ?_
          rotate_left
          · intro w'
            go_simp
            with_reducible rfl
          rotate_left
          · simp only [Act.put, List.setIfInBounds_toArray, List.set_cons_zero, List.set_cons_succ, i64_w, i32_w]
            rfl
          refine pure_ (i := 14) (N := some 60) (v := ?_) (a' := ?_) #[true, true, true, true, true, true, true, true, false, true, false, false, true, true, true, false, false, false, false, false, false, false, false, false, false] rfl rfl (by kernel_rfl) (fun _ _ _ h => h) (Or.inl ⟨by rfl, ?_⟩) ?_ ?_
          rotate_left
          · intro w'
            go_simp
            with_reducible rfl
          rotate_left
          · simp only [Act.put, List.setIfInBounds_toArray, List.set_cons_zero, List.set_cons_succ, i64_w, i32_w]
            rfl
          refine pure_ (i := 15) (N := some 61) (v := ?_) (a' := ?_) #[true, true, true, true, true, true, true, true, false, true, false, false, true, true, true, true, false, false, false, false, false, false, false, false, false] rfl rfl (by kernel_rfl) (fun _ _ _ h => h) (Or.inl ⟨by rfl, ?_⟩) ?_ ?_
          rotate_left
          · intro w'
            go_simp
            with_reducible rfl
          rotate_left
          · simp only [Act.put, List.setIfInBounds_toArray, List.set_cons_zero, List.set_cons_succ, i64_w, i32_w]
            rfl
          refine pure_ (i := 16) (N := some 62) (v := ?_) (a' := ?_) #[true, true, true, true, true, true, true, true, false, true, false, false, true, true, true, true, true, false, false, false, false, false, false, false, false] rfl rfl (by kernel_rfl) (fun _ _ _ h => h) (Or.inl ⟨by rfl, ?_⟩) ?_ ?_
          rotate_left
          · intro w'
            go_simp
            with_reducible rfl
          rotate_left
          · simp only [Act.put, List.setIfInBounds_toArray, List.set_cons_zero, List.set_cons_succ, i64_w, i32_w]
            rfl
          refine pure_ (i := 18) (N := some 64) (v := ?_) (a' := ?_) #[true, true, true, true, true, true, true, true, false, true, false, false, true, true, true, true, true, false, true, false, false, false, false, false, false] rfl rfl (by kernel_rfl) (fun _ _ _ h => h) (Or.inl ⟨by rfl, ?_⟩) ?_ ?_
          rotate_left
          · intro w'
            go_simp
            with_reducible rfl
          rotate_left
          · simp only [Act.put, List.setIfInBounds_toArray, List.set_cons_zero, List.set_cons_succ, i64_w, i32_w]
            rfl
          refine take_ (i := 8) (N := some 54) (v := ?_) (a' := ?_) #[true, true, true, true, true, true, true, true, true, true, false, false, true, true, true, true, true, false, true, false, false, false, false, false, false] rfl rfl (by kernel_rfl) (fun _ _ _ h => h) (Or.inl ⟨by rfl, ?_⟩) hHeld ?_ ?_
          rotate_left
          · rintro w' ⟨s0, s1, s2, s3, s4, s5⟩
            go_simp
            with_reducible rfl
          rotate_left
          · simp only [Act.put, List.setIfInBounds_toArray, List.set_cons_zero, List.set_cons_succ, i64_w, i32_w]
            rfl
          refine take_ (i := 10) (N := some 56) (v := ?_) (a' := ?_) #[true, true, true, true, true, true, true, true, true, true, true, false, true, true, true, true, true, false, true, false, false, false, false, false, false] rfl rfl (by kernel_rfl) (fun _ _ _ h => h) (Or.inl ⟨by rfl, ?_⟩) hHeld ?_ ?_
          rotate_left
          · rintro w' ⟨s0, s1, s2, s3, s4, s5⟩
            go_simp
            with_reducible rfl
          rotate_left
          · simp only [Act.put, List.setIfInBounds_toArray, List.set_cons_zero, List.set_cons_succ, i64_w, i32_w]
            rfl
          refine take_ (i := 17) (N := some 63) (v := ?_) (a' := ?_) #[true, true, true, true, true, true, true, true, true, true, true, false, true, true, true, true, true, true, true, false, false, false, false, false, false] rfl rfl (by kernel_rfl) (fun _ _ _ h => h) (Or.inl ⟨by rfl, ?_⟩) hHeld ?_ ?_
          rotate_left
          · rintro w' ⟨s0, s1, s2, s3, s4, s5⟩
            go_simp
            with_reducible rfl
          rotate_left
          · simp only [Act.put, List.setIfInBounds_toArray, List.set_cons_zero, List.set_cons_succ, i64_w, i32_w]
            rfl
          refine take_ (i := 19) (N := some 65) (v := ?_) (a' := ?_) #[true, true, true, true, true, true, true, true, true, true, true, false, true, true, true, true, true, true, true, true, false, false, false, false, false] rfl rfl (by kernel_rfl) (fun _ _ _ h => h) (Or.inl ⟨by rfl, ?_⟩) hHeld ?_ ?_
          rotate_left
          · rintro w' ⟨s0, s1, s2, s3, s4, s5⟩
            go_simp
            with_reducible rfl
          rotate_left
          · simp only [Act.put, List.setIfInBounds_toArray, List.set_cons_zero, List.set_cons_succ, i64_w, i32_w]
            rfl
          refine one_ (i := 11) (N := some 57) #[true, true, true, true, true, true, true, true, true, true, true, true, true, true, true, true, true, true, true, true, false, false, false, false, false] rfl rfl (by kernel_rfl) (by decide) (fun K hK => ?_)
          refine goes_ Tryz.func25 (by kernel_rfl) rfl #[.int .i64 (rd_T36 l (wrap64 ((k : Int) - 1))).f1, .int .i64 (rd_T36 l k).f1] (by rfl) rfl rfl (by simp only [List.map_toArray, List.map_cons, List.map_nil]; rfl) ?_
          with_reducible refine (cmp_Compare_int.calls _ _ _ _ (cmp_f _ _)).mono ?_
          rintro e w3 ⟨rfl, ⟨nd, rfl⟩⟩
          refine ⟨_, rfl, ?_⟩
          refine hK.out _ _ ⟨(pw_below_drewN hHeld.1 nd), (hHeld.2.1.drewN nd), (pw_cell_below (pw_below_drewN (Below.refl _ _) nd) hHeld.2.2.1), (pw_cell_below (pw_below_drewN (Below.refl _ _) nd) hHeld.2.2.2.1), (pw_cell_below (pw_below_drewN (Below.refl _ _) nd) hHeld.2.2.2.2.1), (pw_cell_below (pw_below_drewN (Below.refl _ _) nd) hHeld.2.2.2.2.2)⟩ (fun hHeld => ?_)
          clear hK K
          refine norm_ (a' := ?_) ?_ ?_
          rotate_left
          · show Act.put _ (some 57) _ = _
            simp only [Act.put, List.setIfInBounds_toArray, List.set_cons_zero, List.set_cons_succ, i64_w, i32_w]
            rfl
          refine one_ (i := 20) (N := some 66) #[true, true, true, true, true, true, true, true, true, true, true, true, true, true, true, true, true, true, true, true, true, false, false, false, false] rfl rfl (by kernel_rfl) (by decide) (fun K hK => ?_)
          refine goes_ Tryz.func25 (by kernel_rfl) rfl #[.int .i64 (rd_T36 l (wrap64 ((k : Int) - 1))).f0, .int .i64 (rd_T36 l k).f0] (by rfl) rfl rfl (by simp only [List.map_toArray, List.map_cons, List.map_nil]; rfl) ?_
          with_reducible refine (cmp_Compare_int.calls _ _ _ _ (cmp_f _ _)).mono ?_
          rintro e w3 ⟨rfl, ⟨nd, rfl⟩⟩
          refine ⟨_, rfl, ?_⟩
          refine hK.out _ _ ⟨(pw_below_drewN hHeld.1 nd), (hHeld.2.1.drewN nd), (pw_cell_below (pw_below_drewN (Below.refl _ _) nd) hHeld.2.2.1), (pw_cell_below (pw_below_drewN (Below.refl _ _) nd) hHeld.2.2.2.1), (pw_cell_below (pw_below_drewN (Below.refl _ _) nd) hHeld.2.2.2.2.1), (pw_cell_below (pw_below_drewN (Below.refl _ _) nd) hHeld.2.2.2.2.2)⟩ (fun hHeld => ?_)
          clear hK K
          refine norm_ (a' := ?_) ?_ ?_
          rotate_left
          · show Act.put _ (some 66) _ = _
            simp only [Act.put, List.setIfInBounds_toArray, List.set_cons_zero, List.set_cons_succ, i64_w, i32_w]
            rfl
          refine one_ (i := 21) (N := some 67) #[true, true, true, true, true, true, true, true, true, true, true, true, true, true, true, true, true, true, true, true, true, true, false, false, false] rfl rfl (by kernel_rfl) (by decide) (fun K hK => ?_)
          refine lit2_step (x := (cmpI (rd_T36 l (wrap64 ((k : Int) - 1))).f1 (rd_T36 l k).f1)) (y := (cmpI (rd_T36 l (wrap64 ((k : Int) - 1))).f0 (rd_T36 l k).f0)) (e := 3) (by rfl) (by first | (go_simp; done) | (go_simp; rfl)) ?_
          intro nb w4 hC hb4
          refine hK.out _ _ ⟨(below_step hHeld.1 hb4), (hHeld.2.1.below hb4), (pw_cell_below hb4 hHeld.2.2.1), (pw_cell_below hb4 hHeld.2.2.2.1), (pw_cell_below hb4 hHeld.2.2.2.2.1), (pw_cell_below hb4 hHeld.2.2.2.2.2)⟩ (fun hHeld => ?_)
          clear hK K
          refine norm_ (a' := ?_) ?_ ?_
          rotate_left
          · show Act.put _ (some 67) _ = _
            simp only [Act.put, List.setIfInBounds_toArray, List.set_cons_zero, List.set_cons_succ, i64_w, i32_w]
            rfl
          refine one_ (i := 22) (N := some 68) #[true, true, true, true, true, true, true, true, true, true, true, true, true, true, true, true, true, true, true, true, true, true, true, false, false] rfl rfl (by kernel_rfl) (by decide) (fun K hK => ?_)
          refine goes_ Tryz.func24 (by kernel_rfl) rfl #[.slice (some ⟨nb, 0, none⟩) 2 2] (by rfl) rfl rfl (by simp only [List.map_toArray, List.map_cons, List.map_nil]; rfl) ?_
          with_reducible refine (or2_calls _ (cmpI (rd_T36 l (wrap64 ((k : Int) - 1))).f1 (rd_T36 l k).f1) (cmpI (rd_T36 l (wrap64 ((k : Int) - 1))).f0 (rd_T36 l k).f0) _ hC).mono ?_
          rintro e w3 ⟨rfl, ⟨nd, rfl⟩⟩
          refine ⟨_, rfl, ?_⟩
          refine hK.out _ _ ⟨(pw_below_drewN hHeld.1 nd), (hHeld.2.1.drewN nd), (pw_cell_below (pw_below_drewN (Below.refl _ _) nd) hHeld.2.2.1), (pw_cell_below (pw_below_drewN (Below.refl _ _) nd) hHeld.2.2.2.1), (pw_cell_below (pw_below_drewN (Below.refl _ _) nd) hHeld.2.2.2.2.1), (pw_cell_below (pw_below_drewN (Below.refl _ _) nd) hHeld.2.2.2.2.2)⟩ (fun hHeld => ?_)
          clear hK K
          refine norm_ (a' := ?_) ?_ ?_
          rotate_left
          · show Act.put _ (some 68) _ = _
            simp only [Act.put, List.setIfInBounds_toArray, List.set_cons_zero, List.set_cons_succ, i64_w, i32_w]
            rfl
          refine pure_ (i := 23) (N := some 69) (v := ?_) (a' := ?_) #[true, true, true, true, true, true, true, true, true, true, true, true, true, true, true, true, true, true, true, true, true, true, true, true, false] rfl rfl (by kernel_rfl) (fun _ _ _ h => h) (Or.inl ⟨by rfl, ?_⟩) ?_ ?_
          rotate_left
          · intro w'
            go_simp
            with_reducible rfl
          rotate_left
          · simp only [Act.put, List.setIfInBounds_toArray, List.set_cons_zero, List.set_cons_succ, i64_w, i32_w]
            rfl
          refine pure_ (i := 24) (N := some 70) (v := ?_) (a' := ?_) #[true, true, true, true, true, true, true, true, true, true, true, true, true, true, true, true, true, true, true, true, true, true, true, true, true] rfl rfl (by kernel_rfl) (fun _ _ _ h => h) (Or.inl ⟨by rfl, ?_⟩) ?_ ?_
          rotate_left
          · intro w'
            go_simp
            with_reducible rfl
          rotate_left
          · simp only [Act.put, List.setIfInBounds_toArray, List.set_cons_zero, List.set_cons_succ, i64_w, i32_w]
            rfl
          refine done_ (by kernel_rfl) ?_

          have DB := Aside0.mk (show badB l k = decide (¬ lexLt (rd_T36 l (wrap64 ((k : Int) - 1))) (rd_T36 l k)) by unfold badB; rw [HWR.out, decide_eq_true hk0]; rfl)
          by_cases c6 : lexLt (rd_T36 l (wrap64 ((k : Int) - 1))) (rd_T36 l k)
          · have d6 : orI (cmpI (rd_T36 l (wrap64 ((k : Int) - 1))).f1 (rd_T36 l k).f1) (cmpI (rd_T36 l (wrap64 ((k : Int) - 1))).f0 (rd_T36 l k).f0) < 0 := Int.not_le.1 (fun h => (lex_cmp _ _).1 h c6)
            have HE2 := Aside0.mk (show badB l k = false by rw [DB.out]; exact decide_eq_false (fun h => h c6))
            go_wp2
            go_roundw
            case rel =>
              refine ⟨k + 1, by have := HLT.out; omega, by go_num, ⟨hHeld.2.1⟩, ⟨?_⟩, ⟨hHeld.1⟩⟩
              intro j hj
              by_cases hjk : j = k
              · rw [hjk]; exact ⟨HE.out, HE2.out⟩
              · exact HG.out j (by omega)
            case measure => have := HLT.out; simp [intOf]; omega
          · have d6 : 0 ≤ orI (cmpI (rd_T36 l (wrap64 ((k : Int) - 1))).f1 (rd_T36 l k).f1) (cmpI (rd_T36 l (wrap64 ((k : Int) - 1))).f0 (rd_T36 l k).f0) := (lex_cmp _ _).2 c6
            have HE2 := Aside0.mk (show badB l k = true by rw [DB.out]; exact decide_eq_true c6)
            go_wp2
            go_ret
            exact ⟨FIN.out (.inr HE2.out) _ rfl, hHeld.1⟩
        · obtain rfl : k = 0 := by omega
          refine start_ (n := 25) (S := fun w' => Below w.heap.size w w' ∧ MapIs Tryz.prog 3 w' w.heap.size (0 + 1) (seen (l.take (0 + 1)))) (ds := []) #[false, false, false, false, false, false, false, false, false, false, false, false, false, false, false, false, false, false, false, false, false, false, false, false, false] (by kernel_rfl) rfl rfl ⟨(below_drew HB2.out), (HM3.out.drewN 1)⟩ (fun hHeld => ?_)
          refine pure_ (i := 0) (N := some 46) (v := ?_) (a' := ?_) #[true, false, false, false, false, false, false, false, false, false, false, false, false, false, false, false, false, false, false, false, false, false, false, false, false] rfl rfl (by kernel_rfl) (fun _ _ _ h => h) (Or.inl ⟨by rfl, ?_⟩) ?_ ?_
          rotate_left
          · intro w'
            go_simp
            with_reducible rfl
          rotate_left
          · simp only [Act.put, List.setIfInBounds_toArray, List.set_cons_zero, List.set_cons_succ, i64_w, i32_w]
            rfl
          refine pure_ (i := 1) (N := some 47) (v := ?_) (a' := ?_) #[true, true, false, false, false, false, false, false, false, false, false, false, false, false, false, false, false, false, false, false, false, false, false, false, false] rfl rfl (by kernel_rfl) (fun _ _ _ h => h) (Or.inl ⟨by rfl, ?_⟩) ?_ ?_
          rotate_left
          · intro w'
            go_simp
            with_reducible rfl
          rotate_left
          · simp only [Act.put, List.setIfInBounds_toArray, List.set_cons_zero, List.set_cons_succ, i64_w, i32_w]
            rfl
          refine pure_ (i := 2) (N := some 48) (v := ?_) (a' := ?_) #[true, true, true, false, false, false, false, false, false, false, false, false, false, false, false, false, false, false, false, false, false, false, false, false, false] rfl rfl (by kernel_rfl) (fun _ _ _ h => h) (Or.inl ⟨by rfl, ?_⟩) ?_ ?_
          rotate_left
          · intro w'
            go_simp
            with_reducible rfl
          rotate_left
          · simp only [Act.put, List.setIfInBounds_toArray, List.set_cons_zero, List.set_cons_succ, i64_w, i32_w]
            rfl
          refine pure_ (i := 3) (N := some 49) (v := undef) (a' := ?_) #[true, true, true, true, false, false, false, false, false, false, false, false, false, false, false, false, false, false, false, false, false, false, false, false, false] rfl rfl (by kernel_rfl) (fun _ _ _ h => h) (Or.inr ⟨by rfl, rfl⟩) ?_ ?_
          rotate_left
          · simp only [Act.put, List.setIfInBounds_toArray, List.set_cons_zero, List.set_cons_succ, i64_w, i32_w]
            rfl
          refine pure_ (i := 4) (N := some 50) (v := undef) (a' := ?_) #[true, true, true, true, true, false, false, false, false, false, false, false, false, false, false, false, false, false, false, false, false, false, false, false, false] rfl rfl (by kernel_rfl) (fun _ _ _ h => h) (Or.inr ⟨by rfl, rfl⟩) ?_ ?_
          rotate_left
          · simp only [Act.put, List.setIfInBounds_toArray, List.set_cons_zero, List.set_cons_succ, i64_w, i32_w]
            rfl
          refine pure_ (i := 5) (N := some 51) (v := undef) (a' := ?_) #[true, true, true, true, true, true, false, false, false, false, false, false, false, false, false, false, false, false, false, false, false, false, false, false, false] rfl rfl (by kernel_rfl) (fun _ _ _ h => h) (Or.inr ⟨by rfl, rfl⟩) ?_ ?_
          rotate_left
          · simp only [Act.put, List.setIfInBounds_toArray, List.set_cons_zero, List.set_cons_succ, i64_w, i32_w]
            rfl
          refine pure_ (i := 6) (N := some 52) (v := undef) (a' := ?_) #[true, true, true, true, true, true, true, false, false, false, false, false, false, false, false, false, false, false, false, false, false, false, false, false, false] rfl rfl (by kernel_rfl) (fun _ _ _ h => h) (Or.inr ⟨by rfl, rfl⟩) ?_ ?_
          rotate_left
          · simp only [Act.put, List.setIfInBounds_toArray, List.set_cons_zero, List.set_cons_succ, i64_w, i32_w]
            rfl
          refine pure_ (i := 7) (N := some 53) (v := undef) (a' := ?_) #[true, true, true, true, true, true, true, true, false, false, false, false, false, false, false, false, false, false, false, false, false, false, false, false, false] rfl rfl (by kernel_rfl) (fun _ _ _ h => h) (Or.inr ⟨by rfl, rfl⟩) ?_ ?_
          rotate_left
          · simp only [Act.put, List.setIfInBounds_toArray, List.set_cons_zero, List.set_cons_succ, i64_w, i32_w]
            rfl
          refine pure_ (i := 8) (N := some 54) (v := undef) (a' := ?_) #[true, true, true, true, true, true, true, true, true, false, false, false, false, false, false, false, false, false, false, false, false, false, false, false, false] rfl rfl (by kernel_rfl) (fun _ _ _ h => h) (Or.inr ⟨by rfl, rfl⟩) ?_ ?_
          rotate_left
          · simp only [Act.put, List.setIfInBounds_toArray, List.set_cons_zero, List.set_cons_succ, i64_w, i32_w]
            rfl
          refine pure_ (i := 9) (N := some 55) (v := undef) (a' := ?_) #[true, true, true, true, true, true, true, true, true, true, false, false, false, false, false, false, false, false, false, false, false, false, false, false, false] rfl rfl (by kernel_rfl) (fun _ _ _ h => h) (Or.inr ⟨by rfl, rfl⟩) ?_ ?_
          rotate_left
          · simp only [Act.put, List.setIfInBounds_toArray, List.set_cons_zero, List.set_cons_succ, i64_w, i32_w]
            rfl
          refine pure_ (i := 10) (N := some 56) (v := undef) (a' := ?_) #[true, true, true, true, true, true, true, true, true, true, true, false, false, false, false, false, false, false, false, false, false, false, false, false, false] rfl rfl (by kernel_rfl) (fun _ _ _ h => h) (Or.inr ⟨by rfl, rfl⟩) ?_ ?_
          rotate_left
          · simp only [Act.put, List.setIfInBounds_toArray, List.set_cons_zero, List.set_cons_succ, i64_w, i32_w]
            rfl
          refine pure_ (i := 11) (N := some 57) (v := undef) (a' := ?_) #[true, true, true, true, true, true, true, true, true, true, true, true, false, false, false, false, false, false, false, false, false, false, false, false, false] rfl rfl (by kernel_rfl) (fun _ _ _ h => h) (Or.inr ⟨by rfl, rfl⟩) ?_ ?_
          rotate_left
          · simp only [Act.put, List.setIfInBounds_toArray, List.set_cons_zero, List.set_cons_succ, i64_w, i32_w]
            rfl
          refine pure_ (i := 12) (N := some 58) (v := undef) (a' := ?_) #[true, true, true, true, true, true, true, true, true, true, true, true, true, false, false, false, false, false, false, false, false, false, false, false, false] rfl rfl (by kernel_rfl) (fun _ _ _ h => h) (Or.inr ⟨by rfl, rfl⟩) ?_ ?_
          rotate_left
          · simp only [Act.put, List.setIfInBounds_toArray, List.set_cons_zero, List.set_cons_succ, i64_w, i32_w]
            rfl
          refine pure_ (i := 13) (N := some 59) (v := undef) (a' := ?_) #[true, true, true, true, true, true, true, true, true, true, true, true, true, true, false, false, false, false, false, false, false, false, false, false, false] rfl rfl (by kernel_rfl) (fun _ _ _ h => h) (Or.inr ⟨by rfl, rfl⟩) ?_ ?_
          rotate_left
          · simp only [Act.put, List.setIfInBounds_toArray, List.set_cons_zero, List.set_cons_succ, i64_w, i32_w]
            rfl
          refine pure_ (i := 14) (N := some 60) (v := undef) (a' := ?_) #[true, true, true, true, true, true, true, true, true, true, true, true, true, true, true, false, false, false, false, false, false, false, false, false, false] rfl rfl (by kernel_rfl) (fun _ _ _ h => h) (Or.inr ⟨by rfl, rfl⟩) ?_ ?_
          rotate_left
          · simp only [Act.put, List.setIfInBounds_toArray, List.set_cons_zero, List.set_cons_succ, i64_w, i32_w]
            rfl
          refine pure_ (i := 15) (N := some 61) (v := undef) (a' := ?_) #[true, true, true, true, true, true, true, true, true, true, true, true, true, true, true, true, false, false, false, false, false, false, false, false, false] rfl rfl (by kernel_rfl) (fun _ _ _ h => h) (Or.inr ⟨by rfl, rfl⟩) ?_ ?_
          rotate_left
          · simp only [Act.put, List.setIfInBounds_toArray, List.set_cons_zero, List.set_cons_succ, i64_w, i32_w]
            rfl
          refine pure_ (i := 16) (N := some 62) (v := undef) (a' := ?_) #[true, true, true, true, true, true, true, true, true, true, true, true, true, true, true, true, true, false, false, false, false, false, false, false, false] rfl rfl (by kernel_rfl) (fun _ _ _ h => h) (Or.inr ⟨by rfl, rfl⟩) ?_ ?_
          rotate_left
          · simp only [Act.put, List.setIfInBounds_toArray, List.set_cons_zero, List.set_cons_succ, i64_w, i32_w]
            rfl
          refine pure_ (i := 17) (N := some 63) (v := undef) (a' := ?_) #[true, true, true, true, true, true, true, true, true, true, true, true, true, true, true, true, true, true, false, false, false, false, false, false, false] rfl rfl (by kernel_rfl) (fun _ _ _ h => h) (Or.inr ⟨by rfl, rfl⟩) ?_ ?_
          rotate_left
          · simp only [Act.put, List.setIfInBounds_toArray, List.set_cons_zero, List.set_cons_succ, i64_w, i32_w]
            rfl
          refine pure_ (i := 18) (N := some 64) (v := undef) (a' := ?_) #[true, true, true, true, true, true, true, true, true, true, true, true, true, true, true, true, true, true, true, false, false, false, false, false, false] rfl rfl (by kernel_rfl) (fun _ _ _ h => h) (Or.inr ⟨by rfl, rfl⟩) ?_ ?_
          rotate_left
          · simp only [Act.put, List.setIfInBounds_toArray, List.set_cons_zero, List.set_cons_succ, i64_w, i32_w]
            rfl
          refine pure_ (i := 19) (N := some 65) (v := undef) (a' := ?_) #[true, true, true, true, true, true, true, true, true, true, true, true, true, true, true, true, true, true, true, true, false, false, false, false, false] rfl rfl (by kernel_rfl) (fun _ _ _ h => h) (Or.inr ⟨by rfl, rfl⟩) ?_ ?_
          rotate_left
          · simp only [Act.put, List.setIfInBounds_toArray, List.set_cons_zero, List.set_cons_succ, i64_w, i32_w]
            rfl
          refine pure_ (i := 20) (N := some 66) (v := undef) (a' := ?_) #[true, true, true, true, true, true, true, true, true, true, true, true, true, true, true, true, true, true, true, true, true, false, false, false, false] rfl rfl (by kernel_rfl) (fun _ _ _ h => h) (Or.inr ⟨by rfl, rfl⟩) ?_ ?_
          rotate_left
          · simp only [Act.put, List.setIfInBounds_toArray, List.set_cons_zero, List.set_cons_succ, i64_w, i32_w]
            rfl
          refine pure_ (i := 21) (N := some 67) (v := undef) (a' := ?_) #[true, true, true, true, true, true, true, true, true, true, true, true, true, true, true, true, true, true, true, true, true, true, false, false, false] rfl rfl (by kernel_rfl) (fun _ _ _ h => h) (Or.inr ⟨by rfl, rfl⟩) ?_ ?_
          rotate_left
          · simp only [Act.put, List.setIfInBounds_toArray, List.set_cons_zero, List.set_cons_succ, i64_w, i32_w]
            rfl
          refine pure_ (i := 22) (N := some 68) (v := undef) (a' := ?_) #[true, true, true, true, true, true, true, true, true, true, true, true, true, true, true, true, true, true, true, true, true, true, true, false, false] rfl rfl (by kernel_rfl) (fun _ _ _ h => h) (Or.inr ⟨by rfl, rfl⟩) ?_ ?_
          rotate_left
          · simp only [Act.put, List.setIfInBounds_toArray, List.set_cons_zero, List.set_cons_succ, i64_w, i32_w]
            rfl
          refine pure_ (i := 23) (N := some 69) (v := undef) (a' := ?_) #[true, true, true, true, true, true, true, true, true, true, true, true, true, true, true, true, true, true, true, true, true, true, true, true, false] rfl rfl (by kernel_rfl) (fun _ _ _ h => h) (Or.inr ⟨by rfl, rfl⟩) ?_ ?_
          rotate_left
          · simp only [Act.put, List.setIfInBounds_toArray, List.set_cons_zero, List.set_cons_succ, i64_w, i32_w]
            rfl
          refine pure_ (i := 24) (N := some 70) (v := ?_) (a' := ?_) #[true, true, true, true, true, true, true, true, true, true, true, true, true, true, true, true, true, true, true, true, true, true, true, true, true] rfl rfl (by kernel_rfl) (fun _ _ _ h => h) (Or.inl ⟨by rfl, ?_⟩) ?_ ?_
          rotate_left
          · intro w'
            go_simp
            with_reducible rfl
          rotate_left
          · simp only [Act.put, List.setIfInBounds_toArray, List.set_cons_zero, List.set_cons_succ, i64_w, i32_w]
            rfl
          refine done_ (by kernel_rfl) ?_

          have HE2 := Aside0.mk (show badB l 0 = false from rfl)
          go_wp2
          go_roundw
          case rel =>
            refine ⟨0 + 1, by have := HLT.out; omega, by go_num, ⟨hHeld.2⟩, ⟨?_⟩, ⟨hHeld.1⟩⟩
            intro j hj
            by_cases hjk : j = 0
            · rw [hjk]; exact ⟨HE.out, HE2.out⟩
            · exact HG.out j (by omega)
          case measure => have := HLT.out; simp [intOf]; omega
    · obtain rfl : k = l.length := by omega
      have HE := Aside0.mk (ordB_end HG.out)
      clear hlt
      go_wp2
      go_ret
      exact ⟨by rw [HE.out]; rfl, HB.out⟩
end Go.Proofs.YtcmbpboeilojmaaGreat.Sw
