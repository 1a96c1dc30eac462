/- The walk of moves.Row: it answers what the plain function rowG tells, where its list and its spare are numbers of 64 bits and not too many. -/
import Derived.Test.YtchmddbenohmnaaMvC
namespace Go.Proofs.Ytchmddbenohmnaa.Mv
open Go Go.RowKit Go.Proofs.YtchmddbenohmnaaW.PrintWords Go.Proofs.YtchmddbenohmnaaW.PrintLast Go.Proofs.YtchmddbenohmnaaW.PrintMore Go.Proofs.Ytchmddbenohmnaa.Mi Go.Proofs.Ytchmddbenohmnaa.F
set_option linter.unusedVariables false
set_option linter.unusedSimpArgs false

/-! ### maps beside rows -/
section
variable {α : Type} {d : Kd α} {e K : Nat} {P : Program} {w w1 : World} {base b n : Nat} {ok : Nat → Prop} {v : Value} {xs : List α} {f : Int → Option Int}
theorem map_obj (hm : MapIs P K w b n f) : ∃ es clock, w.heap[b]? = some (.map es clock) := by
  obtain ⟨D, ⟨es, clock, hb, _⟩, _⟩ := hm
  exact ⟨es, clock, hb⟩
theorem R_map (h : d.R e w base ok v xs) (hm : MapIs P K w b n f) (hg : w.grownBy w1 (some b)) : d.R e w1 base ok v xs := by
  obtain ⟨es, clock, hb⟩ := map_obj hm
  refine Kd.R_mono (Kd.R_grown (Kd.R_bound h) hg (fun k hk e' => ?_)) (fun k hk => hk.1)
  obtain ⟨_, _, _, q, _, cells, hc⟩ := hk
  injection e' with e'
  subst e'
  rw [hb] at hc
  cases hc
theorem map_row (hm : MapIs P K w b n f) (h : d.R e w base ok v xs) (hg : w.grownBy w1 v.ownBlock) : MapIs P K w1 b n f := by
  obtain ⟨es, clock, hb⟩ := map_obj hm
  refine hm.kept hg fun e' => ?_
  obtain ⟨cells, hc⟩ := Kd.R_typed h b e'.symm
  rw [hb] at hc
  cases hc
theorem blk_map {g t : Nat} {cs : Array Value} (hc : w.heap[g]? = some (.cells cs t (0, 0))) (hm : MapIs P K w b n f) (hg : w.grownBy w1 (some b)) : w1.heap[g]? = some (.cells cs t (0, 0)) := by
  obtain ⟨es, clock, hb⟩ := map_obj hm
  refine blk_grown hc hg fun e' => ?_
  injection e' with e'
  subst e'
  rw [hb] at hc
  cases hc
end

theorem row3_step {k : Nat} {fr am : Int → Option Int} {ry : List Int} {i : Nat} {out : List S43} (h : i < ry.length) (h2 : ry.length < 10000000 ∧ out.length < 10000000) : row3 (k + 1) fr am ry i out =
    row3 k (mdel fr (ry.getD i 0)) (mput am (mget fr (ry.getD i 0)) (wrap64 (mget am (mget fr (ry.getD i 0)) - 1)))
      (if mhas (mdel fr (ry.getD i 0)) (mget fr (ry.getD i 0)) = true ∧ mget (mput am (mget fr (ry.getD i 0)) (wrap64 (mget am (mget fr (ry.getD i 0)) - 1))) (mget fr (ry.getD i 0)) = 0 then ry ++ [mget fr (ry.getD i 0)] else ry) (i + 1) (out ++ [⟨ry.getD i 0, mget fr (ry.getD i 0)⟩]) := by
  rw [row3, if_pos h, if_pos h2]
theorem row4_skip {k : Nat} {l : List S43} {sp : Int} {j : Nat} {fr : Int → Option Int} {out : List S43} (h : j < l.length) (h2 : mhas fr (rd_T43 l j).f0 = false) : row4 (k + 1) l sp j fr out = row4 k l sp (j + 1) fr out := by
  rw [row4, if_pos h]; simp [h2]
theorem row4_err {k : Nat} {l : List S43} {sp : Int} {j : Nat} {fr : Int → Option Int} {out : List S43} (h : j < l.length) (h2 : mhas fr (rd_T43 l j).f0 = true) (h3 : sp < 0) : row4 (k + 1) l sp j fr out = some ([], 4) := by
  rw [row4, if_pos h]; simp [h2, h3]
theorem row4_turn {k : Nat} {l : List S43} {sp : Int} {j : Nat} {fr : Int → Option Int} {out : List S43} (h : j < l.length) (h2 : mhas fr (rd_T43 l j).f0 = true) (h3 : ¬ sp < 0) (h4 : out.length < 10000000) :
    row4 (k + 1) l sp j fr out = (row5 k (rd_T43 l j).f0 sp (rd_T43 l j).f0 fr (out ++ [⟨sp, (rd_T43 l j).f0⟩])).bind fun r => row4 k l sp (j + 1) r.1 r.2 := by
  rw [row4, if_pos h]; simp [h2, h3, h4]
theorem row4_none {k : Nat} {l : List S43} {sp : Int} {j : Nat} {fr : Int → Option Int} {out : List S43} (h : j < l.length) (h2 : mhas fr (rd_T43 l j).f0 = true) (h3 : ¬ sp < 0) (h4 : ¬ out.length < 10000000) : row4 (k + 1) l sp j fr out = none := by
  rw [row4, if_pos h]; simp only [h2, if_true]; rw [if_neg h3, if_pos h4]
theorem row3_mono : ∀ k fr am rd i out, LeO (row3 k fr am rd i out) (row3 (k + 1) fr am rd i out) := by
  intro k
  induction k with
  | zero => intro fr am rd i out r h; rw [row3] at h; cases h
  | succ k ih =>
    intro fr am rd i out r h
    rw [row3] at h ⊢
    by_cases c : i < rd.length
    · rw [if_pos c] at h ⊢
      by_cases c2 : rd.length < 10000000 ∧ out.length < 10000000
      · rw [if_pos c2] at h ⊢; exact ih _ _ _ _ _ r h
      · rw [if_neg c2] at h; cases h
    · rw [if_neg c] at h ⊢; exact h
theorem row5_mono : ∀ k c0 sp tp fr out, LeO (row5 k c0 sp tp fr out) (row5 (k + 1) c0 sp tp fr out) := by
  intro k
  induction k with
  | zero => intro c0 sp tp fr out r h; rw [row5] at h; cases h
  | succ k ih =>
    intro c0 sp tp fr out r h
    rw [row5] at h ⊢
    by_cases c2 : ¬ out.length < 10000000
    · rw [if_pos c2] at h; cases h
    rw [if_neg c2] at h ⊢
    by_cases c : mget fr tp = c0
    · rw [if_pos c] at h ⊢; exact h
    · rw [if_neg c] at h ⊢; exact ih _ _ _ _ _ r h
theorem row4_mono : ∀ k l sp j fr out, LeO (row4 k l sp j fr out) (row4 (k + 1) l sp j fr out) := by
  intro k
  induction k with
  | zero => intro l sp j fr out r h; rw [row4] at h; cases h
  | succ k ih =>
    intro l sp j fr out r h
    rw [row4] at h ⊢
    by_cases c : j < l.length
    · rw [if_pos c] at h ⊢
      by_cases c1 : mhas fr (rd_T43 l j).f0 = true
      · simp only [c1, if_true] at h ⊢
        by_cases c2 : sp < 0
        · rw [if_pos c2] at h ⊢; exact h
        · rw [if_neg c2] at h ⊢
          by_cases c3 : ¬ out.length < 10000000
          · rw [if_pos c3] at h; cases h
          rw [if_neg c3] at h ⊢
          rw [Option.bind_eq_some_iff] at h ⊢
          obtain ⟨x, h1, h2⟩ := h
          exact ⟨x, row5_mono _ _ _ _ _ _ _ h1, ih _ _ _ _ _ _ h2⟩
      · simp only [c1, if_false] at h ⊢; exact ih _ _ _ _ _ r h
    · rw [if_neg c] at h ⊢; exact h
theorem rowF_mono (k : Nat) (l : List S43) (sp : Int) : LeO (rowF k l sp) (rowF (k + 1) l sp) := by
  intro r h
  unfold rowF at h ⊢
  by_cases c : mayB l sp = true
  · rw [if_pos c] at h ⊢
    rw [Option.bind_eq_some_iff] at h ⊢
    obtain ⟨x, h1, h2⟩ := h
    exact ⟨x, row3_mono _ _ _ _ _ _ _ h1, row4_mono _ _ _ _ _ _ _ h2⟩
  · rw [if_neg c] at h ⊢; exact h

def okM (l : List S43) : Bool := l.all (fun m => (Lit.int .i64 m.f0).wf && (Lit.int .i64 m.f1).wf)
def rowG (k : Nat) (l : List S43) (sp : Int) : Option (List S43 × Int) := if l.length ≤ 1000000 ∧ okM l = true ∧ (Lit.int .i64 sp).wf = true then rowF k l sp else none
theorem rowG_mono (l : List S43) (sp : Int) (k : Nat) : LeO (rowG k l sp) (rowG (k + 1) l sp) := by
  intro r h
  unfold rowG at h ⊢
  by_cases c : l.length ≤ 1000000 ∧ okM l = true ∧ (Lit.int .i64 sp).wf = true
  · rw [if_pos c] at h ⊢; exact rowF_mono _ _ _ r h
  · rw [if_neg c] at h; cases h
theorem okM_wf {l : List S43} (h : okM l = true) : wfM l := by
  intro m hm
  unfold okM at h
  rw [List.all_eq_true] at h
  have := h m hm
  rw [Bool.and_eq_true] at this
  exact this

def wfF (f : Int → Option Int) : Prop := ∀ x, wf (mget f x)
theorem wfF_nil : wfF mnil := fun x => wf_zero
theorem wfF_put {f : Int → Option Int} (h : wfF f) {x v : Int} (hv : wf v) : wfF (mput f x v) := by
  intro y; rw [mget_put]; split
  · exact hv
  · exact h y
theorem wfF_del {f : Int → Option Int} (h : wfF f) (x : Int) : wfF (mdel f x) := by
  intro y
  unfold mget mdel
  by_cases e : y = x
  · rw [if_pos e]; exact wf_zero
  · rw [if_neg e]; exact h y
theorem take_snoc43 (l : List S43) (k : Nat) (h : k < l.length) : l.take (k + 1) = l.take k ++ [rd_T43 l k] := by
  rw [List.take_succ_eq_append_getElem h, rd_eq h]
theorem wfF_from {l : List S43} (h : wfM l) : wfF (fromOf l) := by
  revert h
  refine snoc_ind (P := fun l => wfM l → wfF (fromOf l)) (fun _ => wfF_nil) ?_ l
  intro l a ih h
  have h1 := ih (fun m hm => h m (List.mem_append_left _ hm))
  rw [fromOf_snoc]
  split
  · exact h1
  · exact wfF_put h1 (h a (by simp)).2

theorem may_yes (A0 : Option Addr) (c0 : Nat) (l : List S43) (spare : Int) (w : World) (hr0 : Kd.C k43 w A0 l.length l) (hlen : l.length ≤ 1000000) (hwf : wfM l) (hm : mayB l spare = true) :
    Calls Try.prog 28 #[.slice A0 l.length c0, .int .i64 spare] w fun e w' => e = .returned (.bool true) ∧ Below w.heap.size w w' :=
  (may_calls A0 c0 l spare w hr0 hlen hwf).mono fun e w' h => ⟨by rw [h.1, hm], h.2⟩
theorem may_no (A0 : Option Addr) (c0 : Nat) (l : List S43) (spare : Int) (w : World) (hr0 : Kd.C k43 w A0 l.length l) (hlen : l.length ≤ 1000000) (hwf : wfM l) (hm : mayB l spare = false) :
    Calls Try.prog 28 #[.slice A0 l.length c0, .int .i64 spare] w fun e w' => e = .returned (.bool false) ∧ Below w.heap.size w w' :=
  (may_calls A0 c0 l spare w hr0 hlen hwf).mono fun e w' h => ⟨by rw [h.1, hm], h.2⟩

set_option maxHeartbeats 8000000 in
set_option maxRecDepth 100000 in
theorem row_no (A0 : Option Addr) (c0 : Nat) (l0 : List (S43)) (a1 : Int) (w : World) (hr0 : Kd.C k43 w A0 l0.length l0) (hlen : l0.length ≤ 1000000) (hwf : wfM l0) (hm : mayB l0 a1 = false) :
    Calls Try.prog 10 #[.slice A0 l0.length c0, .int .i64 a1] w fun e w' => e = .returned (.tuple #[.slice none 0 0, .int .i64 2]) ∧ Below w.heap.size w w' := by
  have HR0 := Aside0.mk hr0
  have HWF := Aside0.mk hwf
  have HM := Aside0.mk hm
  clear hr0 hwf hm
  go_enter Try.func10, Try.ntmps10
  go_wp2_with fail
  refine (may_no _ _ _ _ _ HR0.out hlen HWF.out HM.out).mono ?_
  rintro e w1 ⟨rfl, hb⟩
  have HB := Aside0.mk hb
  clear hb
  go_wp2
  go_ret2
  exact ⟨rfl, HB.out⟩

set_option maxHeartbeats 8000000 in
set_option maxRecDepth 100000 in
theorem row_yes (k : Nat) (A0 : Option Addr) (c0 : Nat) (l0 : List (S43)) (a1 : Int) (r1 : List (S43)) (r2 : Int) (w : World) (hr0 : Kd.C k43 w A0 l0.length l0) (hlen : l0.length ≤ 1000000) (hwf : wfM l0) (hws : wf a1) (hm : mayB l0 a1 = true)
    (fr1 : Int → Option Int) (out1 : List S43) (h3 : row3 k (fromOf l0) (askOf l0) (readyOf l0 (askOf l0)) 0 [] = some (fr1, out1)) (h4 : row4 k l0 a1 0 fr1 out1 = some (r1, r2)) :
    Calls Try.prog 10 #[.slice A0 l0.length c0, .int .i64 a1] w fun e w' => ∃ v0_ : Value, e = .returned (.tuple #[v0_, .int .i64 r2]) ∧ Kd.R k43 43 w' w.heap.size (fun _ => True) v0_ r1 ∧ Below w.heap.size w w' := by
  have HR0 := Aside0.mk hr0
  have HWF := Aside0.mk hwf
  have HWS := Aside0.mk hws
  have HM := Aside0.mk hm
  have H3 := Aside0.mk h3
  have H4 := Aside0.mk h4
  clear hr0 hwf hm h3 h4 hws
  have hmm := @run_makeMap Try.prog
  go_enter Try.func10, Try.ntmps10
  go_wp2_with fail
  refine (may_yes _ _ _ _ _ HR0.out hlen HWF.out HM.out).mono ?_
  rintro e w1 ⟨rfl, hb⟩
  have HB1 := Aside0.mk hb
  clear hb HM
  go_wp2
  clear hmm
  have MF0 : Aside0 (MapIs Try.prog 3 ((w1.alloc (.map #[] 0)).alloc (.map #[] 0)) w1.heap.size 0 mnil) := ⟨(MapIs.made _ _ _).alloc _⟩
  have MA0 : Aside0 (MapIs Try.prog 3 ((w1.alloc (.map #[] 0)).alloc (.map #[] 0)) (w1.heap.size + 1) 0 mnil) := by
    have := MapIs.made (w1.alloc (.map #[] 0)) Try.prog 3
    exact ⟨by simpa using this⟩
  have HS1 := HB1.out.size
  have HB2 : Aside0 (Below w.heap.size w ((w1.alloc (.map #[] 0)).alloc (.map #[] 0))) := ⟨(HB1.out.alloc HB1.out.size _).alloc (by simp; omega) _⟩
  go_loopw [33] (fun i wr => ∃ j : Nat, j ≤ l0.length ∧ i = .int .i64 j ∧ Aside0 (MapIs Try.prog 3 wr w1.heap.size j (fromOf (l0.take j))) ∧ Aside0 (MapIs Try.prog 3 wr (w1.heap.size + 1) j (askOf (l0.take j))) ∧ Aside0 (Below w.heap.size w wr)) (fun i _ => l0.length - (intOf i).toNat)
  case atStart => exact ⟨0, Nat.zero_le _, rfl, MF0, MA0, HB2⟩
  case round =>
    clear MF0 MA0 HB2
    obtain ⟨j, hj, rfl, MF, MA, HB⟩ := hrel
    have HSr := HB.out.size
    have HLm := MA.out.lt
    by_cases hlt : j < l0.length
    · have p1 : (0 : Int) ≤ (j : Int) := by omega
      have q1 : (j : Int) < l0.length := by omega
      obtain ⟨ad, rfl, hx0, hx1⟩ := at_T43 (Kd.C_below HR0.out HB.out) (j : Int) p1 q1
      simp only [Int.toNat_natCast] at hx0 hx1
      have HT := Aside0.mk (take_snoc43 l0 j hlt)
      have HW0 := Aside0.mk (wfM_at HWF.out (j : Int)).1
      have HW1 := Aside0.mk (wfM_at HWF.out (j : Int)).2
      clear q1
      by_cases c1 : (rd_T43 l0 j).f0 = (rd_T43 l0 j).f1
      · have b1 : ((rd_T43 l0 j).f0 == (rd_T43 l0 j).f1) = true := beq_iff_eq.2 c1
        have b2 : ((rd_T43 l0 j).f0 != (rd_T43 l0 j).f1) = false := by rw [bne, b1]; rfl
        have C1 := Aside0.mk c1
        clear c1
        go_wp2
        go_roundw
        case rel =>
          refine ⟨j + 1, by omega, by go_num, ⟨?_⟩, ⟨?_⟩, ⟨HB.out.alloc HB.out.size _⟩⟩
          · rw [HT.out, fromOf_snoc, if_pos C1.out]; exact (MF.out.alloc _).mono (Nat.le_succ _)
          · rw [HT.out, askOf_snoc, if_pos C1.out]; exact (MA.out.alloc _).mono (Nat.le_succ _)
        case measure => simp [intOf]; omega
      · have b1 : ((rd_T43 l0 j).f0 == (rd_T43 l0 j).f1) = false := beq_eq_false_iff_ne.2 c1
        have b2 : ((rd_T43 l0 j).f0 != (rd_T43 l0 j).f1) = true := by rw [bne, b1]; rfl
        have C1 := Aside0.mk c1
        clear c1
        obtain ⟨w2, hst, hM2, hg2⟩ := (MF.out.alloc (.cells #[.int .i64 (rd_T43 l0 j).f0, .int .i64 (rd_T43 l0 j).f1] 43)).run_store (t := 50) Try.underlying3 Try.underlying50 (by simp only [maxLen]; omega) _ _ HW0.out HW1.out
        have hA2 := (MA.out.alloc (.cells #[.int .i64 (rd_T43 l0 j).f0, .int .i64 (rd_T43 l0 j).f1] 43)).kept hg2 (by intro e; injection e with e; omega)
        have hlk := hA2.run_look (t := 50) Try.underlying3 Try.underlying50 zero3 _ HW1.out
        obtain ⟨w3, hst3, hM3, hg3⟩ := hA2.run_store (t := 50) Try.underlying3 Try.underlying50 (by simp only [maxLen]; omega) _ (wrap64 (mget (askOf (l0.take j)) (rd_T43 l0 j).f1 + 1)) HW1.out (wrap64_wf _)
        have HM2 := Aside0.mk (hM2.kept hg3 (by intro e; injection e with e; omega))
        have HM3 := Aside0.mk hM3
        have hbx := blk_grown (blk_new wr (.cells #[.int .i64 (rd_T43 l0 j).f0, .int .i64 (rd_T43 l0 j).f1] 43)) hg2 (by intro e; injection e with e; omega)
        have hy0 := blk_cell hbx 0
        have hy1 := blk_cell hbx 1
        have HB3 := Aside0.mk (((HB.out.alloc HB.out.size (.cells #[.int .i64 (rd_T43 l0 j).f0, .int .i64 (rd_T43 l0 j).f1] 43)).grown hg2 (by simp; omega) (fun x hx => by cases hx; exact HS1)).grown hg3 (by have := hg2.size; simp at this; omega) (fun x hx => by cases hx; omega))
        clear hM2 hA2 hM3 hg2 hg3 hbx
        go_wp2
        go_roundw
        case rel =>
          refine ⟨j + 1, by omega, by go_num, ⟨?_⟩, ⟨?_⟩, HB3⟩
          · rw [HT.out, fromOf_snoc, if_neg C1.out]; exact HM2.out
          · rw [HT.out, askOf_snoc, if_neg C1.out]; exact HM3.out
        case measure => simp [intOf]; omega
    · obtain rfl : j = l0.length := by omega
      rw [List.take_length] at MF MA
      go_wp2
      have HSF : Aside0 (Below w.heap.size w wr) := HB
      clear HB
      obtain ⟨wq, hwq⟩ : ∃ wq, wq = wr := ⟨_, rfl⟩
      clear hwq wq
      go_loopw [8, 55] (fun v i wr => ∃ j : Nat, j ≤ l0.length ∧ i = .int .i64 j ∧ Aside0 (Kd.R (Kd.int .i64) 3 wr w.heap.size (fun _ => True) v (readyOf (l0.take j) (askOf l0))) ∧ Aside0 (MapIs Try.prog 3 wr w1.heap.size l0.length (fromOf l0)) ∧ Aside0 (MapIs Try.prog 3 wr (w1.heap.size + 1) l0.length (askOf l0)) ∧ Aside0 (Below w.heap.size w wr)) (fun _ i _ => l0.length - (intOf i).toNat)
      case atStart => exact ⟨0, Nat.zero_le _, rfl, ⟨Kd.R_nil _ _ _ _ _⟩, MF, MA, HSF⟩
      case round =>
        clear MF MA HSF
        obtain ⟨j, hj, rfl, HO, MF, MA, HB⟩ := hrel
        have HSr := HB.out.size
        have HLm := MA.out.lt
        by_cases hlt : j < l0.length
        · have p1 : (0 : Int) ≤ (j : Int) := by omega
          have q1 : (j : Int) < l0.length := by omega
          obtain ⟨ad, rfl, hx0, hx1⟩ := at_T43 (Kd.C_below HR0.out HB.out) (j : Int) p1 q1
          simp only [Int.toNat_natCast] at hx0 hx1
          have HT := Aside0.mk (take_snoc43 l0 j hlt)
          have HW0 := Aside0.mk (wfM_at HWF.out (j : Int)).1
          clear q1
          have HRL : Aside0 ((readyOf (l0.take j) (askOf l0)).length ≤ l0.length) := ⟨by
            unfold readyOf; rw [List.length_map]; exact Nat.le_trans (List.length_filter_le _ _) (by rw [List.length_take]; omega)⟩
          have skip : ¬ ((rd_T43 l0 j).f0 ≠ (rd_T43 l0 j).f1 ∧ mget (askOf l0) (rd_T43 l0 j).f0 = 0) → readyOf (l0.take (j + 1)) (askOf l0) = readyOf (l0.take j) (askOf l0) := fun h => by rw [HT.out, readyOf_snoc, if_neg h]
          have SKIP := Aside0.mk skip
          clear skip
          by_cases c1 : (rd_T43 l0 j).f0 = (rd_T43 l0 j).f1
          · have b1 : ((rd_T43 l0 j).f0 == (rd_T43 l0 j).f1) = true := beq_iff_eq.2 c1
            have b2 : ((rd_T43 l0 j).f0 != (rd_T43 l0 j).f1) = false := by rw [bne, b1]; rfl
            have C1 := Aside0.mk c1
            clear c1
            go_wp2
            go_roundw
            case rel => exact ⟨j + 1, by omega, by go_num, ⟨by rw [SKIP.out (fun h => h.1 C1.out)]; exact Kd.R_alloc HO.out _⟩, ⟨MF.out.alloc _⟩, ⟨MA.out.alloc _⟩, ⟨HB.out.alloc HB.out.size _⟩⟩
            case measure => simp [intOf]; omega
          · have b1 : ((rd_T43 l0 j).f0 == (rd_T43 l0 j).f1) = false := beq_eq_false_iff_ne.2 c1
            have b2 : ((rd_T43 l0 j).f0 != (rd_T43 l0 j).f1) = true := by rw [bne, b1]; rfl
            have C1 := Aside0.mk c1
            clear c1
            have hlk := (MA.out.alloc (.cells #[.int .i64 (rd_T43 l0 j).f0, .int .i64 (rd_T43 l0 j).f1] 43)).run_look (t := 50) Try.underlying3 Try.underlying50 zero3 _ HW0.out
            by_cases c2 : mget (askOf l0) (rd_T43 l0 j).f0 = 0
            · have b3 : (mget (askOf l0) (rd_T43 l0 j).f0 == 0) = true := beq_iff_eq.2 c2
              have HT2 := Aside0.mk (show readyOf (l0.take (j + 1)) (askOf l0) = readyOf (l0.take j) (askOf l0) ++ [(rd_T43 l0 j).f0] by rw [HT.out, readyOf_snoc, if_pos ⟨C1.out, c2⟩])
              clear c2
              go_wp2_with (first | ((with_reducible refine gate_builtin (b := .append) (xs := #[.tmp 71, .tmp 74]) rfl ?_); at_builtin; go_loud (refine Kd.R_append (Kd.int .i64) (w0 := w) w.heap.size rfl (.tmp 71) (.tmp 74) 35 3 (.int .i64 0) 8 rfl Try.underlying35 info3 rfl (by decide) (by omega) u8 (readyOf (l0.take j) (askOf l0)) (rd_T43 l0 j).f0 [.int .i64 (rd_T43 l0 j).f0] (fun _ => True) (fun _ => False) rfl ?aX ?aP (fun _ hk => hk.elim) ?aF ?aO ?aB ?aS ?aL ?_; (case aX => simp [Act.eval]); (case aP => exact rfl); (case aB => exact HB.out.alloc HB.out.size _); (case aF => exact (fun _ _ => trivial)); (case aO => exact Kd.R_alloc HO.out _); (case aS => simp; omega); (case aL => have := HRL.out; omega); intro v169 w4 ho hb hg hat; have HO4 := Aside0.mk ho; have HB4 := Aside0.mk hb; have MF4 := Aside0.mk (map_row (MF.out.alloc (.cells #[.int .i64 (rd_T43 l0 j).f0, .int .i64 (rd_T43 l0 j).f1] 43)) (Kd.R_alloc HO.out _) hg); have MA4 := Aside0.mk (map_row (MA.out.alloc (.cells #[.int .i64 (rd_T43 l0 j).f0, .int .i64 (rd_T43 l0 j).f1] 43)) (Kd.R_alloc HO.out _) hg); clear ho hb hg hat)))
              go_roundw
              case rel => exact ⟨j + 1, by omega, by go_num, ⟨by rw [HT2.out]; exact HO4.out⟩, MF4, MA4, HB4⟩
              case measure => simp [intOf]; omega
            · have b3 : (mget (askOf l0) (rd_T43 l0 j).f0 == 0) = false := beq_eq_false_iff_ne.2 c2
              have C2 := Aside0.mk c2
              clear c2
              go_wp2
              go_roundw
              case rel => exact ⟨j + 1, by omega, by go_num, ⟨by rw [SKIP.out (fun h => C2.out h.2)]; exact Kd.R_alloc HO.out _⟩, ⟨MF.out.alloc _⟩, ⟨MA.out.alloc _⟩, ⟨HB.out.alloc HB.out.size _⟩⟩
              case measure => simp [intOf]; omega
        · obtain rfl : j = l0.length := by omega
          rw [List.take_length] at HO
          have HRW : Aside0 (∀ x ∈ readyOf l0 (askOf l0), wf x) := ⟨fun x hx => by
            unfold readyOf at hx
            obtain ⟨m, hm, rfl⟩ := List.mem_map.1 hx
            exact (HWF.out m (List.mem_filter.1 hm).1).1⟩
          have HFW : Aside0 (wfF (fromOf l0)) := ⟨wfF_from HWF.out⟩
          clear hlt HSr HLm
          go_wp2
          have HSF : Aside0 (Below w.heap.size w wr) := HB
          clear HB
          go_loopg [8, 13, 14] k (fun kq v8 v13 v14 wr => ∃ (fr am : Int → Option Int) (ry : List Int) (i : Nat) (out : List S43), v14 = .int .i64 (i : Int) ∧ Aside0 (row3 kq fr am ry i out = some (fr1, out1)) ∧ Aside0 (kq ≤ k) ∧ Aside0 (Kd.R (Kd.int .i64) 3 wr w.heap.size (fun _ => True) v8 ry) ∧ Aside0 (Kd.R k43 43 wr w.heap.size (fun _ => True) v13 out) ∧
            Aside0 (MapIs Try.prog 3 wr w1.heap.size l0.length fr) ∧ Aside0 (MapIs Try.prog 3 wr (w1.heap.size + 1) (l0.length + i) am) ∧ Aside0 (wfF fr) ∧ Aside0 (∀ x ∈ ry, wf x) ∧ Aside0 (Below w.heap.size w wr))
          case atStart => exact ⟨fromOf l0, askOf l0, readyOf l0 (askOf l0), 0, [], rfl, H3, ⟨Nat.le_refl _⟩, HO, ⟨Kd.R_nil _ _ _ _ _⟩, MF, MA, HFW, HRW, HSF⟩
          case round =>
            clear MF MA HSF HO H3 HRW HFW
            obtain ⟨fr, am, ry, i, out, rfl, HA, HK1, HY, HU, MF, MA, HFW, HRW, HB⟩ := hrel
            have HSr := HB.out.size
            have HLm := MA.out.lt
            cases gk with
            | zero => exact absurd HA.out (by simp [row3])
            | succ k1 =>
              have H := HA.out
              clear HA
              by_cases hlt : i < ry.length
              · by_cases hlim : ry.length < 10000000 ∧ out.length < 10000000
                · rw [row3_step hlt hlim] at H
                  obtain ⟨hl1, hl2⟩ := hlim
                  obtain ⟨A8, c8, rfl, hc8, hC8⟩ := Kd.R_reads HY.out
                  obtain ⟨ad, rfl, hx0⟩ := Kd.at_int hC8 (i : Int) (by omega) (by omega)
                  have hrd : rd ry (i : Int) = ry.getD i 0 := rfl
                  rw [hrd] at hx0
                  simp only [Int.toNat_natCast] at hx0
                  have HWt : Aside0 (wf (ry.getD i 0)) := ⟨by rw [List.getD_eq_getElem?_getD, List.getElem?_eq_getElem hlt]; exact HRW.out _ (List.getElem_mem hlt)⟩
                  obtain ⟨tp, htp⟩ : ∃ tp, ry.getD i 0 = tp := ⟨_, rfl⟩
                  rw [htp] at hx0 HWt H
                  clear hrd htp
                  have HWa : Aside0 (wf (mget fr tp)) := ⟨HFW.out tp⟩
                  have hlk := MF.out.run_look (t := 50) Try.underlying3 Try.underlying50 zero3 _ HWt.out
                  obtain ⟨at_, hat⟩ : ∃ at_, mget fr tp = at_ := ⟨_, rfl⟩
                  rw [hat] at hlk HWa H
                  clear hat
                  have H' := Aside0.mk H
                  clear H hC8
                  have HC8 := Aside0.mk hc8
                  clear hc8
                  by_cases d1 : mhas (mdel fr tp) at_ = true
                  · by_cases d2 : mget (mput am at_ (wrap64 (mget am at_ - 1))) at_ = 0
                    · have D := Aside0.mk (⟨d1, d2⟩ : mhas (mdel fr tp) at_ = true ∧ mget (mput am at_ (wrap64 (mget am at_ - 1))) at_ = 0)
                      have d3 := beq_iff_eq.2 d2
                      clear d2
                      go_wp2_with (first | ((with_reducible refine gate_builtin (b := .append) (xs := #[.tmp 90, .tmp 94]) rfl ?_); at_builtin; refine Kd.R_append k43 (w0 := w) w.heap.size rfl (.tmp 90) (.tmp 94) 22 43 (.agg #[.int .i64 0, .int .i64 0]) 16 rfl Try.underlying22 info43 rfl (by decide) (by omega) u13 out (⟨tp, at_⟩ : S43) [.int .i64 tp, .int .i64 at_] (fun _ => True) (fun _ => False) rfl rfl ?bP (fun _ hk => hk.elim) ?bF ?bO ?bB ?bS ?bL ?_; (case bP => exact k43_mkM _ _ _ (⟨tp, at_⟩ : S43)); (case bB => exact HB.out); (case bF => exact (fun _ _ => trivial)); (case bO => exact HU.out); (case bS => exact HSr); (case bL => omega); intro v169 w4 ho hb hg hat; have HU4 := Aside0.mk ho; have HB4 := Aside0.mk hb; have HY4 := Aside0.mk (Kd.R_over HY.out HU.out (by decide) hg); have MF4 := Aside0.mk (map_row MF.out HU.out hg); have MA4 := Aside0.mk (map_row MA.out HU.out hg); have HG4 := Aside0.mk hg.size; clear ho hb hg hat) | (at_delete; refine del rfl _ _ rfl Try.underlying3 Try.underlying50 rfl MF4.out _ rfl HWt.out ?_; intro w5 hM5 hg5; have MA5 := Aside0.mk (MA4.out.kept hg5 (by intro e; injection e with e; omega)); have hla := MA5.out.run_look (t := 50) Try.underlying3 Try.underlying50 zero3 _ HWa.out; obtain ⟨w6, hst6, hM6, hg6⟩ := MA5.out.run_store (t := 50) Try.underlying3 Try.underlying50 (by simp only [maxLen]; omega) _ (wrap64 (mget am at_ - 1)) HWa.out (wrap64_wf _); have MF6 := Aside0.mk (hM5.kept hg6 (by intro e; injection e with e; omega)); have MA6 := Aside0.mk hM6; have hlf := MF6.out.run_lookOk (t := 50) Try.underlying3 Try.underlying50 zero3 _ HWa.out; have hlb := MA6.out.run_look (t := 50) Try.underlying3 Try.underlying50 zero3 _ HWa.out; have HU6 := Aside0.mk (R_map (R_map HU4.out MF4.out hg5) MA5.out hg6); have HY6 := Aside0.mk (R_map (R_map HY4.out MF4.out hg5) MA5.out hg6); have HB6 := Aside0.mk ((HB4.out.grown hg5 HB4.out.size (fun x hx => by cases hx; exact HS1)).grown hg6 (Nat.le_trans HB4.out.size hg5.size) (fun x hx => by cases hx; omega)); clear hM5 hM6 hg5 hg6) | ((with_reducible refine gate_builtin (b := .append) (xs := #[.tmp 115, .tmp 117]) rfl ?_); at_builtin; refine Kd.R_append (Kd.int .i64) (w0 := w) w.heap.size rfl (.tmp 115) (.tmp 117) 35 3 (.int .i64 0) 8 rfl Try.underlying35 info3 rfl (by decide) (by omega) (.slice (some ad) ry.length c8) ry at_ [.int .i64 at_] (fun _ => True) (fun _ => False) rfl rfl ?cP (fun _ hk => hk.elim) ?cF ?cO ?cB ?cS ?cL ?_; (case cP => exact rfl); (case cB => exact HB6.out); (case cF => exact (fun _ _ => trivial)); (case cO => exact HY6.out); (case cS => exact HB6.out.size); (case cL => omega); intro v170 w7 ho hb hg hat; have HY7 := Aside0.mk ho; have HB7 := Aside0.mk hb; have HU7 := Aside0.mk (Kd.R_over HU6.out HY6.out (by decide) hg); have MF7 := Aside0.mk (map_row MF6.out HY6.out hg); have MA7 := Aside0.mk (map_row MA6.out HY6.out hg); clear ho hb hg hat))
                      go_roundg k1
                      case measure => have := HK1.out; omega
                      case rel => exact ⟨mdel fr tp, mput am at_ (wrap64 (mget am at_ - 1)), ry ++ [at_], i + 1, out ++ [⟨tp, at_⟩], by go_num, ⟨by rw [if_pos D.out] at H'; exact H'.out⟩, ⟨by have := HK1.out; omega⟩, HY7, HU7, MF7, ⟨MA7.out.mono (by omega)⟩, ⟨wfF_del HFW.out _⟩, ⟨fun x hx => by rcases List.mem_append.1 hx with h | h; exact HRW.out x h; rw [List.mem_singleton] at h; rw [h]; exact HWa.out⟩, HB7⟩
                    · have D := Aside0.mk (fun h => d2 h.2 : ¬ (mhas (mdel fr tp) at_ = true ∧ mget (mput am at_ (wrap64 (mget am at_ - 1))) at_ = 0))
                      have d3 := beq_eq_false_iff_ne.2 d2
                      clear d2
                      go_wp2_with (first | ((with_reducible refine gate_builtin (b := .append) (xs := #[.tmp 90, .tmp 94]) rfl ?_); at_builtin; refine Kd.R_append k43 (w0 := w) w.heap.size rfl (.tmp 90) (.tmp 94) 22 43 (.agg #[.int .i64 0, .int .i64 0]) 16 rfl Try.underlying22 info43 rfl (by decide) (by omega) u13 out (⟨tp, at_⟩ : S43) [.int .i64 tp, .int .i64 at_] (fun _ => True) (fun _ => False) rfl rfl ?dP (fun _ hk => hk.elim) ?dF ?dO ?dB ?dS ?dL ?_; (case dP => exact k43_mkM _ _ _ (⟨tp, at_⟩ : S43)); (case dB => exact HB.out); (case dF => exact (fun _ _ => trivial)); (case dO => exact HU.out); (case dS => exact HSr); (case dL => omega); intro v169 w4 ho hb hg hat; have HU4 := Aside0.mk ho; have HB4 := Aside0.mk hb; have HY4 := Aside0.mk (Kd.R_over HY.out HU.out (by decide) hg); have MF4 := Aside0.mk (map_row MF.out HU.out hg); have MA4 := Aside0.mk (map_row MA.out HU.out hg); have HG4 := Aside0.mk hg.size; clear ho hb hg hat) | (at_delete; refine del rfl _ _ rfl Try.underlying3 Try.underlying50 rfl MF4.out _ rfl HWt.out ?_; intro w5 hM5 hg5; have MA5 := Aside0.mk (MA4.out.kept hg5 (by intro e; injection e with e; omega)); have hla := MA5.out.run_look (t := 50) Try.underlying3 Try.underlying50 zero3 _ HWa.out; obtain ⟨w6, hst6, hM6, hg6⟩ := MA5.out.run_store (t := 50) Try.underlying3 Try.underlying50 (by simp only [maxLen]; omega) _ (wrap64 (mget am at_ - 1)) HWa.out (wrap64_wf _); have MF6 := Aside0.mk (hM5.kept hg6 (by intro e; injection e with e; omega)); have MA6 := Aside0.mk hM6; have hlf := MF6.out.run_lookOk (t := 50) Try.underlying3 Try.underlying50 zero3 _ HWa.out; have hlb := MA6.out.run_look (t := 50) Try.underlying3 Try.underlying50 zero3 _ HWa.out; have HU6 := Aside0.mk (R_map (R_map HU4.out MF4.out hg5) MA5.out hg6); have HY6 := Aside0.mk (R_map (R_map HY4.out MF4.out hg5) MA5.out hg6); have HB6 := Aside0.mk ((HB4.out.grown hg5 HB4.out.size (fun x hx => by cases hx; exact HS1)).grown hg6 (Nat.le_trans HB4.out.size hg5.size) (fun x hx => by cases hx; omega)); clear hM5 hM6 hg5 hg6))
                      go_roundg k1
                      case measure => have := HK1.out; omega
                      case rel => exact ⟨mdel fr tp, mput am at_ (wrap64 (mget am at_ - 1)), ry, i + 1, out ++ [⟨tp, at_⟩], by go_num, ⟨by rw [if_neg D.out] at H'; exact H'.out⟩, ⟨by have := HK1.out; omega⟩, HY6, HU6, MF6, ⟨MA6.out.mono (by omega)⟩, ⟨wfF_del HFW.out _⟩, HRW, HB6⟩
                  · have D := Aside0.mk (fun h => d1 h.1 : ¬ (mhas (mdel fr tp) at_ = true ∧ mget (mput am at_ (wrap64 (mget am at_ - 1))) at_ = 0))
                    have d3 : mhas (mdel fr tp) at_ = false := by simpa using d1
                    clear d1
                    go_wp2_with (first | ((with_reducible refine gate_builtin (b := .append) (xs := #[.tmp 90, .tmp 94]) rfl ?_); at_builtin; refine Kd.R_append k43 (w0 := w) w.heap.size rfl (.tmp 90) (.tmp 94) 22 43 (.agg #[.int .i64 0, .int .i64 0]) 16 rfl Try.underlying22 info43 rfl (by decide) (by omega) u13 out (⟨tp, at_⟩ : S43) [.int .i64 tp, .int .i64 at_] (fun _ => True) (fun _ => False) rfl rfl ?eP (fun _ hk => hk.elim) ?eF ?eO ?eB ?eS ?eL ?_; (case eP => exact k43_mkM _ _ _ (⟨tp, at_⟩ : S43)); (case eB => exact HB.out); (case eF => exact (fun _ _ => trivial)); (case eO => exact HU.out); (case eS => exact HSr); (case eL => omega); intro v169 w4 ho hb hg hat; have HU4 := Aside0.mk ho; have HB4 := Aside0.mk hb; have HY4 := Aside0.mk (Kd.R_over HY.out HU.out (by decide) hg); have MF4 := Aside0.mk (map_row MF.out HU.out hg); have MA4 := Aside0.mk (map_row MA.out HU.out hg); have HG4 := Aside0.mk hg.size; clear ho hb hg hat) | (at_delete; refine del rfl _ _ rfl Try.underlying3 Try.underlying50 rfl MF4.out _ rfl HWt.out ?_; intro w5 hM5 hg5; have MA5 := Aside0.mk (MA4.out.kept hg5 (by intro e; injection e with e; omega)); have hla := MA5.out.run_look (t := 50) Try.underlying3 Try.underlying50 zero3 _ HWa.out; obtain ⟨w6, hst6, hM6, hg6⟩ := MA5.out.run_store (t := 50) Try.underlying3 Try.underlying50 (by simp only [maxLen]; omega) _ (wrap64 (mget am at_ - 1)) HWa.out (wrap64_wf _); have MF6 := Aside0.mk (hM5.kept hg6 (by intro e; injection e with e; omega)); have MA6 := Aside0.mk hM6; have hlf := MF6.out.run_lookOk (t := 50) Try.underlying3 Try.underlying50 zero3 _ HWa.out; have hlb := MA6.out.run_look (t := 50) Try.underlying3 Try.underlying50 zero3 _ HWa.out; have HU6 := Aside0.mk (R_map (R_map HU4.out MF4.out hg5) MA5.out hg6); have HY6 := Aside0.mk (R_map (R_map HY4.out MF4.out hg5) MA5.out hg6); have HB6 := Aside0.mk ((HB4.out.grown hg5 HB4.out.size (fun x hx => by cases hx; exact HS1)).grown hg6 (Nat.le_trans HB4.out.size hg5.size) (fun x hx => by cases hx; omega)); clear hM5 hM6 hg5 hg6))
                    go_roundg k1
                    case measure => have := HK1.out; omega
                    case rel => exact ⟨mdel fr tp, mput am at_ (wrap64 (mget am at_ - 1)), ry, i + 1, out ++ [⟨tp, at_⟩], by go_num, ⟨by rw [if_neg D.out] at H'; exact H'.out⟩, ⟨by have := HK1.out; omega⟩, HY6, HU6, MF6, ⟨MA6.out.mono (by omega)⟩, ⟨wfF_del HFW.out _⟩, HRW, HB6⟩
                · rw [row3, if_pos hlt, if_neg hlim] at H; cases H
              · rw [row3, if_neg hlt] at H
                have H' := Aside0.mk H
                clear H
                have hge : ¬ i < ry.length := hlt
                obtain ⟨A8, c8, rfl, hc8, hC8⟩ := Kd.R_reads HY.out
                clear hC8 hc8
                obtain ⟨rfl, rfl⟩ : fr = fr1 ∧ out = out1 := by have := H'.out; injection this with this; injection this with e1 e2; exact ⟨e1, e2⟩
                clear H' HSr HLm HK1
                go_wp2
                have HSF : Aside0 (Below w.heap.size w wr) := HB
                have HU0 : Aside0 (Kd.R k43 43 wr w.heap.size (fun _ => True) u13 out) := HU
                clear HB HU
                go_loopg [13, 121] k (fun kq v13 v121 wr => ∃ (fr : Int → Option Int) (j : Nat) (out : List S43), v121 = .int .i64 (j : Int) ∧ Aside0 (row4 kq l0 a1 j fr out = some (r1, r2)) ∧ Aside0 (kq ≤ k) ∧ Aside0 (Kd.R k43 43 wr w.heap.size (fun _ => True) v13 out) ∧
                  Aside0 (MapIs Try.prog 3 wr w1.heap.size l0.length fr) ∧ Aside0 (wfF fr) ∧ Aside0 (Below w.heap.size w wr))
                case atStart => exact ⟨fr, 0, out, rfl, H4, ⟨Nat.le_refl _⟩, HU0, MF, HFW, HSF⟩
                case round =>
                  clear MF HSF HU0 H4 HFW HY MA HRW
                  obtain ⟨fr, j, out, rfl, HA, HK1, HU, MF, HFW, HB⟩ := hrel
                  have HSr := HB.out.size
                  have HLm := MF.out.lt
                  cases gk with
                  | zero => exact absurd HA.out (by simp [row4])
                  | succ k1 =>
                    have H := HA.out
                    clear HA
                    by_cases hlt : j < l0.length
                    · have p1 : (0 : Int) ≤ (j : Int) := by omega
                      have q1 : (j : Int) < l0.length := by omega
                      obtain ⟨ad, rfl, hx0, hx1⟩ := at_T43 (Kd.C_below HR0.out HB.out) (j : Int) p1 q1
                      simp only [Int.toNat_natCast] at hx0 hx1
                      have HW0 := Aside0.mk (wfM_at HWF.out (j : Int)).1
                      have HLT := Aside0.mk hlt
                      clear q1
                      have hlk := (MF.out.alloc (.cells #[.int .i64 (rd_T43 l0 j).f0, .int .i64 (rd_T43 l0 j).f1] 43)).run_lookOk (t := 50) Try.underlying3 Try.underlying50 zero3 _ HW0.out
                      by_cases d1 : mhas fr (rd_T43 l0 j).f0 = true
                      · by_cases d2 : a1 < 0
                        · rw [row4_err hlt d1 d2] at H
                          obtain ⟨rfl, rfl⟩ : ([] : List S43) = r1 ∧ (4 : Int) = r2 := by injection H with H; injection H with e1 e2; exact ⟨e1, e2⟩
                          clear H
                          go_wp2
                          go_ret2
                          exact ⟨_, rfl, Kd.R_nil _ _ _ _ _, HB.out.alloc HB.out.size _⟩
                        · by_cases hl2 : out.length < 10000000
                          · rw [row4_turn hlt d1 d2 hl2, Option.bind_eq_some_iff] at H
                            obtain ⟨⟨fr2, out2⟩, h5, h4⟩ := H
                            have H5 := Aside0.mk h5
                            have H4 := Aside0.mk h4
                            clear h5 h4
                            obtain ⟨B, hB⟩ : ∃ B, B = wr.heap.size := ⟨_, rfl⟩
                            have HUB := Aside0.mk (Kd.R_alloc (Kd.R_elderB HU.out wr.heap.size (Nat.le_refl _)) (.cells #[.int .i64 (rd_T43 l0 j).f0, .int .i64 (rd_T43 l0 j).f1] 43))
                            clear hB B
                            go_wp2_with (first | ((with_reducible refine gate_builtin (b := .append) (xs := #[.tmp 136, .tmp 141]) rfl ?_); at_builtin; go_loud (refine Kd.R_append k43 (w0 := w) w.heap.size rfl (.tmp 136) (.tmp 141) 22 43 (.agg #[.int .i64 0, .int .i64 0]) 16 rfl Try.underlying22 info43 rfl (by decide) (by omega) u13 out (⟨a1, (rd_T43 l0 j).f0⟩ : S43) [.int .i64 a1, .int .i64 (rd_T43 l0 j).f0] (fun k_ => True ∧ k_ ≠ wr.heap.size) (fun _ => False) rfl ?fX ?fP (fun _ hk => hk.elim) ?fF ?fO ?fB ?fS ?fL ?_; (case fX => simp [Act.eval]); (case fP => exact k43_mkM _ _ _ (⟨a1, (rd_T43 l0 j).f0⟩ : S43)); (case fB => exact HB.out.alloc HB.out.size _); (case fF => exact (fun k_ hk => ⟨trivial, by simp at hk; omega⟩)); (case fO => exact HUB.out); (case fS => simp; omega); (case fL => omega); intro v169 w4 ho hb hg hat; have HU4 := Aside0.mk ho; have HB4 := Aside0.mk hb; have MF4 := Aside0.mk (map_row (MF.out.alloc (.cells #[.int .i64 (rd_T43 l0 j).f0, .int .i64 (rd_T43 l0 j).f1] 43)) HUB.out hg); have hbx := blk_grown (blk_new wr (.cells #[.int .i64 (rd_T43 l0 j).f0, .int .i64 (rd_T43 l0 j).f1] 43)) hg (Kd.R_away HUB.out (fun _ hk => hk.2)); have hy0 := blk_cell hbx 0; have HBX := Aside0.mk hbx; clear ho hb hg hat hbx)))
                            have HGX := Aside0.mk (blk_lt HBX.out)
                            clear hy0
                            obtain ⟨wo, hwo⟩ : ∃ wo : World, wo = wr := ⟨_, rfl⟩
                            have MFO : Aside0 (MapIs Try.prog 3 wo w1.heap.size l0.length fr) := by rw [hwo]; exact MF
                            have HBO : Aside0 (Below w.heap.size w wo) := by rw [hwo]; exact HB
                            rw [← hwo] at HU4 HBX HGX ⊢
                            clear hwo
                            go_loopg [13, 23] k1 (fun kq v13 v23 wr => ∃ (fr : Int → Option Int) (tp : Int) (out : List S43), v23 = .int .i64 tp ∧ Aside0 (row5 kq (rd_T43 l0 j).f0 a1 tp fr out = some (fr2, out2)) ∧ Aside0 (kq ≤ k1) ∧ Aside0 (Kd.R k43 43 wr w.heap.size (fun k_ => True ∧ k_ ≠ wo.heap.size) v13 out) ∧
                              Aside0 (MapIs Try.prog 3 wr w1.heap.size l0.length fr) ∧ Aside0 (wfF fr) ∧ Aside0 (wf tp) ∧ Aside0 (wr.heap[wo.heap.size]? = some (.cells #[.int .i64 (rd_T43 l0 j).f0, .int .i64 (rd_T43 l0 j).f1] 43 (0, 0))) ∧ Aside0 (Below w.heap.size w wr))
                            case atStart => exact ⟨fr, (rd_T43 l0 j).f0, out ++ [⟨a1, (rd_T43 l0 j).f0⟩], rfl, H5, ⟨Nat.le_refl _⟩, HU4, MF4, HFW, HW0, HBX, HB4⟩
                            case round =>
                              clear MF4 HU4 HB4 H5 HFW HBX HU MF HB HUB
                              obtain ⟨fr, tp, out, rfl, HA, HK2, HU, MF, HFW, HWt, HBX, HB⟩ := hrel
                              have HSr := HB.out.size
                              have HLm := MF.out.lt
                              cases gk with
                              | zero => exact absurd HA.out (by simp [row5])
                              | succ k2 =>
                                have H := HA.out
                                clear HA
                                rw [row5] at H
                                by_cases hl2 : ¬ out.length < 10000000
                                · rw [if_pos hl2] at H; cases H
                                rw [if_neg hl2] at H
                                have hl3 : out.length < 10000000 := by omega
                                clear hl2
                                have HWa : Aside0 (wf (mget fr tp)) := ⟨HFW.out tp⟩
                                have hlk := MF.out.run_look (t := 50) Try.underlying3 Try.underlying50 zero3 _ HWt.out
                                obtain ⟨at_, hat⟩ : ∃ at_, mget fr tp = at_ := ⟨_, rfl⟩
                                rw [hat] at hlk HWa H
                                clear hat
                                by_cases e1 : at_ = (rd_T43 l0 j).f0
                                · rw [if_pos e1] at H
                                  obtain ⟨e2, e3⟩ : mdel fr tp = fr2 ∧ out ++ [⟨tp, a1⟩] = out2 := by injection H with H; injection H with e1 e2; exact ⟨e1, e2⟩
                                  have E2 := Aside0.mk e2
                                  have E3 := Aside0.mk e3
                                  have b1 := beq_iff_eq.2 e1
                                  clear H e2 e3 e1
                                  go_wp2_with (first | (at_delete; refine del rfl _ _ rfl Try.underlying3 Try.underlying50 rfl MF.out _ rfl HWt.out ?_; intro w5 hM5 hg5; have MF5 := Aside0.mk hM5; have HU5 := Aside0.mk (R_map HU.out MF.out hg5); have hbx5 := blk_map HBX.out MF.out hg5; have hy5 := blk_cell hbx5 0; have HBX5 := Aside0.mk hbx5; have HB5 := Aside0.mk (HB.out.grown hg5 HB.out.size (fun x hx => by cases hx; exact HS1)); have HG5 := Aside0.mk (Nat.lt_of_lt_of_le (blk_lt HBX.out) hg5.size); clear hM5 hg5 hbx5) | ((with_reducible refine gate_builtin (b := .append) (xs := #[.tmp 154, .tmp 158]) rfl ?_); at_builtin; refine Kd.R_append k43 (w0 := w) w.heap.size rfl (.tmp 154) (.tmp 158) 22 43 (.agg #[.int .i64 0, .int .i64 0]) 16 rfl Try.underlying22 info43 rfl (by decide) (by omega) u13 out (⟨tp, a1⟩ : S43) [.int .i64 tp, .int .i64 a1] (fun k_ => True ∧ k_ ≠ wo.heap.size) (fun _ => False) rfl rfl ?gP (fun _ hk => hk.elim) ?gF ?gO ?gB ?gS ?gL ?_; (case gP => exact k43_mkM _ _ _ (⟨tp, a1⟩ : S43)); (case gB => exact HB5.out); (case gF => exact (fun k_ hk => ⟨trivial, by have := HG5.out; omega⟩)); (case gO => exact HU5.out); (case gS => exact HB5.out.size); (case gL => omega); intro v171 w7 ho hb hg hat; have HU7 := Aside0.mk ho; have HB7 := Aside0.mk hb; have MF7 := Aside0.mk (map_row MF5.out HU5.out hg); have HBX7 := Aside0.mk (blk_grown HBX5.out hg (Kd.R_away HU5.out (fun _ hk => hk.2))); clear ho hb hg hat))
                                  go_roundg k1
                                  case measure => have := HK1.out; omega
                                  case rel => exact ⟨fr2, j + 1, out2, by go_num, H4, ⟨by have := HK1.out; omega⟩, ⟨by rw [← E3.out]; exact Kd.R_drop HU7.out⟩, ⟨by rw [← E2.out]; exact MF7.out⟩, ⟨by rw [← E2.out]; exact wfF_del HFW.out _⟩, HB7⟩
                                · rw [if_neg e1] at H
                                  have H' := Aside0.mk H
                                  have b1 := beq_eq_false_iff_ne.2 e1
                                  clear H e1
                                  go_wp2_with (first | (at_delete; refine del rfl _ _ rfl Try.underlying3 Try.underlying50 rfl MF.out _ rfl HWt.out ?_; intro w5 hM5 hg5; have MF5 := Aside0.mk hM5; have HU5 := Aside0.mk (R_map HU.out MF.out hg5); have hbx5 := blk_map HBX.out MF.out hg5; have hy5 := blk_cell hbx5 0; have HBX5 := Aside0.mk hbx5; have HB5 := Aside0.mk (HB.out.grown hg5 HB.out.size (fun x hx => by cases hx; exact HS1)); have HG5 := Aside0.mk (Nat.lt_of_lt_of_le (blk_lt HBX.out) hg5.size); clear hM5 hg5 hbx5) | ((with_reducible refine gate_builtin (b := .append) (xs := #[.tmp 160, .tmp 164]) rfl ?_); at_builtin; refine Kd.R_append k43 (w0 := w) w.heap.size rfl (.tmp 160) (.tmp 164) 22 43 (.agg #[.int .i64 0, .int .i64 0]) 16 rfl Try.underlying22 info43 rfl (by decide) (by omega) u13 out (⟨tp, at_⟩ : S43) [.int .i64 tp, .int .i64 at_] (fun k_ => True ∧ k_ ≠ wo.heap.size) (fun _ => False) rfl rfl ?hP (fun _ hk => hk.elim) ?hF ?hO ?hB ?hS ?hL ?_; (case hP => exact k43_mkM _ _ _ (⟨tp, at_⟩ : S43)); (case hB => exact HB5.out); (case hF => exact (fun k_ hk => ⟨trivial, by have := HG5.out; omega⟩)); (case hO => exact HU5.out); (case hS => exact HB5.out.size); (case hL => omega); intro v171 w7 ho hb hg hat; have HU7 := Aside0.mk ho; have HB7 := Aside0.mk hb; have MF7 := Aside0.mk (map_row MF5.out HU5.out hg); have HBX7 := Aside0.mk (blk_grown HBX5.out hg (Kd.R_away HU5.out (fun _ hk => hk.2))); clear ho hb hg hat))
                                  go_roundg k2
                                  case measure => have := HK2.out; omega
                                  case rel => exact ⟨mdel fr tp, at_, out ++ [⟨tp, at_⟩], rfl, H', ⟨by have := HK2.out; omega⟩, HU7, MF7, ⟨wfF_del HFW.out _⟩, HWa, HBX7, HB7⟩
                          · rw [row4_none hlt d1 d2 hl2] at H; cases H
                      · have d3 : mhas fr (rd_T43 l0 j).f0 = false := by simpa using d1
                        rw [row4_skip hlt d3] at H
                        have H' := Aside0.mk H
                        clear H d1
                        go_wp2
                        go_roundg k1
                        case measure => have := HK1.out; omega
                        case rel => exact ⟨fr, j + 1, out, by go_num, H', ⟨by have := HK1.out; omega⟩, ⟨Kd.R_alloc HU.out _⟩, ⟨MF.out.alloc _⟩, HFW, ⟨HB.out.alloc HB.out.size _⟩⟩
                    · rw [row4, if_neg hlt] at H
                      obtain ⟨rfl, rfl⟩ : out = r1 ∧ (0 : Int) = r2 := by injection H with H; injection H with e1 e2; exact ⟨e1, e2⟩
                      clear H
                      have hge : ¬ j < l0.length := hlt
                      go_wp2
                      go_ret2
                      exact ⟨_, rfl, HU.out, HB.out⟩

theorem row_calls (k : Nat) (A0 : Option Addr) (c0 : Nat) (l0 : List (S43)) (a1 : Int) (r1 : List (S43)) (r2 : Int) (w : World) (hr0 : Kd.C k43 w A0 l0.length l0) (hc0 : l0.length ≤ c0) (h : rowG k l0 a1 = some (r1, r2)) :
    Calls Try.prog 10 #[.slice A0 l0.length c0, .int .i64 a1] w fun e w' => ∃ v0_ : Value, e = .returned (.tuple #[v0_, .int .i64 r2]) ∧ Kd.R k43 43 w' w.heap.size (fun _ => True) v0_ r1 ∧ Below w.heap.size w w' := by
  unfold rowG at h
  by_cases c : l0.length ≤ 1000000 ∧ okM l0 = true ∧ (Lit.int .i64 a1).wf = true
  · rw [if_pos c] at h
    unfold rowF at h
    by_cases hm : mayB l0 a1 = true
    · rw [if_pos hm, Option.bind_eq_some_iff] at h
      obtain ⟨⟨fr1, out1⟩, h3, h4⟩ := h
      exact row_yes k A0 c0 l0 a1 r1 r2 w hr0 c.1 (okM_wf c.2.1) c.2.2 hm fr1 out1 h3 h4
    · rw [if_neg hm] at h
      injection h with h
      injection h with e1 e2
      subst e1 e2
      exact (row_no A0 c0 l0 a1 w hr0 c.1 (okM_wf c.2.1) (by simpa using hm)).mono fun e w' hh => ⟨_, hh.1, Kd.R_nil _ _ _ _ _, hh.2⟩
  · rw [if_neg c] at h; cases h
end Go.Proofs.Ytchmddbenohmnaa.Mv
