/- The walk of Assign. -/
import Derived.Test.YtcmbpboeilojmaaGreatEr
import Derived.Test.YtcmbpboeilojmaaGreatOe
import Derived.Test.YtcmbpboeilojmaaGreatFxf15
namespace Go.Proofs.YtcmbpboeilojmaaGreat.Sw
open Go Go.RowKit Go.Shelf Go.Proofs.YtcmbpboeilojmaaGreatW.PrintWords Go.Proofs.YtcmbpboeilojmaaGreatW.PrintLast Go.Proofs.YtcmbpboeilojmaaGreatW.PrintMore Go.Proofs.YtcmbpboeilojmaaGreat.Mi Go.Proofs.YtcmbpboeilojmaaGreat.F Go.Proofs.YtcmbpboeilojmaaGreat.Scan
set_option linter.unusedVariables false
set_option linter.unusedSimpArgs false

/-- what Assign answers. -/
def assignG (l : List S36) (regs : Int) : List S48 × Int × Int := if regs < 0 ∨ 64 < regs ∨ ordB l = false then ([], 0, 2) else ((assignP l regs).h, ((assignP l regs).n : Int), 0)
def assignF (l : List S36) (regs : Int) : Option (List S48 × Int × Int) := if l.length ≤ 1000000 ∧ wfS l then some (assignG l regs) else none

theorem run_make43 (n : Nat) (hn : n ≤ 1000000) (w : World) : (Instr.makeSlice 27 (.int .i64 (n : Int)) (.int .i64 (n : Int))).run Tryz.prog w = .ok (.slice (some ⟨w.heap.size, 0, none⟩) n n) (w.alloc (.cells (madeCells #[.int .i64 0, .int .i64 0, .int .i64 0] (n * 3)) 48)) := by
  obtain ⟨i0, hi, hz0, hz1, hz2⟩ := info_parts info48
  have hr := run_make (P := Tryz.prog) w 27 48 i0 _ Tryz.underlying27 hi hz0 .i64 .i64 n n (by omega) (Int.le_refl _) (by rw [hz2]; omega) (by omega)
  rw [hz1] at hr
  simp only [Int.toNat_natCast] at hr
  exact hr
theorem z51 : Tryz.zeroCells42 = (Value.slice none 0 0 :: .slice none 0 0 :: (List.replicate 64 (.bool false) ++ [.slice none 0 0, .int .i64 0])).toArray := by kernel_rfl
theorem hoF_start (l : List S36) : hoF (startP l).h = fun _ => .int .i64 0 := by
  funext i
  have : ∀ j, ho (startP l).h j = ⟨0, 0, 0⟩ := fun j => by
    unfold ho startP
    rw [List.getD_eq_getElem?_getD, List.getElem?_replicate]
    split <;> rfl
  unfold hoF
  rw [this]
  split
  · rfl
  · split <;> rfl
theorem start_St (w w1 : World) (A0 : Option Addr) (c0 : Nat) (l : List S36) (hb : Below w.heap.size w w1) (w2 : World) (he : w2 = (w1.alloc (.cells (madeCells #[.int .i64 0, .int .i64 0, .int .i64 0] (l.length * 3)) 48)).alloc (.cells ((Tryz.zeroCells42.setIfInBounds 0 (.slice A0 l.length c0)).setIfInBounds 1 (.slice (some ⟨w1.heap.size, 0, none⟩) l.length l.length)) 42)) :
    St w2 w w2 (w1.heap.size + 1) w1.heap.size (.slice A0 l.length c0) (startP l) (.slice none 0 0) := by
  have hh : (startP l).h.length = l.length := by simp [startP]
  have hs := hb.size
  subst he
  refine ⟨?_, ?_, .inl ⟨rfl, rfl⟩, by omega, hs, by simp [startP], ?_, fun _ _ _ k => k⟩
  · rw [hh]
    have h1 := World.rowIs_alloc (w1.alloc (.cells (madeCells #[.int .i64 0, .int .i64 0, .int .i64 0] (l.length * 3)) 48)) ((Tryz.zeroCells42.setIfInBounds 0 (.slice A0 l.length c0)).setIfInBounds 1 (.slice (some ⟨w1.heap.size, 0, none⟩) l.length l.length)) 42 (scF (.slice A0 l.length c0) (.slice (some ⟨w1.heap.size, 0, none⟩) l.length l.length) (.slice none 0 0) (startP l).tk (startP l).n) (by
      rw [z51]
      intro i hi
      have hi' : i < 68 := by simpa using hi
      clear hi
      simp only [List.setIfInBounds_toArray, List.set_cons_zero, List.set_cons_succ, List.getElem?_toArray]
      unfold scF startP
      match i, hi' with
      | 0, _ => rfl
      | 1, _ => rfl
      | i + 2, h =>
        rw [if_neg (by omega), if_neg (by omega), List.getElem?_cons_succ, List.getElem?_cons_succ]
        by_cases e : i < 64
        · rw [if_pos (by omega), List.getElem?_append_left (by simpa using e), List.getElem?_replicate, if_pos e, Nat.add_sub_cancel, List.getD_eq_getElem?_getD, List.getElem?_replicate, if_pos e]; rfl
        · rw [if_neg (by omega), List.getElem?_append_right (by simpa using (by omega : 64 ≤ i)), List.length_replicate]
          by_cases e2 : i = 64
          · subst e2; rfl
          · obtain rfl : i = 65 := by omega
            rfl)
    have hsz : (w1.alloc (.cells (madeCells #[.int .i64 0, .int .i64 0, .int .i64 0] (l.length * 3)) 48)).heap.size = w1.heap.size + 1 := by simp
    have h2 : ((Tryz.zeroCells42.setIfInBounds 0 (.slice A0 l.length c0)).setIfInBounds 1 (.slice (some ⟨w1.heap.size, 0, none⟩) l.length l.length)).size = 68 := by rw [z51]; simp
    rw [hsz, h2] at h1
    exact h1
  · rw [hh, hoF_start]
    have h1 : (w1.alloc (.cells (madeCells #[.int .i64 0, .int .i64 0, .int .i64 0] (l.length * 3)) 48)).rowIs w1.heap.size 48 (l.length * 3) (fun _ => .int .i64 0) := ⟨_, blk_new _ _, size_madeCells _ _, fun i hi => by
      have : i % 3 = 0 ∨ i % 3 = 1 ∨ i % 3 = 2 := by omega
      rcases this with h | h | h <;> simp [madeCells, hi, h]⟩
    exact h1.alloc _
  · exact below_alloc (below_alloc hb _) _
/-- a round behind leave. -/
def stepQ (l : List S36) (regs : Int) (s : Sc) (i : Nat) : Sc :=
  if (s.act.length : Int) < regs then enterP l i (s.tk.idxOf false) s
  else match s.act.getLast? with
    | some last => if (sp l i).f2 < (sp l last).f2 ∧ (sp l last).f1 < (sp l i).f1 then enterP l i (ho s.h last).f0.toNat (giveP l i last s) else slotP l i s
    | none => slotP l i s
theorem upto_stepQ (l : List S36) (regs : Int) (i : Nat) : upto l regs (i + 1) = stepQ l regs (leaveP l (sp l i).f1 (upto l regs i)) i := upto_succ l regs i
theorem act_len {l : List S36} {regs : Int} {i : Nat} {c : Int} {s : Sc} (hI : Inv l regs i c s) : s.act.length ≤ i := by
  have := sub_len (Q := List.range i) hI.nod (fun x hx => List.mem_range.2 (hI.lt x hx))
  rwa [List.length_range] at this
def spF (x : S36) : Nat → Value := fun i => if i = 0 then .int .i64 x.f0 else if i = 1 then .int .i64 x.f1 else .int .i64 x.f2
theorem spF_new (w : World) (x : S36) : (w.alloc (.cells #[.int .i64 x.f0, .int .i64 x.f1, .int .i64 x.f2] 36)).rowIs w.heap.size 36 3 (spF x) := World.rowIs_alloc w #[.int .i64 x.f0, .int .i64 x.f1, .int .i64 x.f2] 36 (spF x) (fun i hi => by
  have hi' : i < 3 := hi
  match i, hi' with
  | 0, _ => rfl
  | 1, _ => rfl
  | 2, _ => rfl)
/-- the first register that nobody has. -/
theorem index_l0 (tk : List Bool) (hl : tk.length ≤ 1000) : ∀ k i : Nat, tk.length < k + i → i ≤ tk.idxOf false → tk.idxOf false < tk.length → slices_Index_bool_bool.l0 k tk false (tk.length : Int) (i : Int) = some ((tk.idxOf false : Nat) : Int) := by
  intro k
  induction k with
  | zero => intro i h1 h2 h3; omega
  | succ k ih =>
    intro i h1 h2 h3
    unfold slices_Index_bool_bool.l0
    rw [if_pos (by omega), if_pos (by omega), if_pos (by omega)]
    by_cases e : i = tk.idxOf false
    · have hv : rdOf false tk (i : Int) = false := by
        unfold rdOf
        rw [Int.toNat_natCast, e, List.getD_eq_getElem?_getD, List.getElem?_eq_getElem h3]
        exact List.getElem_idxOf h3
      rw [hv, if_pos (by rfl), e]
    · have hv : rdOf false tk (i : Int) = true := by
        unfold rdOf
        rw [Int.toNat_natCast, List.getD_eq_getElem?_getD, List.getElem?_eq_getElem (by omega)]
        show tk[i] = true
        cases h : tk[i] with
        | true => rfl
        | false =>
          have := idx_le (show tk[i]? = some false by rw [List.getElem?_eq_getElem (by omega), h])
          omega
      rw [hv, if_neg (by decide), show wrap64 ((i : Int) + 1) = ((i + 1 : Nat) : Int) by rw [wrap64_small (by omega) (by omega)]; omega]
      exact ih (i + 1) (by omega) (by omega) h3
theorem index_f {tk : List Bool} (hl : tk.length = 64) (h : tk.idxOf false < 64) : slices_Index_bool_bool.f 65 tk false = some ((tk.idxOf false : Nat) : Int) := index_l0 tk (by omega) 65 0 (by omega) (by omega) (by omega)
theorem St.tkC {wk w0 w : World} {g bh : Nat} {L : Value} {s : Sc} {av : Value} (h : St wk w0 w g bh L s av) : Kd.C Kd.bool w (some ⟨g, 2, none⟩) 64 s.tk := by
  refine ⟨h.tl, by decide, fun _ => ⟨_, rfl, fun j p hp => ?_⟩⟩
  have hj : j < 64 := by rw [← h.tl]; exact (List.getElem?_eq_some_iff.1 hp).1
  refine ⟨[.bool p], rfl, rfl, fun i u hu => ?_⟩
  match i, hu with
  | 0, hu =>
    cases hu
    have := h.cT hj
    rw [List.getD_eq_getElem?_getD, hp] at this
    rw [show (Kd.bool).sz = 1 from rfl, Nat.mul_one, Addr.add_lit]
    exact this
  | i + 1, hu => simp at hu
theorem index_calls {wk w0 w : World} {g bh : Nat} {L : Value} {s : Sc} {av : Value} (h : St wk w0 w g bh L s av) (hi : s.tk.idxOf false < 64) :
    Calls Tryz.prog 15 #[.slice (some ⟨g, 2, none⟩) 64 64, .bool false] w fun e w' => e = .returned (.int .i64 ((s.tk.idxOf false : Nat) : Int)) ∧ Below w.heap.size w w' := by
  have h1 := slices_Index_bool_bool.calls 65 (some ⟨g, 2, none⟩) 64 s.tk false _ w (by rw [h.tl]; exact h.tkC) (by rw [h.tl]; omega) (index_f h.tl hi)
  rw [h.tl] at h1
  exact h1.mono fun e w' h => ⟨h.1, h.2.below⟩
theorem St.outR {wk w0 w : World} {g bh : Nat} {L : Value} {s : Sc} {av : Value} (h : St wk w0 w g bh L s av) (hn : s.h.length ≤ 1000000) : Kd.R k48 48 w w0.heap.size (fun _ => True) (.slice (some ⟨bh, 0, none⟩) s.h.length s.h.length) s.h := by
  obtain ⟨cur, hb, hsz, hc⟩ := h.hs
  refine ⟨fun _ _ => trivial, cur.toList, ⟨by rw [Array.length_toList, hsz]; rfl, .inr ⟨bh, s.h.length, cur, rfl, h.bb, hb, Nat.le_refl _, by simp only [maxLen]; omega, hsz, List.take_of_length_le (by rw [Array.length_toList, hsz]; exact Nat.le_refl _)⟩⟩, by rw [Array.length_toList, hsz]; rfl, fun j p hp => ?_⟩
  have hj : j < s.h.length := (List.getElem?_eq_some_iff.1 hp).1
  have hpe : ho s.h j = p := by unfold ho; rw [List.getD_eq_getElem?_getD, hp]; rfl
  have h0 := hc (j * 3) (by omega)
  have h1 := hc (j * 3 + 1) (by omega)
  have h2 := hc (j * 3 + 2) (by omega)
  have e0 : hoF s.h (j * 3) = .int .i64 p.f0 := by unfold hoF; rw [if_pos (by omega), Nat.mul_div_cancel _ (by omega), hpe]
  have e1 : hoF s.h (j * 3 + 1) = .int .i64 p.f1 := by unfold hoF; rw [if_neg (by omega), if_pos (by omega), show (j * 3 + 1) / 3 = j by omega, hpe]
  have e2 : hoF s.h (j * 3 + 2) = .int .i64 p.f2 := by unfold hoF; rw [if_neg (by omega), if_neg (by omega), show (j * 3 + 2) / 3 = j by omega, hpe]
  rw [e0] at h0
  rw [e1] at h1
  rw [e2] at h2
  have key : (cur.toList.drop (j * 3)).take 3 = [.int .i64 p.f0, .int .i64 p.f1, .int .i64 p.f2] := by
    apply List.ext_getElem?
    intro q
    rw [List.getElem?_take, List.getElem?_drop, Array.getElem?_toList]
    match q with
    | 0 => rw [if_pos (by omega)]; exact h0
    | 1 => rw [if_pos (by omega)]; exact h1
    | 2 => rw [if_pos (by omega)]; exact h2
    | q + 3 => rw [if_neg (by omega)]; rfl
  show k48.M w w0.heap.size _ p ((cur.toList.drop (j * 3)).take 3)
  rw [key]
  exact k48_mkM _ _ _ p
theorem row_set_ne {w : World} {b t n : Nat} {f : Nat → Value} (h : w.rowIs b t n f) {i j : Nat} (v : Value) (hj : j < n) (hne : j ≠ i) : (w.setCell ⟨b, i, none⟩ v).cell? ⟨b, j, none⟩ = some (f j) := ((h.set i v).cell hj).trans (by rw [if_neg hne])
theorem St.setF {wk w0 w : World} {g bh : Nat} {L : Value} {s : Sc} {av : Value} (h : St wk w0 w g bh L s av) {i q : Nat} (hi : i < s.h.length) (x : S48) (v : Int) (hq : (q = 1 ∧ x = ⟨(ho s.h i).f0, v, (ho s.h i).f2⟩) ∨ (q = 2 ∧ x = ⟨(ho s.h i).f0, (ho s.h i).f1, v⟩)) :
    St wk w0 (w.setCell ⟨bh, i * 3 + q, none⟩ (.int .i64 v)) g bh L { s with h := s.h.set i x } av := by
  refine ⟨?_, ?_, h.ac.set h.hs (by decide) _ _, h.gb, h.bb, h.tl, h.fr.setCell h.bb _, fun b n f k => (h.kp b n f k).setOther (rowIs_ne (h.kp b n f k) h.hs (by decide)) _⟩
  · show (w.setCell ⟨bh, i * 3 + q, none⟩ _).rowIs g 42 68 (scF L (.slice (some ⟨bh, 0, none⟩) (s.h.set i x).length (s.h.set i x).length) av s.tk s.n)
    rw [List.length_set]
    exact h.gs.setOther (rowIs_ne h.gs h.hs (by decide)) _
  · show (w.setCell ⟨bh, i * 3 + q, none⟩ _).rowIs bh 48 ((s.h.set i x).length * 3) (hoF (s.h.set i x))
    rw [List.length_set]
    refine (h.hs.set (i * 3 + q) _).congr fun j hj => ?_
    unfold hoF
    rw [ho_set hi]
    rcases hq with ⟨rfl, rfl⟩ | ⟨rfl, rfl⟩
    · by_cases e : j = i * 3 + 1
      · subst e
        rw [if_pos rfl, if_neg (by omega), if_pos (by omega), if_pos (by omega)]
      · rw [if_neg e]
        by_cases e2 : j / 3 = i
        · subst e2
          rw [if_pos rfl]
          rcases (by omega : j % 3 = 0 ∨ j % 3 = 1 ∨ j % 3 = 2) with h0 | h0 | h0
          · rw [if_pos h0, if_pos h0]
          · omega
          · rw [if_neg (by omega), if_neg (by omega), if_neg (by omega), if_neg (by omega)]
        · rw [if_neg e2]
    · by_cases e : j = i * 3 + 2
      · subst e
        rw [if_pos rfl, if_neg (by omega), if_neg (by omega), if_pos (by omega)]
      · rw [if_neg e]
        by_cases e2 : j / 3 = i
        · subst e2
          rw [if_pos rfl]
          rcases (by omega : j % 3 = 0 ∨ j % 3 = 1 ∨ j % 3 = 2) with h0 | h0 | h0
          · rw [if_pos h0, if_pos h0]
          · rw [if_neg (by omega), if_pos h0, if_neg (by omega), if_pos h0]
          · omega
        · rw [if_neg e2]
theorem ActIs.last {w : World} {B : Nat} {A : Option Addr} {n cap : Nat} {a : List Nat} (h : ActIs w B (.slice A n cap) a) (hn : 0 < a.length) : ActIs w B (.slice A (a.length - 1) cap) a.dropLast := by
  rcases h with ⟨e, rfl⟩ | ⟨b, off, cap', N, f, h1, h2, h3, h4, h5, h6, h7⟩
  · exact absurd hn (by decide)
  · injection h1 with e1 e2 e3
    subst e1 e3
    refine .inr ⟨b, off, cap, N, f, by rw [List.length_dropLast], h2, h3, h4, by rw [List.length_dropLast]; omega, h6, fun j hj => ?_⟩
    rw [List.length_dropLast] at hj
    rw [h7 j (by omega), List.getD_eq_getElem?_getD, List.getD_eq_getElem?_getD, List.getElem?_eq_getElem (by omega), List.getElem?_eq_getElem (by rw [List.length_dropLast]; omega), List.getElem_dropLast]
set_option maxHeartbeats 4000000 in
set_option maxRecDepth 100000 in
theorem assign_calls (A0 : Option Addr) (c0 : Nat) (l : List S36) (regs : Int) (w : World) (hr0 : Kd.C k36 w A0 l.length l) (hc0 : l.length ≤ c0) (hlen : l.length ≤ 1000000) (hwf : wfS l) :
    Calls Tryz.prog 7 #[.slice A0 l.length c0, .int .i64 regs] w fun e w' => ∃ v0 : Value, e = .returned (.tuple #[v0, .int .i64 (assignG l regs).2.1, .int .i64 (assignG l regs).2.2]) ∧ Kd.R k48 48 w' w.heap.size (fun _ => True) v0 (assignG l regs).1 ∧ Below w.heap.size w w' := by
  have HR0 := Aside0.mk hr0
  have HWF := Aside0.mk hwf
  clear hr0 hwf
  by_cases g1 : regs < 0
  · have e0 : assignG l regs = ([], 0, 2) := if_pos (.inl g1)
    rw [e0]
    clear e0
    go_enter Tryz.func7, Tryz.ntmps7
    go_wp2
    go_ret3
    exact ⟨_, rfl, Kd.R_nil _ _ _ _ _, Below.refl _ _⟩
  by_cases g2 : regs > 64
  · have e0 : assignG l regs = ([], 0, 2) := if_pos (.inr (.inl g2))
    rw [e0]
    clear e0
    go_enter Tryz.func7, Tryz.ntmps7
    go_wp2
    go_ret3
    exact ⟨_, rfl, Kd.R_nil _ _ _ _ _, Below.refl _ _⟩
  cases g3 : ordB l with
  | false =>
    have e0 : assignG l regs = ([], 0, 2) := if_pos (.inr (.inr g3))
    rw [e0]
    clear e0
    have CO := Aside0.mk (fun W => (fun h => (ordered_calls A0 c0 l W h hlen HWF.out).mono (fun e w' h' => show e = .returned (.bool false) ∧ Below W.heap.size W w' by rw [← g3]; exact h') : Kd.C k36 W A0 l.length l → _))
    clear g3
    go_enter Tryz.func7, Tryz.ntmps7
    go_wp2_with (go_at_call 12; refine (CO.out _ HR0.out).mono ?_; rintro e w1 ⟨rfl, hb1⟩)
    go_ret3
    exact ⟨_, rfl, Kd.R_nil _ _ _ _ _, hb1⟩
  | true =>
    have CO := Aside0.mk (fun W => (fun h => (ordered_calls A0 c0 l W h hlen HWF.out).mono (fun e w' h' => show e = .returned (.bool true) ∧ Below W.heap.size W w' by rw [← g3]; exact h') : Kd.C k36 W A0 l.length l → _))
    have G3 := Aside0.mk g3
    have hmk := run_make43 l.length hlen
    clear g3
    go_enter Tryz.func7, Tryz.ntmps7
    go_wp2_with (go_at_call 12; refine (CO.out _ HR0.out).mono ?_; rintro e w1 ⟨rfl, hb1⟩)
    have hord : Ord l := ordB_ord G3.out
    obtain ⟨w2, e2⟩ : ∃ w2, w2 = (w1.alloc (.cells (madeCells #[.int .i64 0, .int .i64 0, .int .i64 0] (l.length * 3)) 48)).alloc (.cells ((Tryz.zeroCells42.setIfInBounds 0 (.slice A0 l.length c0)).setIfInBounds 1 (.slice (some ⟨w1.heap.size, 0, none⟩) l.length l.length)) 42) := ⟨_, rfl⟩
    have H2 := Aside0.mk (start_St w w1 A0 c0 l hb1 w2 e2)
    rw [← e2]
    clear e2 hmk
    obtain ⟨bh, hbh⟩ : ∃ bh, bh = w1.heap.size := ⟨_, rfl⟩
    obtain ⟨g, hg⟩ : ∃ g, g = w1.heap.size + 1 := ⟨_, rfl⟩
    rw [← hg, ← hbh] at H2
    rw [← hg, ← hbh]
    clear hbh hg
    go_loopw [31] (fun v31 wr => ∃ k : Nat, k ≤ l.length ∧ v31 = .int .i64 k ∧ Aside0 (∃ av, St wr w wr g bh (.slice A0 l.length c0) (upto l regs k) av)) (fun i _ => l.length - (intOf i).toNat)
    case atStart => exact ⟨0, Nat.zero_le _, rfl, ⟨_, H2.out⟩⟩
    case round =>
      clear H2 CO
      obtain ⟨k, hk, rfl, ⟨av, hS⟩⟩ := hrel
      have HS := Aside0.mk hS
      clear hS
      by_cases hlt : k < l.length
      · have hlt1 : (k : Int) < l.length := by omega
        obtain ⟨ad, rfl, x0, x1, x2⟩ := at_T36 (Kd.C_below HR0.out HS.out.fr) (k : Int) (by omega) hlt1
        simp only [Int.toNat_natCast, rd_sp] at x0 x1 x2
        obtain ⟨sv, es⟩ : ∃ sv, sv = sp l k := ⟨_, rfl⟩
        rw [← es] at x0 x1 x2
        have ES := Aside0.mk es
        clear es
        go_wp2_with fail
        obtain ⟨c, hc, hI⟩ := upto_inv hord g1 g2 k hk
        obtain ⟨wx, ex⟩ : ∃ wx, wx = wr.alloc (.cells #[.int .i64 sv.f0, .int .i64 sv.f1, .int .i64 sv.f2] 36) := ⟨_, rfl⟩
        obtain ⟨bx, eb⟩ : ∃ bx, bx = wr.heap.size := ⟨_, rfl⟩
        have HX := Aside0.mk (show St wx w wx g bh (.slice (some ad) l.length c0) (upto l regs k) av by rw [ex]; exact (HS.out.below (below_alloc (Below.refl _ _) _)).base)
        have HBX := Aside0.mk (show wx.rowIs bx 36 3 (spF sv) by rw [ex, eb]; exact spF_new wr sv)
        rw [← ex, ← eb]
        clear ex eb HS x0 x1 x2
        refine (leave_calls wx w wx g bh (some ad) c0 l _ av sv.f1 HR0.out HX.out hI.hl hlen (fun a ha => ⟨by have := hI.lt a ha; omega, (hI.ah a ha).1, by have := (hI.ah a ha).2.1; omega⟩) (by have := act_len hI; omega)).mono ?_
        rintro e w3 ⟨rfl, av1, hS⟩
        have HE := Aside0.mk (upto_stepQ l regs k)
        rw [← ES.out] at HE
        obtain ⟨hL, hlate⟩ := leave_inv hI (hc k (Nat.le_refl _) hlt)
        rw [← ES.out] at hL hlate
        obtain ⟨s1, e1⟩ : ∃ s1, s1 = leaveP l sv.f1 (upto l regs k) := ⟨_, rfl⟩
        rw [← e1] at hS HE hL hlate
        have HS1 := Aside0.mk hS
        have HB1 := Aside0.mk (hS.kp _ _ _ HBX.out)
        have HL := Aside0.mk hL
        have HLA := Aside0.mk hlate
        clear HX HBX e1 hS hL hlate hc hI
        obtain ⟨A1, cap1, rfl, hac, hac2⟩ := HS1.out.ac.len
        have xA := HS1.out.cA
        have y1 : w3.cell? ⟨bx, 1, none⟩ = some (.int .i64 sv.f1) := HB1.out.cell (by omega)
        have y2 : w3.cell? ⟨bx, 2, none⟩ = some (.int .i64 sv.f2) := HB1.out.cell (by omega)
        by_cases c1 : (s1.act.length : Int) < regs
        · go_wp2_with fail
          obtain ⟨f1, f2, f3⟩ := free_reg HL.out g2 c1
          refine (index_calls HS1.out f1).mono ?_
          rintro e w4 ⟨rfl, hb4⟩
          have HS4 := Aside0.mk (HS1.out.below hb4)
          have HE2 := Aside0.mk (show upto l regs (k + 1) = enterP l k (s1.tk.idxOf false) s1 by rw [HE.out]; exact if_pos c1)
          have HB4 := Aside0.mk (rowIs_below HB1.out hb4)
          clear HS1 HE HB1 xA y1 y2 hb4
          go_wp2_with fail
          refine (enter_calls wx w w4 g bh ad c0 l s1 _ k (s1.tk.idxOf false) HR0.out HS4.out HL.out.hl hlt f1 (fun a ha => by have := HL.out.lt a ha; omega) (by have := act_len HL.out; omega) HL.out.srt ⟨(hord.low k hlt).2.2, by have := hord.low k hlt; omega⟩).mono ?_
          rintro e w5 ⟨rfl, av5, hS5⟩
          rw [← HE2.out] at hS5
          have HS5 := Aside0.mk hS5
          clear hS5 HE2 HS4
          go_wp2
          go_roundw
          case rel => exact ⟨k + 1, by omega, by go_num, ⟨_, HS5.out.base⟩⟩
          case measure => simp [intOf]; omega
        · have hih : k < s1.h.length := by rw [HL.out.hl]; exact hlt
          have hn1 : s1.n < 1000000 := by
            have := HL.out.sn
            have h2 := List.countP_le_length (p := fun j => decide (0 ≤ (ho s1.h j).f1)) (l := List.range k)
            rw [List.length_range] at h2
            omega
          have x1 := HS1.out.cH
          have hgH : upto l regs (k + 1) = match s1.act.getLast? with
              | some last => if (sp l k).f2 < (sp l last).f2 ∧ (sp l last).f1 < (sp l k).f1 then enterP l k (ho s1.h last).f0.toNat (giveP l k last s1) else slotP l k s1
              | none => slotP l k s1 := by rw [HE.out]; exact if_neg c1
          obtain ⟨n, en⟩ : ∃ n, n = s1.act.length := ⟨_, rfl⟩
          rw [← en] at xA c1 hac HS1
          have hnb : n ≤ 1000000 := by have := act_len HL.out; omega
          rcases Nat.eq_zero_or_pos n with n0 | n0
          · have hnil : s1.act = [] := List.length_eq_zero_iff.1 (by omega)
            have HQ := Aside0.mk (show upto l regs (k + 1) = slotP l k s1 by rw [hgH, hnil]; rfl)
            have EN := Aside0.mk en
            clear hgH hnil en HE
            subst n0
            go_wp2
            refine start_ (n := 12) (S := fun w' => w'.cell? ⟨g, 1, none⟩ = some (.slice (some ⟨bh, 0, none⟩) s1.h.length s1.h.length) ∧ w'.cell? ⟨bx, 1, none⟩ = some (.int .i64 sv.f1) ∧ w'.cell? ⟨bh, k * 3, none⟩ = some (.int .i64 (ho s1.h k).f0) ∧ w'.cell? ⟨bh, k * 3 + 1, none⟩ = some (.int .i64 (ho s1.h k).f1) ∧ w'.cell? ⟨bh, k * 3 + 2, none⟩ = some (.int .i64 (ho s1.h k).f2) ∧ w'.frozen? ⟨bh, k * 3, none⟩ = false ∧ w'.frozen? ⟨bh, k * 3 + 1, none⟩ = false ∧ w'.frozen? ⟨bh, k * 3 + 2, none⟩ = false) (ds := [11]) #[false, false, false, false, false, false, false, false, false, false, false, false] (by kernel_rfl) rfl rfl ⟨HS1.out.drew.cH, (HB1.out.drew.cell (by omega)), (HS1.out.drew.c0 hih), (HS1.out.drew.c1 hih), (HS1.out.drew.c2 hih), (HS1.out.drew.hs.frozen (k * 3)), (HS1.out.drew.hs.frozen (k * 3 + 1)), (HS1.out.drew.hs.frozen (k * 3 + 2))⟩ (fun hHeld => ?_)
            refine pure_ (i := 0) (N := some 135) (v := ?_) (a' := ?_) #[true, false, false, false, false, false, false, false, false, false, false, false] rfl rfl (by kernel_rfl) (fun _ _ _ h => h) (Or.inl ⟨by rfl, ?_⟩) ?_ ?_
            rotate_left
            · intro w'
              go_simp
              with_reducible rfl
            rotate_left
            · simp only [Act.put, List.setIfInBounds_toArray, List.set_cons_zero, List.set_cons_succ, i64_w, i32_w]
              rfl
            refine pure_ (i := 1) (N := some 136) (v := ?_) (a' := ?_) #[true, true, false, false, false, false, false, false, false, false, false, false] rfl rfl (by kernel_rfl) (fun _ _ _ h => h) (Or.inl ⟨by rfl, ?_⟩) ?_ ?_
            rotate_left
            · intro w'
              go_simp
              with_reducible rfl
            rotate_left
            · simp only [Act.put, List.setIfInBounds_toArray, List.set_cons_zero, List.set_cons_succ, i64_w, i32_w]
              rfl
            refine pure_ (i := 2) (N := some 137) (v := ?_) (a' := ?_) #[true, true, true, false, false, false, false, false, false, false, false, false] rfl rfl (by kernel_rfl) (fun _ _ _ h => h) (Or.inl ⟨by rfl, ?_⟩) ?_ ?_
            rotate_left
            · intro w'
              go_simp
              with_reducible rfl
            rotate_left
            · simp only [Act.put, List.setIfInBounds_toArray, List.set_cons_zero, List.set_cons_succ, i64_w, i32_w]
              rfl
            refine pure_ (i := 4) (N := some 139) (v := ?_) (a' := ?_) #[true, true, true, false, true, false, false, false, false, false, false, false] rfl rfl (by kernel_rfl) (fun _ _ _ h => h) (Or.inl ⟨by rfl, ?_⟩) ?_ ?_
            rotate_left
            · intro w'
              go_simp
              with_reducible rfl
            rotate_left
            · simp only [Act.put, List.setIfInBounds_toArray, List.set_cons_zero, List.set_cons_succ, i64_w, i32_w]
              rfl
            refine pure_ (i := 5) (N := some 140) (v := ?_) (a' := ?_) #[true, true, true, false, true, true, false, false, false, false, false, false] rfl rfl (by kernel_rfl) (fun _ _ _ h => h) (Or.inl ⟨by rfl, ?_⟩) ?_ ?_
            rotate_left
            · intro w'
              go_simp
              with_reducible rfl
            rotate_left
            · simp only [Act.put, List.setIfInBounds_toArray, List.set_cons_zero, List.set_cons_succ, i64_w, i32_w]
              rfl
            refine pure_ (i := 7) (N := some 142) (v := ?_) (a' := ?_) #[true, true, true, false, true, true, false, true, false, false, false, false] rfl rfl (by kernel_rfl) (fun _ _ _ h => h) (Or.inl ⟨by rfl, ?_⟩) ?_ ?_
            rotate_left
            · intro w'
              go_simp
              with_reducible rfl
            rotate_left
            · simp only [Act.put, List.setIfInBounds_toArray, List.set_cons_zero, List.set_cons_succ, i64_w, i32_w]
              rfl
            refine take_ (i := 3) (N := some 138) (v := ?_) (a' := ?_) #[true, true, true, true, true, true, false, true, false, false, false, false] rfl rfl (by kernel_rfl) (fun _ _ _ h => h) (Or.inl ⟨by rfl, ?_⟩) hHeld ?_ ?_
            rotate_left
            · rintro w' ⟨s0, s1, s2, s3, s4, s5, s6, s7⟩
              go_simp
              with_reducible rfl
            rotate_left
            · simp only [Act.put, List.setIfInBounds_toArray, List.set_cons_zero, List.set_cons_succ, i64_w, i32_w]
              rfl
            refine take_ (i := 8) (N := some 143) (v := ?_) (a' := ?_) #[true, true, true, true, true, true, false, true, true, false, false, false] rfl rfl (by kernel_rfl) (fun _ _ _ h => h) (Or.inl ⟨by rfl, ?_⟩) hHeld ?_ ?_
            rotate_left
            · rintro w' ⟨s0, s1, s2, s3, s4, s5, s6, s7⟩
              go_simp
              with_reducible rfl
            rotate_left
            · simp only [Act.put, List.setIfInBounds_toArray, List.set_cons_zero, List.set_cons_succ, i64_w, i32_w]
              rfl
            refine one_ (i := 6) (N := some 141) #[true, true, true, true, true, true, true, true, true, false, false, false] rfl rfl (by kernel_rfl) (by decide) (fun K hK => ?_)
            refine goes_ Tryz.func16 (by kernel_rfl) rfl #[.pointer (some ⟨g, 0, none⟩)] (by rfl) rfl rfl (by simp only [List.map_toArray, List.map_cons, List.map_nil]; rfl) ?_
            with_reducible refine (slot_calls _ w _ g bh _ s1 _ HS1.out.drew.base hn1).mono ?_
            rintro e w4 ⟨rfl, hS4⟩
            have HS4 := Aside0.mk hS4
            have HB4 := Aside0.mk (hS4.kp _ _ _ HB1.out.drew)
            clear hS4
            refine ⟨_, rfl, ?_⟩
            refine hK.out _ _ ⟨HS4.out.cH, (HB4.out.cell (by omega)), (HS4.out.c0 hih), (HS4.out.c1 hih), (HS4.out.c2 hih), (HS4.out.hs.frozen (k * 3)), (HS4.out.hs.frozen (k * 3 + 1)), (HS4.out.hs.frozen (k * 3 + 2))⟩ (fun hHeld => ?_)
            clear hK K
            refine norm_ (a' := ?_) ?_ ?_
            rotate_left
            · show Act.put _ (some 141) _ = _
              simp only [Act.put, List.setIfInBounds_toArray, List.set_cons_zero, List.set_cons_succ, i64_w, i32_w]
              rfl
            refine pure_ (i := 9) (N := some 144) (v := ?_) (a' := ?_) #[true, true, true, true, true, true, true, true, true, true, false, false] rfl rfl (by kernel_rfl) (fun _ _ _ h => h) (Or.inl ⟨by rfl, ?_⟩) ?_ ?_
            rotate_left
            · intro w'
              go_simp
              with_reducible rfl
            rotate_left
            · simp only [Act.put, List.setIfInBounds_toArray, List.set_cons_zero, List.set_cons_succ, i64_w, i32_w]
              rfl
            refine pure_ (i := 10) (N := some 145) (v := ?_) (a' := ?_) #[true, true, true, true, true, true, true, true, true, true, true, false] rfl rfl (by kernel_rfl) (fun _ _ _ h => h) (Or.inl ⟨by rfl, ?_⟩) ?_ ?_
            rotate_left
            · intro w'
              go_simp
              with_reducible rfl
            rotate_left
            · simp only [Act.put, List.setIfInBounds_toArray, List.set_cons_zero, List.set_cons_succ, i64_w, i32_w]
              rfl
            refine last_ (i := 11) (N := none) #[true, true, true, true, true, true, true, true, true, true, true, true] rfl rfl (by kernel_rfl) (by decide) (fun K hK => ?_)
            refine skip_ (w1 := ?_) (by rfl) rfl ?_ ?_
            rotate_left
            · go_simp
              rfl
            refine hK.out _ _ ?_
            clear hK K
            refine done_ (by kernel_rfl) ?_

            go_wp2
            clear hHeld
            have HS6 := Aside0.mk (HS4.out.setHome (i := k) hih ⟨-1, (s1.n : Int), sv.f1⟩)
            have E6 := Aside0.mk (show ({ s1 with n := s1.n + 1, h := s1.h.set k ⟨-1, (s1.n : Int), sv.f1⟩ } : Sc) = upto l regs (k + 1) by rw [HQ.out, ES.out]; rfl)
            go_roundw
            case rel => exact ⟨k + 1, by omega, by go_num, ⟨_, by have := HS6.out; dsimp only at this; rw [E6.out] at this; exact this.base⟩⟩
            case measure => simp [intOf]; omega
          · obtain ⟨la, hla⟩ : ∃ la, s1.act.getLast? = some la := by
              cases hg : s1.act.getLast? with
              | none => rw [List.getLast?_eq_none_iff] at hg; rw [hg] at en; simp at en; omega
              | some la => exact ⟨la, rfl⟩
            rw [hla] at hgH
            have hsp := last_of hla
            have hmem : la ∈ s1.act := by rw [hsp]; simp
            obtain ⟨m, hm⟩ : ∃ m, n = m + 1 := ⟨n - 1, by omega⟩
            have hgm : s1.act.getD m 0 = la := by
              rw [List.getLast?_eq_getElem?] at hla
              rw [List.getD_eq_getElem?_getD, show m = s1.act.length - 1 by omega, hla]; rfl
            have hlk := HL.out.lt la hmem
            obtain ⟨a1, a2, -, -⟩ := HL.out.ah la hmem
            obtain ⟨aA, cap', eav, xa⟩ := HS1.out.ac.get (k := m) (by omega)
            rw [hgm] at xa
            have eav2 : A1 = some aA := by injection eav
            subst eav2
            have hlal : la < l.length := by omega
            have hlh : la < s1.h.length := by rw [HL.out.hl]; exact hlal
            obtain ⟨ad', e', _, v1, v2⟩ := at_T36 (Kd.C_below HR0.out HS1.out.fr) (la : Int) (by omega) (by omega)
            cases e'
            simp only [Int.toNat_natCast, rd_sp] at v1 v2
            obtain ⟨lv, el⟩ : ∃ lv, lv = sp l la := ⟨_, rfl⟩
            rw [← el] at v1 v2
            have EL := Aside0.mk el
            have EN := Aside0.mk en
            have EM := Aside0.mk hm
            have HMEM := Aside0.mk hmem
            have HLA2 := Aside0.mk hla
            have hw : wrap64 ((n : Int) - 1) = (m : Int) := by rw [wrap64_small (by omega) (by omega)]; omega
            have hm1 : (m : Int) < n := by omega
            have hm2 : m < n := by omega
            have hm0 : (0 : Int) ≤ (m : Int) := by omega
            have hn0 : (0 : Int) < (n : Int) := by omega
            have hla0 : (0 : Int) ≤ (la : Int) := by omega
            have hla1 : (la : Int) < l.length := by omega
            have hla2 : (la : Int) < s1.h.length := by omega
            have GH := Aside0.mk hgH
            clear hgH el en hm hmem hla hsp hgm eav HE
            go_wp2
            refine start_ (n := 13) (S := fun w' => w'.cell? ⟨g, 66, none⟩ = some (.slice (some aA) n cap1) ∧ w'.cell? (aA.add m) = some (.int .i64 (la : Nat))) (ds := []) #[false, false, false, false, false, false, false, false, false, false, false, false, false] (by kernel_rfl) rfl rfl ⟨(pw_cell_below (below_drew (Below.refl _ _)) xA), (pw_cell_below (below_drew (Below.refl _ _)) xa)⟩ (fun hHeld => ?_)
            refine pure_ (i := 0) (N := some 61) (v := ?_) (a' := ?_) #[true, false, false, false, false, false, false, false, false, false, false, false, false] rfl rfl (by kernel_rfl) (fun _ _ _ h => h) (Or.inl ⟨by rfl, ?_⟩) ?_ ?_
            rotate_left
            · intro w'
              go_simp
              with_reducible rfl
            rotate_left
            · simp only [Act.put, List.setIfInBounds_toArray, List.set_cons_zero, List.set_cons_succ, i64_w, i32_w]
              rfl
            refine pure_ (i := 1) (N := some 62) (v := ?_) (a' := ?_) #[true, true, false, false, false, false, false, false, false, false, false, false, false] rfl rfl (by kernel_rfl) (fun _ _ _ h => h) (Or.inl ⟨by rfl, ?_⟩) ?_ ?_
            rotate_left
            · intro w'
              go_simp
              with_reducible rfl
            rotate_left
            · simp only [Act.put, List.setIfInBounds_toArray, List.set_cons_zero, List.set_cons_succ, i64_w, i32_w]
              rfl
            refine pure_ (i := 2) (N := some 63) (v := ?_) (a' := ?_) #[true, true, true, false, false, false, false, false, false, false, false, false, false] rfl rfl (by kernel_rfl) (fun _ _ _ h => h) (Or.inl ⟨by rfl, ?_⟩) ?_ ?_
            rotate_left
            · intro w'
              go_simp
              with_reducible rfl
            rotate_left
            · simp only [Act.put, List.setIfInBounds_toArray, List.set_cons_zero, List.set_cons_succ, i64_w, i32_w]
              rfl
            refine pure_ (i := 4) (N := some 65) (v := ?_) (a' := ?_) #[true, true, true, false, true, false, false, false, false, false, false, false, false] rfl rfl (by kernel_rfl) (fun _ _ _ h => h) (Or.inl ⟨by rfl, ?_⟩) ?_ ?_
            rotate_left
            · intro w'
              go_simp
              with_reducible rfl
            rotate_left
            · simp only [Act.put, List.setIfInBounds_toArray, List.set_cons_zero, List.set_cons_succ, i64_w, i32_w]
              rfl
            refine pure_ (i := 5) (N := some 66) (v := ?_) (a' := ?_) #[true, true, true, false, true, true, false, false, false, false, false, false, false] rfl rfl (by kernel_rfl) (fun _ _ _ h => h) (Or.inl ⟨by rfl, ?_⟩) ?_ ?_
            rotate_left
            · intro w'
              go_simp
              with_reducible rfl
            rotate_left
            · simp only [Act.put, List.setIfInBounds_toArray, List.set_cons_zero, List.set_cons_succ, i64_w, i32_w]
              rfl
            refine pure_ (i := 6) (N := some 67) (v := ?_) (a' := ?_) #[true, true, true, false, true, true, true, false, false, false, false, false, false] rfl rfl (by kernel_rfl) (fun _ _ _ h => h) (Or.inl ⟨by rfl, ?_⟩) ?_ ?_
            rotate_left
            · intro w'
              go_simp
              with_reducible rfl
            rotate_left
            · simp only [Act.put, List.setIfInBounds_toArray, List.set_cons_zero, List.set_cons_succ, i64_w, i32_w]
              rfl
            refine take_ (i := 3) (N := some 64) (v := ?_) (a' := ?_) #[true, true, true, true, true, true, true, false, false, false, false, false, false] rfl rfl (by kernel_rfl) (fun _ _ _ h => h) (Or.inl ⟨by rfl, ?_⟩) hHeld ?_ ?_
            rotate_left
            · rintro w' ⟨s0, s1⟩
              go_simp
              with_reducible rfl
            rotate_left
            · simp only [Act.put, List.setIfInBounds_toArray, List.set_cons_zero, List.set_cons_succ, i64_w, i32_w]
              rfl
            refine take_ (i := 7) (N := some 68) (v := ?_) (a' := ?_) #[true, true, true, true, true, true, true, true, false, false, false, false, false] rfl rfl (by kernel_rfl) (fun _ _ _ h => h) (Or.inl ⟨by rfl, ?_⟩) hHeld ?_ ?_
            rotate_left
            · rintro w' ⟨s0, s1⟩
              go_simp
              with_reducible rfl
            rotate_left
            · simp only [Act.put, List.setIfInBounds_toArray, List.set_cons_zero, List.set_cons_succ, i64_w, i32_w]
              rfl
            refine pure_ (i := 8) (N := some 69) (v := ?_) (a' := ?_) #[true, true, true, true, true, true, true, true, true, false, false, false, false] rfl rfl (by kernel_rfl) (fun _ _ _ h => h) (Or.inl ⟨by rfl, ?_⟩) ?_ ?_
            rotate_left
            · intro w'
              go_simp
              with_reducible rfl
            rotate_left
            · simp only [Act.put, List.setIfInBounds_toArray, List.set_cons_zero, List.set_cons_succ, i64_w, i32_w]
              rfl
            refine pure_ (i := 9) (N := some 70) (v := ?_) (a' := ?_) #[true, true, true, true, true, true, true, true, true, true, false, false, false] rfl rfl (by kernel_rfl) (fun _ _ _ h => h) (Or.inl ⟨by rfl, ?_⟩) ?_ ?_
            rotate_left
            · intro w'
              go_simp
              with_reducible rfl
            rotate_left
            · simp only [Act.put, List.setIfInBounds_toArray, List.set_cons_zero, List.set_cons_succ, i64_w, i32_w]
              rfl
            refine pure_ (i := 10) (N := some 71) (v := ?_) (a' := ?_) #[true, true, true, true, true, true, true, true, true, true, true, false, false] rfl rfl (by kernel_rfl) (fun _ _ _ h => h) (Or.inl ⟨by rfl, ?_⟩) ?_ ?_
            rotate_left
            · intro w'
              go_simp
              with_reducible rfl
            rotate_left
            · simp only [Act.put, List.setIfInBounds_toArray, List.set_cons_zero, List.set_cons_succ, i64_w, i32_w]
              rfl
            refine take_ (i := 11) (N := some 72) (v := ?_) (a' := ?_) #[true, true, true, true, true, true, true, true, true, true, true, true, false] rfl rfl (by kernel_rfl) (fun _ _ _ h => h) (Or.inl ⟨by rfl, ?_⟩) hHeld ?_ ?_
            rotate_left
            · rintro w' ⟨s0, s1⟩
              go_simp
              with_reducible rfl
            rotate_left
            · simp only [Act.put, List.setIfInBounds_toArray, List.set_cons_zero, List.set_cons_succ, i64_w, i32_w]
              rfl
            refine pure_ (i := 12) (N := some 10) (v := ?_) (a' := ?_) #[true, true, true, true, true, true, true, true, true, true, true, true, true] rfl rfl (by kernel_rfl) (fun _ _ _ h => h) (Or.inl ⟨by rfl, ?_⟩) ?_ ?_
            rotate_left
            · intro w'
              go_simp
              with_reducible rfl
            rotate_left
            · simp only [Act.put, List.setIfInBounds_toArray, List.set_cons_zero, List.set_cons_succ, i64_w, i32_w]
              rfl
            refine done_ (by kernel_rfl) ?_

            have HS1 := Aside0.mk HS1.out.drew
            have HB1 := Aside0.mk HB1.out.drew
            have xA := HS1.out.cA
            have x1 := HS1.out.cH
            have y1 : w3.drew.cell? ⟨bx, 1, none⟩ = some (.int .i64 sv.f1) := HB1.out.cell (by omega)
            have y2 : w3.drew.cell? ⟨bx, 2, none⟩ = some (.int .i64 sv.f2) := HB1.out.cell (by omega)
            have v1 := pw_cell_below (below_drew (Below.refl _ _)) v1
            have v2 := pw_cell_below (below_drew (Below.refl _ _)) v2
            clear hHeld
            go_wp2
            by_cases d1 : sv.f2 < lv.f2
            · have b1 : decide (sv.f2 < lv.f2) = true := decide_eq_true d1
              by_cases d2 : lv.f1 < sv.f1
              · have b2 : decide (lv.f1 < sv.f1) = true := decide_eq_true d2
                have HQ := Aside0.mk (show upto l regs (k + 1) = enterP l k (ho s1.h la).f0.toNat (giveP l k la s1) by rw [GH.out]; exact if_pos (by rw [← ES.out, ← EL.out]; exact ⟨d1, d2⟩))
                clear GH
                refine start_ (n := 18) (S := fun w' => w'.cell? ⟨(ad.add (la * 3)).block, (ad.add (la * 3)).off + 2, none⟩ = some (.int .i64 lv.f2) ∧ w'.cell? ⟨(ad.add (la * 3)).block, (ad.add (la * 3)).off + 1, none⟩ = some (.int .i64 lv.f1) ∧ w'.cell? ⟨bx, 2, none⟩ = some (.int .i64 sv.f2) ∧ w'.cell? ⟨bx, 1, none⟩ = some (.int .i64 sv.f1)) (ds := []) #[false, false, false, false, false, false, false, false, false, false, false, false, false, false, false, false, false, false] (by kernel_rfl) rfl rfl ⟨(pw_cell_below (below_drew (Below.refl _ _)) v2), (pw_cell_below (below_drew (Below.refl _ _)) v1), (pw_cell_below (below_drew (Below.refl _ _)) y2), (pw_cell_below (below_drew (Below.refl _ _)) y1)⟩ (fun hHeld => ?_)
                refine pure_ (i := 0) (N := some 73) (v := ?_) (a' := ?_) #[true, false, false, false, false, false, false, false, false, false, false, false, false, false, false, false, false, false] rfl rfl (by kernel_rfl) (fun _ _ _ h => h) (Or.inl ⟨by rfl, ?_⟩) ?_ ?_
                rotate_left
                · intro w'
                  go_simp
                  with_reducible rfl
                rotate_left
                · simp only [Act.put, List.setIfInBounds_toArray, List.set_cons_zero, List.set_cons_succ, i64_w, i32_w]
                  rfl
                refine pure_ (i := 1) (N := some 74) (v := ?_) (a' := ?_) #[true, true, false, false, false, false, false, false, false, false, false, false, false, false, false, false, false, false] rfl rfl (by kernel_rfl) (fun _ _ _ h => h) (Or.inl ⟨by rfl, ?_⟩) ?_ ?_
                rotate_left
                · intro w'
                  go_simp
                  with_reducible rfl
                rotate_left
                · simp only [Act.put, List.setIfInBounds_toArray, List.set_cons_zero, List.set_cons_succ, i64_w, i32_w]
                  rfl
                refine pure_ (i := 2) (N := some 75) (v := ?_) (a' := ?_) #[true, true, true, false, false, false, false, false, false, false, false, false, false, false, false, false, false, false] rfl rfl (by kernel_rfl) (fun _ _ _ h => h) (Or.inl ⟨by rfl, ?_⟩) ?_ ?_
                rotate_left
                · intro w'
                  go_simp
                  with_reducible rfl
                rotate_left
                · simp only [Act.put, List.setIfInBounds_toArray, List.set_cons_zero, List.set_cons_succ, i64_w, i32_w]
                  rfl
                refine pure_ (i := 3) (N := some 76) (v := ?_) (a' := ?_) #[true, true, true, true, false, false, false, false, false, false, false, false, false, false, false, false, false, false] rfl rfl (by kernel_rfl) (fun _ _ _ h => h) (Or.inl ⟨by rfl, ?_⟩) ?_ ?_
                rotate_left
                · intro w'
                  go_simp
                  with_reducible rfl
                rotate_left
                · simp only [Act.put, List.setIfInBounds_toArray, List.set_cons_zero, List.set_cons_succ, i64_w, i32_w]
                  rfl
                refine pure_ (i := 5) (N := some 78) (v := ?_) (a' := ?_) #[true, true, true, true, false, true, false, false, false, false, false, false, false, false, false, false, false, false] rfl rfl (by kernel_rfl) (fun _ _ _ h => h) (Or.inl ⟨by rfl, ?_⟩) ?_ ?_
                rotate_left
                · intro w'
                  go_simp
                  with_reducible rfl
                rotate_left
                · simp only [Act.put, List.setIfInBounds_toArray, List.set_cons_zero, List.set_cons_succ, i64_w, i32_w]
                  rfl
                refine take_ (i := 4) (N := some 77) (v := ?_) (a' := ?_) #[true, true, true, true, true, true, false, false, false, false, false, false, false, false, false, false, false, false] rfl rfl (by kernel_rfl) (fun _ _ _ h => h) (Or.inl ⟨by rfl, ?_⟩) hHeld ?_ ?_
                rotate_left
                · rintro w' ⟨s0, s1, s2, s3⟩
                  go_simp
                  with_reducible rfl
                rotate_left
                · simp only [Act.put, List.setIfInBounds_toArray, List.set_cons_zero, List.set_cons_succ, i64_w, i32_w]
                  rfl
                refine take_ (i := 6) (N := some 79) (v := ?_) (a' := ?_) #[true, true, true, true, true, true, true, false, false, false, false, false, false, false, false, false, false, false] rfl rfl (by kernel_rfl) (fun _ _ _ h => h) (Or.inl ⟨by rfl, ?_⟩) hHeld ?_ ?_
                rotate_left
                · rintro w' ⟨s0, s1, s2, s3⟩
                  go_simp
                  with_reducible rfl
                rotate_left
                · simp only [Act.put, List.setIfInBounds_toArray, List.set_cons_zero, List.set_cons_succ, i64_w, i32_w]
                  rfl
                refine pure_ (i := 7) (N := some 80) (v := ?_) (a' := ?_) #[true, true, true, true, true, true, true, true, false, false, false, false, false, false, false, false, false, false] rfl rfl (by kernel_rfl) (fun _ _ _ h => h) (Or.inl ⟨by rfl, ?_⟩) ?_ ?_
                rotate_left
                · intro w'
                  go_simp
                  with_reducible rfl
                rotate_left
                · simp only [Act.put, List.setIfInBounds_toArray, List.set_cons_zero, List.set_cons_succ, i64_w, i32_w]
                  rfl
                refine pure_ (i := 8) (N := some 81) (v := ?_) (a' := ?_) #[true, true, true, true, true, true, true, true, true, false, false, false, false, false, false, false, false, false] rfl rfl (by kernel_rfl) (fun _ _ _ h => h) (Or.inl ⟨by rfl, ?_⟩) ?_ ?_
                rotate_left
                · intro w'
                  go_simp
                  with_reducible rfl
                rotate_left
                · simp only [Act.put, List.setIfInBounds_toArray, List.set_cons_zero, List.set_cons_succ, i64_w, i32_w]
                  rfl
                refine pure_ (i := 9) (N := some 82) (v := ?_) (a' := ?_) #[true, true, true, true, true, true, true, true, true, true, false, false, false, false, false, false, false, false] rfl rfl (by kernel_rfl) (fun _ _ _ h => h) (Or.inl ⟨by rfl, ?_⟩) ?_ ?_
                rotate_left
                · intro w'
                  go_simp
                  with_reducible rfl
                rotate_left
                · simp only [Act.put, List.setIfInBounds_toArray, List.set_cons_zero, List.set_cons_succ, i64_w, i32_w]
                  rfl
                refine pure_ (i := 10) (N := some 83) (v := ?_) (a' := ?_) #[true, true, true, true, true, true, true, true, true, true, true, false, false, false, false, false, false, false] rfl rfl (by kernel_rfl) (fun _ _ _ h => h) (Or.inl ⟨by rfl, ?_⟩) ?_ ?_
                rotate_left
                · intro w'
                  go_simp
                  with_reducible rfl
                rotate_left
                · simp only [Act.put, List.setIfInBounds_toArray, List.set_cons_zero, List.set_cons_succ, i64_w, i32_w]
                  rfl
                refine pure_ (i := 11) (N := some 84) (v := ?_) (a' := ?_) #[true, true, true, true, true, true, true, true, true, true, true, true, false, false, false, false, false, false] rfl rfl (by kernel_rfl) (fun _ _ _ h => h) (Or.inl ⟨by rfl, ?_⟩) ?_ ?_
                rotate_left
                · intro w'
                  go_simp
                  with_reducible rfl
                rotate_left
                · simp only [Act.put, List.setIfInBounds_toArray, List.set_cons_zero, List.set_cons_succ, i64_w, i32_w]
                  rfl
                refine pure_ (i := 12) (N := some 85) (v := ?_) (a' := ?_) #[true, true, true, true, true, true, true, true, true, true, true, true, true, false, false, false, false, false] rfl rfl (by kernel_rfl) (fun _ _ _ h => h) (Or.inl ⟨by rfl, ?_⟩) ?_ ?_
                rotate_left
                · intro w'
                  go_simp
                  with_reducible rfl
                rotate_left
                · simp only [Act.put, List.setIfInBounds_toArray, List.set_cons_zero, List.set_cons_succ, i64_w, i32_w]
                  rfl
                refine pure_ (i := 14) (N := some 87) (v := ?_) (a' := ?_) #[true, true, true, true, true, true, true, true, true, true, true, true, true, false, true, false, false, false] rfl rfl (by kernel_rfl) (fun _ _ _ h => h) (Or.inl ⟨by rfl, ?_⟩) ?_ ?_
                rotate_left
                · intro w'
                  go_simp
                  with_reducible rfl
                rotate_left
                · simp only [Act.put, List.setIfInBounds_toArray, List.set_cons_zero, List.set_cons_succ, i64_w, i32_w]
                  rfl
                refine take_ (i := 13) (N := some 86) (v := ?_) (a' := ?_) #[true, true, true, true, true, true, true, true, true, true, true, true, true, true, true, false, false, false] rfl rfl (by kernel_rfl) (fun _ _ _ h => h) (Or.inl ⟨by rfl, ?_⟩) hHeld ?_ ?_
                rotate_left
                · rintro w' ⟨s0, s1, s2, s3⟩
                  go_simp
                  with_reducible rfl
                rotate_left
                · simp only [Act.put, List.setIfInBounds_toArray, List.set_cons_zero, List.set_cons_succ, i64_w, i32_w]
                  rfl
                refine take_ (i := 15) (N := some 88) (v := ?_) (a' := ?_) #[true, true, true, true, true, true, true, true, true, true, true, true, true, true, true, true, false, false] rfl rfl (by kernel_rfl) (fun _ _ _ h => h) (Or.inl ⟨by rfl, ?_⟩) hHeld ?_ ?_
                rotate_left
                · rintro w' ⟨s0, s1, s2, s3⟩
                  go_simp
                  with_reducible rfl
                rotate_left
                · simp only [Act.put, List.setIfInBounds_toArray, List.set_cons_zero, List.set_cons_succ, i64_w, i32_w]
                  rfl
                refine pure_ (i := 16) (N := some 89) (v := ?_) (a' := ?_) #[true, true, true, true, true, true, true, true, true, true, true, true, true, true, true, true, true, false] rfl rfl (by kernel_rfl) (fun _ _ _ h => h) (Or.inl ⟨by rfl, ?_⟩) ?_ ?_
                rotate_left
                · intro w'
                  go_simp
                  with_reducible rfl
                rotate_left
                · simp only [Act.put, List.setIfInBounds_toArray, List.set_cons_zero, List.set_cons_succ, i64_w, i32_w]
                  rfl
                refine pure_ (i := 17) (N := some 90) (v := ?_) (a' := ?_) #[true, true, true, true, true, true, true, true, true, true, true, true, true, true, true, true, true, true] rfl rfl (by kernel_rfl) (fun _ _ _ h => h) (Or.inl ⟨by rfl, ?_⟩) ?_ ?_
                rotate_left
                · intro w'
                  go_simp
                  with_reducible rfl
                rotate_left
                · simp only [Act.put, List.setIfInBounds_toArray, List.set_cons_zero, List.set_cons_succ, i64_w, i32_w]
                  rfl
                refine done_ (by kernel_rfl) ?_

                clear hHeld
                have HS1 := Aside0.mk HS1.out.drew
                have HB1 := Aside0.mk HB1.out.drew
                obtain ⟨reg, ereg⟩ : ∃ reg : Nat, (ho s1.h la).f0 = (reg : Int) := ⟨(ho s1.h la).f0.toNat, by omega⟩
                have x1 := HS1.out.cH
                have z0 := HS1.out.c0 hlh
                rw [ereg] at z0 a1 a2
                go_wp2
                refine start_ (n := 20) (S := fun w' => w'.cell? ⟨g, 1, none⟩ = some (.slice (some ⟨bh, 0, none⟩) s1.h.length s1.h.length) ∧ w'.cell? ⟨bx, 1, none⟩ = some (.int .i64 sv.f1) ∧ w'.cell? ⟨bh, la * 3 + 2, none⟩ = some (.int .i64 (ho s1.h la).f2) ∧ w'.frozen? ⟨bh, la * 3 + 2, none⟩ = false) (ds := [19]) #[false, false, false, false, false, false, false, false, false, false, false, false, false, false, false, false, false, false, false, false] (by kernel_rfl) rfl rfl ⟨HS1.out.drew.cH, (HB1.out.drew.cell (by omega)), (HS1.out.drew.c2 hlh), (HS1.out.drew.hs.frozen (la * 3 + 2))⟩ (fun hHeld => ?_)
                refine pure_ (i := 0) (N := some 99) (v := ?_) (a' := ?_) #[true, false, false, false, false, false, false, false, false, false, false, false, false, false, false, false, false, false, false, false] rfl rfl (by kernel_rfl) (fun _ _ _ h => h) (Or.inl ⟨by rfl, ?_⟩) ?_ ?_
                rotate_left
                · intro w'
                  go_simp
                  with_reducible rfl
                rotate_left
                · simp only [Act.put, List.setIfInBounds_toArray, List.set_cons_zero, List.set_cons_succ, i64_w, i32_w]
                  rfl
                refine pure_ (i := 1) (N := some 100) (v := ?_) (a' := ?_) #[true, true, false, false, false, false, false, false, false, false, false, false, false, false, false, false, false, false, false, false] rfl rfl (by kernel_rfl) (fun _ _ _ h => h) (Or.inl ⟨by rfl, ?_⟩) ?_ ?_
                rotate_left
                · intro w'
                  go_simp
                  with_reducible rfl
                rotate_left
                · simp only [Act.put, List.setIfInBounds_toArray, List.set_cons_zero, List.set_cons_succ, i64_w, i32_w]
                  rfl
                refine pure_ (i := 2) (N := some 101) (v := ?_) (a' := ?_) #[true, true, true, false, false, false, false, false, false, false, false, false, false, false, false, false, false, false, false, false] rfl rfl (by kernel_rfl) (fun _ _ _ h => h) (Or.inl ⟨by rfl, ?_⟩) ?_ ?_
                rotate_left
                · intro w'
                  go_simp
                  with_reducible rfl
                rotate_left
                · simp only [Act.put, List.setIfInBounds_toArray, List.set_cons_zero, List.set_cons_succ, i64_w, i32_w]
                  rfl
                refine pure_ (i := 4) (N := some 103) (v := ?_) (a' := ?_) #[true, true, true, false, true, false, false, false, false, false, false, false, false, false, false, false, false, false, false, false] rfl rfl (by kernel_rfl) (fun _ _ _ h => h) (Or.inl ⟨by rfl, ?_⟩) ?_ ?_
                rotate_left
                · intro w'
                  go_simp
                  with_reducible rfl
                rotate_left
                · simp only [Act.put, List.setIfInBounds_toArray, List.set_cons_zero, List.set_cons_succ, i64_w, i32_w]
                  rfl
                refine pure_ (i := 5) (N := some 104) (v := ?_) (a' := ?_) #[true, true, true, false, true, true, false, false, false, false, false, false, false, false, false, false, false, false, false, false] rfl rfl (by kernel_rfl) (fun _ _ _ h => h) (Or.inl ⟨by rfl, ?_⟩) ?_ ?_
                rotate_left
                · intro w'
                  go_simp
                  with_reducible rfl
                rotate_left
                · simp only [Act.put, List.setIfInBounds_toArray, List.set_cons_zero, List.set_cons_succ, i64_w, i32_w]
                  rfl
                refine pure_ (i := 6) (N := some 105) (v := ?_) (a' := ?_) #[true, true, true, false, true, true, true, false, false, false, false, false, false, false, false, false, false, false, false, false] rfl rfl (by kernel_rfl) (fun _ _ _ h => h) (Or.inl ⟨by rfl, ?_⟩) ?_ ?_
                rotate_left
                · intro w'
                  go_simp
                  with_reducible rfl
                rotate_left
                · simp only [Act.put, List.setIfInBounds_toArray, List.set_cons_zero, List.set_cons_succ, i64_w, i32_w]
                  rfl
                refine pure_ (i := 7) (N := some 106) (v := ?_) (a' := ?_) #[true, true, true, false, true, true, true, true, false, false, false, false, false, false, false, false, false, false, false, false] rfl rfl (by kernel_rfl) (fun _ _ _ h => h) (Or.inl ⟨by rfl, ?_⟩) ?_ ?_
                rotate_left
                · intro w'
                  go_simp
                  with_reducible rfl
                rotate_left
                · simp only [Act.put, List.setIfInBounds_toArray, List.set_cons_zero, List.set_cons_succ, i64_w, i32_w]
                  rfl
                refine pure_ (i := 9) (N := some 108) (v := ?_) (a' := ?_) #[true, true, true, false, true, true, true, true, false, true, false, false, false, false, false, false, false, false, false, false] rfl rfl (by kernel_rfl) (fun _ _ _ h => h) (Or.inl ⟨by rfl, ?_⟩) ?_ ?_
                rotate_left
                · intro w'
                  go_simp
                  with_reducible rfl
                rotate_left
                · simp only [Act.put, List.setIfInBounds_toArray, List.set_cons_zero, List.set_cons_succ, i64_w, i32_w]
                  rfl
                refine pure_ (i := 10) (N := some 109) (v := ?_) (a' := ?_) #[true, true, true, false, true, true, true, true, false, true, true, false, false, false, false, false, false, false, false, false] rfl rfl (by kernel_rfl) (fun _ _ _ h => h) (Or.inl ⟨by rfl, ?_⟩) ?_ ?_
                rotate_left
                · intro w'
                  go_simp
                  with_reducible rfl
                rotate_left
                · simp only [Act.put, List.setIfInBounds_toArray, List.set_cons_zero, List.set_cons_succ, i64_w, i32_w]
                  rfl
                refine pure_ (i := 12) (N := some 111) (v := ?_) (a' := ?_) #[true, true, true, false, true, true, true, true, false, true, true, false, true, false, false, false, false, false, false, false] rfl rfl (by kernel_rfl) (fun _ _ _ h => h) (Or.inl ⟨by rfl, ?_⟩) ?_ ?_
                rotate_left
                · intro w'
                  go_simp
                  with_reducible rfl
                rotate_left
                · simp only [Act.put, List.setIfInBounds_toArray, List.set_cons_zero, List.set_cons_succ, i64_w, i32_w]
                  rfl
                refine take_ (i := 3) (N := some 102) (v := ?_) (a' := ?_) #[true, true, true, true, true, true, true, true, false, true, true, false, true, false, false, false, false, false, false, false] rfl rfl (by kernel_rfl) (fun _ _ _ h => h) (Or.inl ⟨by rfl, ?_⟩) hHeld ?_ ?_
                rotate_left
                · rintro w' ⟨s0, s1, s2, s3⟩
                  go_simp
                  with_reducible rfl
                rotate_left
                · simp only [Act.put, List.setIfInBounds_toArray, List.set_cons_zero, List.set_cons_succ, i64_w, i32_w]
                  rfl
                refine take_ (i := 8) (N := some 107) (v := ?_) (a' := ?_) #[true, true, true, true, true, true, true, true, true, true, true, false, true, false, false, false, false, false, false, false] rfl rfl (by kernel_rfl) (fun _ _ _ h => h) (Or.inl ⟨by rfl, ?_⟩) hHeld ?_ ?_
                rotate_left
                · rintro w' ⟨s0, s1, s2, s3⟩
                  go_simp
                  with_reducible rfl
                rotate_left
                · simp only [Act.put, List.setIfInBounds_toArray, List.set_cons_zero, List.set_cons_succ, i64_w, i32_w]
                  rfl
                refine take_ (i := 13) (N := some 112) (v := ?_) (a' := ?_) #[true, true, true, true, true, true, true, true, true, true, true, false, true, true, false, false, false, false, false, false] rfl rfl (by kernel_rfl) (fun _ _ _ h => h) (Or.inl ⟨by rfl, ?_⟩) hHeld ?_ ?_
                rotate_left
                · rintro w' ⟨s0, s1, s2, s3⟩
                  go_simp
                  with_reducible rfl
                rotate_left
                · simp only [Act.put, List.setIfInBounds_toArray, List.set_cons_zero, List.set_cons_succ, i64_w, i32_w]
                  rfl
                refine one_ (i := 11) (N := some 110) #[true, true, true, true, true, true, true, true, true, true, true, true, true, true, false, false, false, false, false, false] rfl rfl (by kernel_rfl) (by decide) (fun K hK => ?_)
                refine goes_ Tryz.func16 (by kernel_rfl) rfl #[.pointer (some ⟨g, 0, none⟩)] (by rfl) rfl rfl (by simp only [List.map_toArray, List.map_cons, List.map_nil]; rfl) ?_
                with_reducible refine (slot_calls _ w _ g bh _ s1 _ HS1.out.drew.base hn1).mono ?_
                rintro e w4 ⟨rfl, hS4⟩
                have HS4 := Aside0.mk hS4
                have HB4 := Aside0.mk (hS4.kp _ _ _ HB1.out.drew)
                have q4 := hS4.c1 hlh
                have q5 := hS4.hs.frozen (la * 3 + 1)
                clear hS4
                refine ⟨_, rfl, ?_⟩
                refine hK.out _ _ ⟨HS4.out.cH, (HB4.out.cell (by omega)), (HS4.out.c2 hlh), (HS4.out.hs.frozen (la * 3 + 2))⟩ (fun hHeld => ?_)
                clear hK K
                refine norm_ (a' := ?_) ?_ ?_
                rotate_left
                · show Act.put _ (some 110) _ = _
                  simp only [Act.put, List.setIfInBounds_toArray, List.set_cons_zero, List.set_cons_succ, i64_w, i32_w]
                  rfl
                refine pure_ (i := 14) (N := some 113) (v := ?_) (a' := ?_) #[true, true, true, true, true, true, true, true, true, true, true, true, true, true, true, false, false, false, false, false] rfl rfl (by kernel_rfl) (fun _ _ _ h => h) (Or.inl ⟨by rfl, ?_⟩) ?_ ?_
                rotate_left
                · intro w'
                  go_simp
                  with_reducible rfl
                rotate_left
                · simp only [Act.put, List.setIfInBounds_toArray, List.set_cons_zero, List.set_cons_succ, i64_w, i32_w]
                  rfl
                refine pure_ (i := 15) (N := some 114) (v := ?_) (a' := ?_) #[true, true, true, true, true, true, true, true, true, true, true, true, true, true, true, true, false, false, false, false] rfl rfl (by kernel_rfl) (fun _ _ _ h => h) (Or.inl ⟨by rfl, ?_⟩) ?_ ?_
                rotate_left
                · intro w'
                  go_simp
                  with_reducible rfl
                rotate_left
                · simp only [Act.put, List.setIfInBounds_toArray, List.set_cons_zero, List.set_cons_succ, i64_w, i32_w]
                  rfl
                refine one_ (i := 16) (N := none) #[true, true, true, true, true, true, true, true, true, true, true, true, true, true, true, true, true, false, false, false] rfl rfl (by kernel_rfl) (by decide) (fun K hK => ?_)
                refine skip_ (w1 := ?_) (by rfl) rfl ?_ ?_
                rotate_left
                · go_simp
                  rfl
                refine hK.out _ _ ⟨((HS4.out.gs.setOther (rowIs_ne HS4.out.gs HS4.out.hs (by decide)) _).cell (by omega)), ((HB4.out.setOther (rowIs_ne HB4.out HS4.out.hs (by decide)) _).cell (by omega)), ((row_set_ne HS4.out.hs _ (by show la * 3 + 2 < s1.h.length * 3; omega) (by omega)).trans ((HS4.out.hs.cell (by show la * 3 + 2 < s1.h.length * 3; omega)).symm.trans (HS4.out.c2 hlh))), ((HS4.out.hs.set (la * 3 + 1) _).frozen (la * 3 + 2))⟩ (fun hHeld => ?_)
                clear hK K
                refine pure_ (i := 17) (N := some 115) (v := ?_) (a' := ?_) #[true, true, true, true, true, true, true, true, true, true, true, true, true, true, true, true, true, true, false, false] rfl rfl (by kernel_rfl) (fun _ _ _ h => h) (Or.inl ⟨by rfl, ?_⟩) ?_ ?_
                rotate_left
                · intro w'
                  go_simp
                  with_reducible rfl
                rotate_left
                · simp only [Act.put, List.setIfInBounds_toArray, List.set_cons_zero, List.set_cons_succ, i64_w, i32_w]
                  rfl
                refine pure_ (i := 18) (N := some 116) (v := ?_) (a' := ?_) #[true, true, true, true, true, true, true, true, true, true, true, true, true, true, true, true, true, true, true, false] rfl rfl (by kernel_rfl) (fun _ _ _ h => h) (Or.inl ⟨by rfl, ?_⟩) ?_ ?_
                rotate_left
                · intro w'
                  go_simp
                  with_reducible rfl
                rotate_left
                · simp only [Act.put, List.setIfInBounds_toArray, List.set_cons_zero, List.set_cons_succ, i64_w, i32_w]
                  rfl
                refine last_ (i := 19) (N := none) #[true, true, true, true, true, true, true, true, true, true, true, true, true, true, true, true, true, true, true, true] rfl rfl (by kernel_rfl) (by decide) (fun K hK => ?_)
                refine skip_ (w1 := ?_) (by rfl) rfl ?_ ?_
                rotate_left
                · go_simp
                  rfl
                refine hK.out _ _ ?_
                clear hK K
                refine done_ (by kernel_rfl) ?_

                clear hHeld
                go_wp2
                obtain ⟨s2, es2⟩ : ∃ s2 : Sc, s2 = { s1 with n := s1.n + 1, h := s1.h.set la ⟨(ho s1.h la).f0, (s1.n : Int), sv.f1⟩ } := ⟨_, rfl⟩
                obtain ⟨w5, ew5⟩ : ∃ w5, w5 = (w4.setCell ⟨bh, la * 3 + 1, none⟩ (.int .i64 (s1.n : Int))).setCell ⟨bh, la * 3 + 2, none⟩ (.int .i64 sv.f1) := ⟨_, rfl⟩
                have HS5 := Aside0.mk (show St w5 w w5 g bh (.slice (some ad) l.length c0) s2 (.slice (some aA) n cap1) by
                  have h1 := HS4.out.setF (i := la) (q := 1) hlh ⟨(ho s1.h la).f0, (s1.n : Int), (ho s1.h la).f2⟩ (s1.n : Int) (.inl ⟨rfl, rfl⟩)
                  have h2 := h1.setF (i := la) (q := 2) (by show la < (s1.h.set la _).length; rw [List.length_set]; exact hlh) ⟨(ho s1.h la).f0, (s1.n : Int), sv.f1⟩ sv.f1 (.inr ⟨rfl, by
                    show _ = (⟨(ho (s1.h.set la _) la).f0, (ho (s1.h.set la _) la).f1, sv.f1⟩ : S48)
                    rw [ho_set hlh, if_pos rfl]⟩)
                  dsimp only at h2
                  rw [List.set_set, ← ew5, ← es2] at h2
                  exact h2.base)
                rw [← ew5]
                have E2 := Aside0.mk es2
                clear ew5 es2 HS4 HB4 q4 q5 x1 z0 xA y1 y2 v1 v2
                have xA := HS5.out.cA
                have hmc : m ≤ cap1 := by omega
                have hmc1 : (m : Int) ≤ cap1 := by omega
                refine start_ (n := 15) (S := fun w' => w'.cell? ⟨g, 66, none⟩ = some (.slice (some aA) n cap1) ∧ w'.frozen? ⟨g, 66, none⟩ = false) (ds := [14]) #[false, false, false, false, false, false, false, false, false, false, false, false, false, false, false] (by kernel_rfl) rfl rfl ⟨HS5.out.drew.cA, (HS5.out.drew.gs.frozen 66)⟩ (fun hHeld => ?_)
                refine pure_ (i := 0) (N := some 117) (v := ?_) (a' := ?_) #[true, false, false, false, false, false, false, false, false, false, false, false, false, false, false] rfl rfl (by kernel_rfl) (fun _ _ _ h => h) (Or.inl ⟨by rfl, ?_⟩) ?_ ?_
                rotate_left
                · intro w'
                  go_simp
                  with_reducible rfl
                rotate_left
                · simp only [Act.put, List.setIfInBounds_toArray, List.set_cons_zero, List.set_cons_succ, i64_w, i32_w]
                  rfl
                refine pure_ (i := 1) (N := some 118) (v := ?_) (a' := ?_) #[true, true, false, false, false, false, false, false, false, false, false, false, false, false, false] rfl rfl (by kernel_rfl) (fun _ _ _ h => h) (Or.inl ⟨by rfl, ?_⟩) ?_ ?_
                rotate_left
                · intro w'
                  go_simp
                  with_reducible rfl
                rotate_left
                · simp only [Act.put, List.setIfInBounds_toArray, List.set_cons_zero, List.set_cons_succ, i64_w, i32_w]
                  rfl
                refine pure_ (i := 2) (N := some 119) (v := ?_) (a' := ?_) #[true, true, true, false, false, false, false, false, false, false, false, false, false, false, false] rfl rfl (by kernel_rfl) (fun _ _ _ h => h) (Or.inl ⟨by rfl, ?_⟩) ?_ ?_
                rotate_left
                · intro w'
                  go_simp
                  with_reducible rfl
                rotate_left
                · simp only [Act.put, List.setIfInBounds_toArray, List.set_cons_zero, List.set_cons_succ, i64_w, i32_w]
                  rfl
                refine pure_ (i := 3) (N := some 120) (v := ?_) (a' := ?_) #[true, true, true, true, false, false, false, false, false, false, false, false, false, false, false] rfl rfl (by kernel_rfl) (fun _ _ _ h => h) (Or.inl ⟨by rfl, ?_⟩) ?_ ?_
                rotate_left
                · intro w'
                  go_simp
                  with_reducible rfl
                rotate_left
                · simp only [Act.put, List.setIfInBounds_toArray, List.set_cons_zero, List.set_cons_succ, i64_w, i32_w]
                  rfl
                refine pure_ (i := 5) (N := some 122) (v := ?_) (a' := ?_) #[true, true, true, true, false, true, false, false, false, false, false, false, false, false, false] rfl rfl (by kernel_rfl) (fun _ _ _ h => h) (Or.inl ⟨by rfl, ?_⟩) ?_ ?_
                rotate_left
                · intro w'
                  go_simp
                  with_reducible rfl
                rotate_left
                · simp only [Act.put, List.setIfInBounds_toArray, List.set_cons_zero, List.set_cons_succ, i64_w, i32_w]
                  rfl
                refine pure_ (i := 6) (N := some 123) (v := ?_) (a' := ?_) #[true, true, true, true, false, true, true, false, false, false, false, false, false, false, false] rfl rfl (by kernel_rfl) (fun _ _ _ h => h) (Or.inl ⟨by rfl, ?_⟩) ?_ ?_
                rotate_left
                · intro w'
                  go_simp
                  with_reducible rfl
                rotate_left
                · simp only [Act.put, List.setIfInBounds_toArray, List.set_cons_zero, List.set_cons_succ, i64_w, i32_w]
                  rfl
                refine pure_ (i := 7) (N := some 124) (v := ?_) (a' := ?_) #[true, true, true, true, false, true, true, true, false, false, false, false, false, false, false] rfl rfl (by kernel_rfl) (fun _ _ _ h => h) (Or.inl ⟨by rfl, ?_⟩) ?_ ?_
                rotate_left
                · intro w'
                  go_simp
                  with_reducible rfl
                rotate_left
                · simp only [Act.put, List.setIfInBounds_toArray, List.set_cons_zero, List.set_cons_succ, i64_w, i32_w]
                  rfl
                refine take_ (i := 4) (N := some 121) (v := ?_) (a' := ?_) #[true, true, true, true, true, true, true, true, false, false, false, false, false, false, false] rfl rfl (by kernel_rfl) (fun _ _ _ h => h) (Or.inl ⟨by rfl, ?_⟩) hHeld ?_ ?_
                rotate_left
                · rintro w' ⟨s0, s1⟩
                  go_simp
                  with_reducible rfl
                rotate_left
                · simp only [Act.put, List.setIfInBounds_toArray, List.set_cons_zero, List.set_cons_succ, i64_w, i32_w]
                  rfl
                refine take_ (i := 8) (N := some 125) (v := ?_) (a' := ?_) #[true, true, true, true, true, true, true, true, true, false, false, false, false, false, false] rfl rfl (by kernel_rfl) (fun _ _ _ h => h) (Or.inl ⟨by rfl, ?_⟩) hHeld ?_ ?_
                rotate_left
                · rintro w' ⟨s0, s1⟩
                  go_simp
                  with_reducible rfl
                rotate_left
                · simp only [Act.put, List.setIfInBounds_toArray, List.set_cons_zero, List.set_cons_succ, i64_w, i32_w]
                  rfl
                refine pure_ (i := 9) (N := some 126) (v := ?_) (a' := ?_) #[true, true, true, true, true, true, true, true, true, true, false, false, false, false, false] rfl rfl (by kernel_rfl) (fun _ _ _ h => h) (Or.inl ⟨by rfl, ?_⟩) ?_ ?_
                rotate_left
                · intro w'
                  go_simp
                  with_reducible rfl
                rotate_left
                · simp only [Act.put, List.setIfInBounds_toArray, List.set_cons_zero, List.set_cons_succ, i64_w, i32_w]
                  rfl
                refine pure_ (i := 10) (N := some 127) (v := ?_) (a' := ?_) #[true, true, true, true, true, true, true, true, true, true, true, false, false, false, false] rfl rfl (by kernel_rfl) (fun _ _ _ h => h) (Or.inl ⟨by rfl, ?_⟩) ?_ ?_
                rotate_left
                · intro w'
                  go_simp
                  with_reducible rfl
                rotate_left
                · simp only [Act.put, List.setIfInBounds_toArray, List.set_cons_zero, List.set_cons_succ, i64_w, i32_w]
                  rfl
                refine pure_ (i := 11) (N := some 128) (v := ?_) (a' := ?_) #[true, true, true, true, true, true, true, true, true, true, true, true, false, false, false] rfl rfl (by kernel_rfl) (fun _ _ _ h => h) (Or.inl ⟨by rfl, ?_⟩) ?_ ?_
                rotate_left
                · intro w'
                  go_simp
                  with_reducible rfl
                rotate_left
                · simp only [Act.put, List.setIfInBounds_toArray, List.set_cons_zero, List.set_cons_succ, i64_w, i32_w]
                  rfl
                refine pure_ (i := 12) (N := some 129) (v := ?_) (a' := ?_) #[true, true, true, true, true, true, true, true, true, true, true, true, true, false, false] rfl rfl (by kernel_rfl) (fun _ _ _ h => h) (Or.inl ⟨by rfl, ?_⟩) ?_ ?_
                rotate_left
                · intro w'
                  go_simp
                  with_reducible rfl
                rotate_left
                · simp only [Act.put, List.setIfInBounds_toArray, List.set_cons_zero, List.set_cons_succ, i64_w, i32_w]
                  rfl
                refine pure_ (i := 13) (N := some 130) (v := ?_) (a' := ?_) #[true, true, true, true, true, true, true, true, true, true, true, true, true, true, false] rfl rfl (by kernel_rfl) (fun _ _ _ h => h) (Or.inl ⟨by rfl, ?_⟩) ?_ ?_
                rotate_left
                · intro w'
                  go_simp
                  with_reducible rfl
                rotate_left
                · simp only [Act.put, List.setIfInBounds_toArray, List.set_cons_zero, List.set_cons_succ, i64_w, i32_w]
                  rfl
                refine last_ (i := 14) (N := none) #[true, true, true, true, true, true, true, true, true, true, true, true, true, true, true] rfl rfl (by kernel_rfl) (by decide) (fun K hK => ?_)
                refine skip_ (w1 := ?_) (by rfl) rfl ?_ ?_
                rotate_left
                · go_simp
                  rfl
                refine hK.out _ _ ?_
                clear hK K
                refine done_ (by kernel_rfl) ?_

                clear hHeld
                go_wp2_with fail
                have hgv : giveP l k la s1 = { s2 with act := s1.act.dropLast } := by rw [E2.out, ES.out]; rfl
                have hac6 : ActIs w5 w.heap.size (.slice (some aA) m cap1) s1.act.dropLast := by
                  have h1 := HS5.out.ac
                  rw [E2.out] at h1
                  have h2 := ActIs.last h1 (by show 0 < s1.act.length; have := EN.out; have := EM.out; omega)
                  rwa [show s1.act.length - 1 = m by have := EN.out; have := EM.out; omega] at h2
                have HS6 := Aside0.mk (HS5.out.setA hac6).drew
                rw [← hgv] at HS6
                have hdl : ∀ a ∈ s1.act.dropLast, a ∈ s1.act := fun a ha => (List.dropLast_sublist _).subset ha
                have ealt : (ho s1.h la).f0.toNat = reg := by rw [ereg, Int.toNat_natCast]
                refine (enter_calls _ w _ g bh ad c0 l (giveP l k la s1) _ k reg HR0.out HS6.out (by show (s1.h.set la _).length = _; rw [List.length_set]; exact HL.out.hl) hlt (by omega) (fun a ha => by have := HL.out.lt a (hdl a ha); omega) (by show s1.act.dropLast.length ≤ _; rw [List.length_dropLast]; have := EN.out; omega) (List.Pairwise.sublist (List.dropLast_sublist _) HL.out.srt) ⟨(hord.low k hlt).2.2, by have := hord.low k hlt; omega⟩).mono ?_
                rintro e w7 ⟨rfl, av7, hS7⟩
                rw [← ealt, ← HQ.out] at hS7
                have HS7 := Aside0.mk hS7
                clear hS7 HQ HS6 HS5 xA hac6 hgv
                go_wp2
                go_roundw
                case rel => exact ⟨k + 1, by omega, by go_num, ⟨_, HS7.out.base⟩⟩
                case measure => simp [intOf]; omega
              · have b2 : decide (lv.f1 < sv.f1) = false := decide_eq_false d2
                have HQ := Aside0.mk (show upto l regs (k + 1) = slotP l k s1 by rw [GH.out]; exact if_neg (by rw [← ES.out, ← EL.out]; exact fun h => d2 h.2))
                clear GH
                refine start_ (n := 18) (S := fun w' => w'.cell? ⟨(ad.add (la * 3)).block, (ad.add (la * 3)).off + 2, none⟩ = some (.int .i64 lv.f2) ∧ w'.cell? ⟨(ad.add (la * 3)).block, (ad.add (la * 3)).off + 1, none⟩ = some (.int .i64 lv.f1) ∧ w'.cell? ⟨bx, 2, none⟩ = some (.int .i64 sv.f2) ∧ w'.cell? ⟨bx, 1, none⟩ = some (.int .i64 sv.f1)) (ds := []) #[false, false, false, false, false, false, false, false, false, false, false, false, false, false, false, false, false, false] (by kernel_rfl) rfl rfl ⟨(pw_cell_below (below_drew (Below.refl _ _)) v2), (pw_cell_below (below_drew (Below.refl _ _)) v1), (pw_cell_below (below_drew (Below.refl _ _)) y2), (pw_cell_below (below_drew (Below.refl _ _)) y1)⟩ (fun hHeld => ?_)
                refine pure_ (i := 0) (N := some 73) (v := ?_) (a' := ?_) #[true, false, false, false, false, false, false, false, false, false, false, false, false, false, false, false, false, false] rfl rfl (by kernel_rfl) (fun _ _ _ h => h) (Or.inl ⟨by rfl, ?_⟩) ?_ ?_
                rotate_left
                · intro w'
                  go_simp
                  with_reducible rfl
                rotate_left
                · simp only [Act.put, List.setIfInBounds_toArray, List.set_cons_zero, List.set_cons_succ, i64_w, i32_w]
                  rfl
                refine pure_ (i := 1) (N := some 74) (v := ?_) (a' := ?_) #[true, true, false, false, false, false, false, false, false, false, false, false, false, false, false, false, false, false] rfl rfl (by kernel_rfl) (fun _ _ _ h => h) (Or.inl ⟨by rfl, ?_⟩) ?_ ?_
                rotate_left
                · intro w'
                  go_simp
                  with_reducible rfl
                rotate_left
                · simp only [Act.put, List.setIfInBounds_toArray, List.set_cons_zero, List.set_cons_succ, i64_w, i32_w]
                  rfl
                refine pure_ (i := 2) (N := some 75) (v := ?_) (a' := ?_) #[true, true, true, false, false, false, false, false, false, false, false, false, false, false, false, false, false, false] rfl rfl (by kernel_rfl) (fun _ _ _ h => h) (Or.inl ⟨by rfl, ?_⟩) ?_ ?_
                rotate_left
                · intro w'
                  go_simp
                  with_reducible rfl
                rotate_left
                · simp only [Act.put, List.setIfInBounds_toArray, List.set_cons_zero, List.set_cons_succ, i64_w, i32_w]
                  rfl
                refine pure_ (i := 3) (N := some 76) (v := ?_) (a' := ?_) #[true, true, true, true, false, false, false, false, false, false, false, false, false, false, false, false, false, false] rfl rfl (by kernel_rfl) (fun _ _ _ h => h) (Or.inl ⟨by rfl, ?_⟩) ?_ ?_
                rotate_left
                · intro w'
                  go_simp
                  with_reducible rfl
                rotate_left
                · simp only [Act.put, List.setIfInBounds_toArray, List.set_cons_zero, List.set_cons_succ, i64_w, i32_w]
                  rfl
                refine pure_ (i := 5) (N := some 78) (v := ?_) (a' := ?_) #[true, true, true, true, false, true, false, false, false, false, false, false, false, false, false, false, false, false] rfl rfl (by kernel_rfl) (fun _ _ _ h => h) (Or.inl ⟨by rfl, ?_⟩) ?_ ?_
                rotate_left
                · intro w'
                  go_simp
                  with_reducible rfl
                rotate_left
                · simp only [Act.put, List.setIfInBounds_toArray, List.set_cons_zero, List.set_cons_succ, i64_w, i32_w]
                  rfl
                refine take_ (i := 4) (N := some 77) (v := ?_) (a' := ?_) #[true, true, true, true, true, true, false, false, false, false, false, false, false, false, false, false, false, false] rfl rfl (by kernel_rfl) (fun _ _ _ h => h) (Or.inl ⟨by rfl, ?_⟩) hHeld ?_ ?_
                rotate_left
                · rintro w' ⟨s0, s1, s2, s3⟩
                  go_simp
                  with_reducible rfl
                rotate_left
                · simp only [Act.put, List.setIfInBounds_toArray, List.set_cons_zero, List.set_cons_succ, i64_w, i32_w]
                  rfl
                refine take_ (i := 6) (N := some 79) (v := ?_) (a' := ?_) #[true, true, true, true, true, true, true, false, false, false, false, false, false, false, false, false, false, false] rfl rfl (by kernel_rfl) (fun _ _ _ h => h) (Or.inl ⟨by rfl, ?_⟩) hHeld ?_ ?_
                rotate_left
                · rintro w' ⟨s0, s1, s2, s3⟩
                  go_simp
                  with_reducible rfl
                rotate_left
                · simp only [Act.put, List.setIfInBounds_toArray, List.set_cons_zero, List.set_cons_succ, i64_w, i32_w]
                  rfl
                refine pure_ (i := 7) (N := some 80) (v := ?_) (a' := ?_) #[true, true, true, true, true, true, true, true, false, false, false, false, false, false, false, false, false, false] rfl rfl (by kernel_rfl) (fun _ _ _ h => h) (Or.inl ⟨by rfl, ?_⟩) ?_ ?_
                rotate_left
                · intro w'
                  go_simp
                  with_reducible rfl
                rotate_left
                · simp only [Act.put, List.setIfInBounds_toArray, List.set_cons_zero, List.set_cons_succ, i64_w, i32_w]
                  rfl
                refine pure_ (i := 8) (N := some 81) (v := ?_) (a' := ?_) #[true, true, true, true, true, true, true, true, true, false, false, false, false, false, false, false, false, false] rfl rfl (by kernel_rfl) (fun _ _ _ h => h) (Or.inl ⟨by rfl, ?_⟩) ?_ ?_
                rotate_left
                · intro w'
                  go_simp
                  with_reducible rfl
                rotate_left
                · simp only [Act.put, List.setIfInBounds_toArray, List.set_cons_zero, List.set_cons_succ, i64_w, i32_w]
                  rfl
                refine pure_ (i := 9) (N := some 82) (v := ?_) (a' := ?_) #[true, true, true, true, true, true, true, true, true, true, false, false, false, false, false, false, false, false] rfl rfl (by kernel_rfl) (fun _ _ _ h => h) (Or.inl ⟨by rfl, ?_⟩) ?_ ?_
                rotate_left
                · intro w'
                  go_simp
                  with_reducible rfl
                rotate_left
                · simp only [Act.put, List.setIfInBounds_toArray, List.set_cons_zero, List.set_cons_succ, i64_w, i32_w]
                  rfl
                refine pure_ (i := 10) (N := some 83) (v := ?_) (a' := ?_) #[true, true, true, true, true, true, true, true, true, true, true, false, false, false, false, false, false, false] rfl rfl (by kernel_rfl) (fun _ _ _ h => h) (Or.inl ⟨by rfl, ?_⟩) ?_ ?_
                rotate_left
                · intro w'
                  go_simp
                  with_reducible rfl
                rotate_left
                · simp only [Act.put, List.setIfInBounds_toArray, List.set_cons_zero, List.set_cons_succ, i64_w, i32_w]
                  rfl
                refine pure_ (i := 11) (N := some 84) (v := ?_) (a' := ?_) #[true, true, true, true, true, true, true, true, true, true, true, true, false, false, false, false, false, false] rfl rfl (by kernel_rfl) (fun _ _ _ h => h) (Or.inl ⟨by rfl, ?_⟩) ?_ ?_
                rotate_left
                · intro w'
                  go_simp
                  with_reducible rfl
                rotate_left
                · simp only [Act.put, List.setIfInBounds_toArray, List.set_cons_zero, List.set_cons_succ, i64_w, i32_w]
                  rfl
                refine pure_ (i := 12) (N := some 85) (v := ?_) (a' := ?_) #[true, true, true, true, true, true, true, true, true, true, true, true, true, false, false, false, false, false] rfl rfl (by kernel_rfl) (fun _ _ _ h => h) (Or.inl ⟨by rfl, ?_⟩) ?_ ?_
                rotate_left
                · intro w'
                  go_simp
                  with_reducible rfl
                rotate_left
                · simp only [Act.put, List.setIfInBounds_toArray, List.set_cons_zero, List.set_cons_succ, i64_w, i32_w]
                  rfl
                refine pure_ (i := 14) (N := some 87) (v := ?_) (a' := ?_) #[true, true, true, true, true, true, true, true, true, true, true, true, true, false, true, false, false, false] rfl rfl (by kernel_rfl) (fun _ _ _ h => h) (Or.inl ⟨by rfl, ?_⟩) ?_ ?_
                rotate_left
                · intro w'
                  go_simp
                  with_reducible rfl
                rotate_left
                · simp only [Act.put, List.setIfInBounds_toArray, List.set_cons_zero, List.set_cons_succ, i64_w, i32_w]
                  rfl
                refine take_ (i := 13) (N := some 86) (v := ?_) (a' := ?_) #[true, true, true, true, true, true, true, true, true, true, true, true, true, true, true, false, false, false] rfl rfl (by kernel_rfl) (fun _ _ _ h => h) (Or.inl ⟨by rfl, ?_⟩) hHeld ?_ ?_
                rotate_left
                · rintro w' ⟨s0, s1, s2, s3⟩
                  go_simp
                  with_reducible rfl
                rotate_left
                · simp only [Act.put, List.setIfInBounds_toArray, List.set_cons_zero, List.set_cons_succ, i64_w, i32_w]
                  rfl
                refine take_ (i := 15) (N := some 88) (v := ?_) (a' := ?_) #[true, true, true, true, true, true, true, true, true, true, true, true, true, true, true, true, false, false] rfl rfl (by kernel_rfl) (fun _ _ _ h => h) (Or.inl ⟨by rfl, ?_⟩) hHeld ?_ ?_
                rotate_left
                · rintro w' ⟨s0, s1, s2, s3⟩
                  go_simp
                  with_reducible rfl
                rotate_left
                · simp only [Act.put, List.setIfInBounds_toArray, List.set_cons_zero, List.set_cons_succ, i64_w, i32_w]
                  rfl
                refine pure_ (i := 16) (N := some 89) (v := ?_) (a' := ?_) #[true, true, true, true, true, true, true, true, true, true, true, true, true, true, true, true, true, false] rfl rfl (by kernel_rfl) (fun _ _ _ h => h) (Or.inl ⟨by rfl, ?_⟩) ?_ ?_
                rotate_left
                · intro w'
                  go_simp
                  with_reducible rfl
                rotate_left
                · simp only [Act.put, List.setIfInBounds_toArray, List.set_cons_zero, List.set_cons_succ, i64_w, i32_w]
                  rfl
                refine pure_ (i := 17) (N := some 90) (v := ?_) (a' := ?_) #[true, true, true, true, true, true, true, true, true, true, true, true, true, true, true, true, true, true] rfl rfl (by kernel_rfl) (fun _ _ _ h => h) (Or.inl ⟨by rfl, ?_⟩) ?_ ?_
                rotate_left
                · intro w'
                  go_simp
                  with_reducible rfl
                rotate_left
                · simp only [Act.put, List.setIfInBounds_toArray, List.set_cons_zero, List.set_cons_succ, i64_w, i32_w]
                  rfl
                refine done_ (by kernel_rfl) ?_

                clear hHeld
                have HS1 := Aside0.mk HS1.out.drew
                have HB1 := Aside0.mk HB1.out.drew
                go_wp2
                refine start_ (n := 12) (S := fun w' => w'.cell? ⟨g, 1, none⟩ = some (.slice (some ⟨bh, 0, none⟩) s1.h.length s1.h.length) ∧ w'.cell? ⟨bx, 1, none⟩ = some (.int .i64 sv.f1) ∧ w'.cell? ⟨bh, k * 3, none⟩ = some (.int .i64 (ho s1.h k).f0) ∧ w'.cell? ⟨bh, k * 3 + 1, none⟩ = some (.int .i64 (ho s1.h k).f1) ∧ w'.cell? ⟨bh, k * 3 + 2, none⟩ = some (.int .i64 (ho s1.h k).f2) ∧ w'.frozen? ⟨bh, k * 3, none⟩ = false ∧ w'.frozen? ⟨bh, k * 3 + 1, none⟩ = false ∧ w'.frozen? ⟨bh, k * 3 + 2, none⟩ = false) (ds := [11]) #[false, false, false, false, false, false, false, false, false, false, false, false] (by kernel_rfl) rfl rfl ⟨HS1.out.drew.cH, (HB1.out.drew.cell (by omega)), (HS1.out.drew.c0 hih), (HS1.out.drew.c1 hih), (HS1.out.drew.c2 hih), (HS1.out.drew.hs.frozen (k * 3)), (HS1.out.drew.hs.frozen (k * 3 + 1)), (HS1.out.drew.hs.frozen (k * 3 + 2))⟩ (fun hHeld => ?_)
                refine pure_ (i := 0) (N := some 135) (v := ?_) (a' := ?_) #[true, false, false, false, false, false, false, false, false, false, false, false] rfl rfl (by kernel_rfl) (fun _ _ _ h => h) (Or.inl ⟨by rfl, ?_⟩) ?_ ?_
                rotate_left
                · intro w'
                  go_simp
                  with_reducible rfl
                rotate_left
                · simp only [Act.put, List.setIfInBounds_toArray, List.set_cons_zero, List.set_cons_succ, i64_w, i32_w]
                  rfl
                refine pure_ (i := 1) (N := some 136) (v := ?_) (a' := ?_) #[true, true, false, false, false, false, false, false, false, false, false, false] rfl rfl (by kernel_rfl) (fun _ _ _ h => h) (Or.inl ⟨by rfl, ?_⟩) ?_ ?_
                rotate_left
                · intro w'
                  go_simp
                  with_reducible rfl
                rotate_left
                · simp only [Act.put, List.setIfInBounds_toArray, List.set_cons_zero, List.set_cons_succ, i64_w, i32_w]
                  rfl
                refine pure_ (i := 2) (N := some 137) (v := ?_) (a' := ?_) #[true, true, true, false, false, false, false, false, false, false, false, false] rfl rfl (by kernel_rfl) (fun _ _ _ h => h) (Or.inl ⟨by rfl, ?_⟩) ?_ ?_
                rotate_left
                · intro w'
                  go_simp
                  with_reducible rfl
                rotate_left
                · simp only [Act.put, List.setIfInBounds_toArray, List.set_cons_zero, List.set_cons_succ, i64_w, i32_w]
                  rfl
                refine pure_ (i := 4) (N := some 139) (v := ?_) (a' := ?_) #[true, true, true, false, true, false, false, false, false, false, false, false] rfl rfl (by kernel_rfl) (fun _ _ _ h => h) (Or.inl ⟨by rfl, ?_⟩) ?_ ?_
                rotate_left
                · intro w'
                  go_simp
                  with_reducible rfl
                rotate_left
                · simp only [Act.put, List.setIfInBounds_toArray, List.set_cons_zero, List.set_cons_succ, i64_w, i32_w]
                  rfl
                refine pure_ (i := 5) (N := some 140) (v := ?_) (a' := ?_) #[true, true, true, false, true, true, false, false, false, false, false, false] rfl rfl (by kernel_rfl) (fun _ _ _ h => h) (Or.inl ⟨by rfl, ?_⟩) ?_ ?_
                rotate_left
                · intro w'
                  go_simp
                  with_reducible rfl
                rotate_left
                · simp only [Act.put, List.setIfInBounds_toArray, List.set_cons_zero, List.set_cons_succ, i64_w, i32_w]
                  rfl
                refine pure_ (i := 7) (N := some 142) (v := ?_) (a' := ?_) #[true, true, true, false, true, true, false, true, false, false, false, false] rfl rfl (by kernel_rfl) (fun _ _ _ h => h) (Or.inl ⟨by rfl, ?_⟩) ?_ ?_
                rotate_left
                · intro w'
                  go_simp
                  with_reducible rfl
                rotate_left
                · simp only [Act.put, List.setIfInBounds_toArray, List.set_cons_zero, List.set_cons_succ, i64_w, i32_w]
                  rfl
                refine take_ (i := 3) (N := some 138) (v := ?_) (a' := ?_) #[true, true, true, true, true, true, false, true, false, false, false, false] rfl rfl (by kernel_rfl) (fun _ _ _ h => h) (Or.inl ⟨by rfl, ?_⟩) hHeld ?_ ?_
                rotate_left
                · rintro w' ⟨s0, s1, s2, s3, s4, s5, s6, s7⟩
                  go_simp
                  with_reducible rfl
                rotate_left
                · simp only [Act.put, List.setIfInBounds_toArray, List.set_cons_zero, List.set_cons_succ, i64_w, i32_w]
                  rfl
                refine take_ (i := 8) (N := some 143) (v := ?_) (a' := ?_) #[true, true, true, true, true, true, false, true, true, false, false, false] rfl rfl (by kernel_rfl) (fun _ _ _ h => h) (Or.inl ⟨by rfl, ?_⟩) hHeld ?_ ?_
                rotate_left
                · rintro w' ⟨s0, s1, s2, s3, s4, s5, s6, s7⟩
                  go_simp
                  with_reducible rfl
                rotate_left
                · simp only [Act.put, List.setIfInBounds_toArray, List.set_cons_zero, List.set_cons_succ, i64_w, i32_w]
                  rfl
                refine one_ (i := 6) (N := some 141) #[true, true, true, true, true, true, true, true, true, false, false, false] rfl rfl (by kernel_rfl) (by decide) (fun K hK => ?_)
                refine goes_ Tryz.func16 (by kernel_rfl) rfl #[.pointer (some ⟨g, 0, none⟩)] (by rfl) rfl rfl (by simp only [List.map_toArray, List.map_cons, List.map_nil]; rfl) ?_
                with_reducible refine (slot_calls _ w _ g bh _ s1 _ HS1.out.drew.base hn1).mono ?_
                rintro e w4 ⟨rfl, hS4⟩
                have HS4 := Aside0.mk hS4
                have HB4 := Aside0.mk (hS4.kp _ _ _ HB1.out.drew)
                clear hS4
                refine ⟨_, rfl, ?_⟩
                refine hK.out _ _ ⟨HS4.out.cH, (HB4.out.cell (by omega)), (HS4.out.c0 hih), (HS4.out.c1 hih), (HS4.out.c2 hih), (HS4.out.hs.frozen (k * 3)), (HS4.out.hs.frozen (k * 3 + 1)), (HS4.out.hs.frozen (k * 3 + 2))⟩ (fun hHeld => ?_)
                clear hK K
                refine norm_ (a' := ?_) ?_ ?_
                rotate_left
                · show Act.put _ (some 141) _ = _
                  simp only [Act.put, List.setIfInBounds_toArray, List.set_cons_zero, List.set_cons_succ, i64_w, i32_w]
                  rfl
                refine pure_ (i := 9) (N := some 144) (v := ?_) (a' := ?_) #[true, true, true, true, true, true, true, true, true, true, false, false] rfl rfl (by kernel_rfl) (fun _ _ _ h => h) (Or.inl ⟨by rfl, ?_⟩) ?_ ?_
                rotate_left
                · intro w'
                  go_simp
                  with_reducible rfl
                rotate_left
                · simp only [Act.put, List.setIfInBounds_toArray, List.set_cons_zero, List.set_cons_succ, i64_w, i32_w]
                  rfl
                refine pure_ (i := 10) (N := some 145) (v := ?_) (a' := ?_) #[true, true, true, true, true, true, true, true, true, true, true, false] rfl rfl (by kernel_rfl) (fun _ _ _ h => h) (Or.inl ⟨by rfl, ?_⟩) ?_ ?_
                rotate_left
                · intro w'
                  go_simp
                  with_reducible rfl
                rotate_left
                · simp only [Act.put, List.setIfInBounds_toArray, List.set_cons_zero, List.set_cons_succ, i64_w, i32_w]
                  rfl
                refine last_ (i := 11) (N := none) #[true, true, true, true, true, true, true, true, true, true, true, true] rfl rfl (by kernel_rfl) (by decide) (fun K hK => ?_)
                refine skip_ (w1 := ?_) (by rfl) rfl ?_ ?_
                rotate_left
                · go_simp
                  rfl
                refine hK.out _ _ ?_
                clear hK K
                refine done_ (by kernel_rfl) ?_

                go_wp2
                clear hHeld
                have HS6 := Aside0.mk (HS4.out.setHome (i := k) hih ⟨-1, (s1.n : Int), sv.f1⟩)
                have E6 := Aside0.mk (show ({ s1 with n := s1.n + 1, h := s1.h.set k ⟨-1, (s1.n : Int), sv.f1⟩ } : Sc) = upto l regs (k + 1) by rw [HQ.out, ES.out]; rfl)
                go_roundw
                case rel => exact ⟨k + 1, by omega, by go_num, ⟨_, by have := HS6.out; dsimp only at this; rw [E6.out] at this; exact this.base⟩⟩
                case measure => simp [intOf]; omega
            · have b1 : decide (sv.f2 < lv.f2) = false := decide_eq_false d1
              have HQ := Aside0.mk (show upto l regs (k + 1) = slotP l k s1 by rw [GH.out]; exact if_neg (by rw [← ES.out, ← EL.out]; exact fun h => d1 h.1))
              clear GH
              refine start_ (n := 18) (S := fun w' => w'.cell? ⟨(ad.add (la * 3)).block, (ad.add (la * 3)).off + 2, none⟩ = some (.int .i64 lv.f2) ∧ w'.cell? ⟨(ad.add (la * 3)).block, (ad.add (la * 3)).off + 1, none⟩ = some (.int .i64 lv.f1) ∧ w'.cell? ⟨bx, 2, none⟩ = some (.int .i64 sv.f2) ∧ w'.cell? ⟨bx, 1, none⟩ = some (.int .i64 sv.f1)) (ds := []) #[false, false, false, false, false, false, false, false, false, false, false, false, false, false, false, false, false, false] (by kernel_rfl) rfl rfl ⟨(pw_cell_below (below_drew (Below.refl _ _)) v2), (pw_cell_below (below_drew (Below.refl _ _)) v1), (pw_cell_below (below_drew (Below.refl _ _)) y2), (pw_cell_below (below_drew (Below.refl _ _)) y1)⟩ (fun hHeld => ?_)
              refine pure_ (i := 0) (N := some 73) (v := ?_) (a' := ?_) #[true, false, false, false, false, false, false, false, false, false, false, false, false, false, false, false, false, false] rfl rfl (by kernel_rfl) (fun _ _ _ h => h) (Or.inl ⟨by rfl, ?_⟩) ?_ ?_
              rotate_left
              · intro w'
                go_simp
                with_reducible rfl
              rotate_left
              · simp only [Act.put, List.setIfInBounds_toArray, List.set_cons_zero, List.set_cons_succ, i64_w, i32_w]
                rfl
              refine pure_ (i := 1) (N := some 74) (v := ?_) (a' := ?_) #[true, true, false, false, false, false, false, false, false, false, false, false, false, false, false, false, false, false] rfl rfl (by kernel_rfl) (fun _ _ _ h => h) (Or.inl ⟨by rfl, ?_⟩) ?_ ?_
              rotate_left
              · intro w'
                go_simp
                with_reducible rfl
              rotate_left
              · simp only [Act.put, List.setIfInBounds_toArray, List.set_cons_zero, List.set_cons_succ, i64_w, i32_w]
                rfl
              refine pure_ (i := 2) (N := some 75) (v := ?_) (a' := ?_) #[true, true, true, false, false, false, false, false, false, false, false, false, false, false, false, false, false, false] rfl rfl (by kernel_rfl) (fun _ _ _ h => h) (Or.inl ⟨by rfl, ?_⟩) ?_ ?_
              rotate_left
              · intro w'
                go_simp
                with_reducible rfl
              rotate_left
              · simp only [Act.put, List.setIfInBounds_toArray, List.set_cons_zero, List.set_cons_succ, i64_w, i32_w]
                rfl
              refine pure_ (i := 3) (N := some 76) (v := ?_) (a' := ?_) #[true, true, true, true, false, false, false, false, false, false, false, false, false, false, false, false, false, false] rfl rfl (by kernel_rfl) (fun _ _ _ h => h) (Or.inl ⟨by rfl, ?_⟩) ?_ ?_
              rotate_left
              · intro w'
                go_simp
                with_reducible rfl
              rotate_left
              · simp only [Act.put, List.setIfInBounds_toArray, List.set_cons_zero, List.set_cons_succ, i64_w, i32_w]
                rfl
              refine pure_ (i := 5) (N := some 78) (v := ?_) (a' := ?_) #[true, true, true, true, false, true, false, false, false, false, false, false, false, false, false, false, false, false] rfl rfl (by kernel_rfl) (fun _ _ _ h => h) (Or.inl ⟨by rfl, ?_⟩) ?_ ?_
              rotate_left
              · intro w'
                go_simp
                with_reducible rfl
              rotate_left
              · simp only [Act.put, List.setIfInBounds_toArray, List.set_cons_zero, List.set_cons_succ, i64_w, i32_w]
                rfl
              refine take_ (i := 4) (N := some 77) (v := ?_) (a' := ?_) #[true, true, true, true, true, true, false, false, false, false, false, false, false, false, false, false, false, false] rfl rfl (by kernel_rfl) (fun _ _ _ h => h) (Or.inl ⟨by rfl, ?_⟩) hHeld ?_ ?_
              rotate_left
              · rintro w' ⟨s0, s1, s2, s3⟩
                go_simp
                with_reducible rfl
              rotate_left
              · simp only [Act.put, List.setIfInBounds_toArray, List.set_cons_zero, List.set_cons_succ, i64_w, i32_w]
                rfl
              refine take_ (i := 6) (N := some 79) (v := ?_) (a' := ?_) #[true, true, true, true, true, true, true, false, false, false, false, false, false, false, false, false, false, false] rfl rfl (by kernel_rfl) (fun _ _ _ h => h) (Or.inl ⟨by rfl, ?_⟩) hHeld ?_ ?_
              rotate_left
              · rintro w' ⟨s0, s1, s2, s3⟩
                go_simp
                with_reducible rfl
              rotate_left
              · simp only [Act.put, List.setIfInBounds_toArray, List.set_cons_zero, List.set_cons_succ, i64_w, i32_w]
                rfl
              refine pure_ (i := 7) (N := some 80) (v := ?_) (a' := ?_) #[true, true, true, true, true, true, true, true, false, false, false, false, false, false, false, false, false, false] rfl rfl (by kernel_rfl) (fun _ _ _ h => h) (Or.inl ⟨by rfl, ?_⟩) ?_ ?_
              rotate_left
              · intro w'
                go_simp
                with_reducible rfl
              rotate_left
              · simp only [Act.put, List.setIfInBounds_toArray, List.set_cons_zero, List.set_cons_succ, i64_w, i32_w]
                rfl
              refine pure_ (i := 8) (N := some 81) (v := ?_) (a' := ?_) #[true, true, true, true, true, true, true, true, true, false, false, false, false, false, false, false, false, false] rfl rfl (by kernel_rfl) (fun _ _ _ h => h) (Or.inl ⟨by rfl, ?_⟩) ?_ ?_
              rotate_left
              · intro w'
                go_simp
                with_reducible rfl
              rotate_left
              · simp only [Act.put, List.setIfInBounds_toArray, List.set_cons_zero, List.set_cons_succ, i64_w, i32_w]
                rfl
              refine pure_ (i := 9) (N := some 82) (v := undef) (a' := ?_) #[true, true, true, true, true, true, true, true, true, true, false, false, false, false, false, false, false, false] rfl rfl (by kernel_rfl) (fun _ _ _ h => h) (Or.inr ⟨by rfl, rfl⟩) ?_ ?_
              rotate_left
              · simp only [Act.put, List.setIfInBounds_toArray, List.set_cons_zero, List.set_cons_succ, i64_w, i32_w]
                rfl
              refine pure_ (i := 10) (N := some 83) (v := undef) (a' := ?_) #[true, true, true, true, true, true, true, true, true, true, true, false, false, false, false, false, false, false] rfl rfl (by kernel_rfl) (fun _ _ _ h => h) (Or.inr ⟨by rfl, rfl⟩) ?_ ?_
              rotate_left
              · simp only [Act.put, List.setIfInBounds_toArray, List.set_cons_zero, List.set_cons_succ, i64_w, i32_w]
                rfl
              refine pure_ (i := 11) (N := some 84) (v := undef) (a' := ?_) #[true, true, true, true, true, true, true, true, true, true, true, true, false, false, false, false, false, false] rfl rfl (by kernel_rfl) (fun _ _ _ h => h) (Or.inr ⟨by rfl, rfl⟩) ?_ ?_
              rotate_left
              · simp only [Act.put, List.setIfInBounds_toArray, List.set_cons_zero, List.set_cons_succ, i64_w, i32_w]
                rfl
              refine pure_ (i := 12) (N := some 85) (v := undef) (a' := ?_) #[true, true, true, true, true, true, true, true, true, true, true, true, true, false, false, false, false, false] rfl rfl (by kernel_rfl) (fun _ _ _ h => h) (Or.inr ⟨by rfl, rfl⟩) ?_ ?_
              rotate_left
              · simp only [Act.put, List.setIfInBounds_toArray, List.set_cons_zero, List.set_cons_succ, i64_w, i32_w]
                rfl
              refine pure_ (i := 13) (N := some 86) (v := undef) (a' := ?_) #[true, true, true, true, true, true, true, true, true, true, true, true, true, true, false, false, false, false] rfl rfl (by kernel_rfl) (fun _ _ _ h => h) (Or.inr ⟨by rfl, rfl⟩) ?_ ?_
              rotate_left
              · simp only [Act.put, List.setIfInBounds_toArray, List.set_cons_zero, List.set_cons_succ, i64_w, i32_w]
                rfl
              refine pure_ (i := 14) (N := some 87) (v := undef) (a' := ?_) #[true, true, true, true, true, true, true, true, true, true, true, true, true, true, true, false, false, false] rfl rfl (by kernel_rfl) (fun _ _ _ h => h) (Or.inr ⟨by rfl, rfl⟩) ?_ ?_
              rotate_left
              · simp only [Act.put, List.setIfInBounds_toArray, List.set_cons_zero, List.set_cons_succ, i64_w, i32_w]
                rfl
              refine pure_ (i := 15) (N := some 88) (v := undef) (a' := ?_) #[true, true, true, true, true, true, true, true, true, true, true, true, true, true, true, true, false, false] rfl rfl (by kernel_rfl) (fun _ _ _ h => h) (Or.inr ⟨by rfl, rfl⟩) ?_ ?_
              rotate_left
              · simp only [Act.put, List.setIfInBounds_toArray, List.set_cons_zero, List.set_cons_succ, i64_w, i32_w]
                rfl
              refine pure_ (i := 16) (N := some 89) (v := undef) (a' := ?_) #[true, true, true, true, true, true, true, true, true, true, true, true, true, true, true, true, true, false] rfl rfl (by kernel_rfl) (fun _ _ _ h => h) (Or.inr ⟨by rfl, rfl⟩) ?_ ?_
              rotate_left
              · simp only [Act.put, List.setIfInBounds_toArray, List.set_cons_zero, List.set_cons_succ, i64_w, i32_w]
                rfl
              refine pure_ (i := 17) (N := some 90) (v := ?_) (a' := ?_) #[true, true, true, true, true, true, true, true, true, true, true, true, true, true, true, true, true, true] rfl rfl (by kernel_rfl) (fun _ _ _ h => h) (Or.inl ⟨by rfl, ?_⟩) ?_ ?_
              rotate_left
              · intro w'
                go_simp
                with_reducible rfl
              rotate_left
              · simp only [Act.put, List.setIfInBounds_toArray, List.set_cons_zero, List.set_cons_succ, i64_w, i32_w]
                rfl
              refine done_ (by kernel_rfl) ?_

              clear hHeld
              have HS1 := Aside0.mk HS1.out.drew
              have HB1 := Aside0.mk HB1.out.drew
              go_wp2
              refine start_ (n := 12) (S := fun w' => w'.cell? ⟨g, 1, none⟩ = some (.slice (some ⟨bh, 0, none⟩) s1.h.length s1.h.length) ∧ w'.cell? ⟨bx, 1, none⟩ = some (.int .i64 sv.f1) ∧ w'.cell? ⟨bh, k * 3, none⟩ = some (.int .i64 (ho s1.h k).f0) ∧ w'.cell? ⟨bh, k * 3 + 1, none⟩ = some (.int .i64 (ho s1.h k).f1) ∧ w'.cell? ⟨bh, k * 3 + 2, none⟩ = some (.int .i64 (ho s1.h k).f2) ∧ w'.frozen? ⟨bh, k * 3, none⟩ = false ∧ w'.frozen? ⟨bh, k * 3 + 1, none⟩ = false ∧ w'.frozen? ⟨bh, k * 3 + 2, none⟩ = false) (ds := [11]) #[false, false, false, false, false, false, false, false, false, false, false, false] (by kernel_rfl) rfl rfl ⟨HS1.out.drew.cH, (HB1.out.drew.cell (by omega)), (HS1.out.drew.c0 hih), (HS1.out.drew.c1 hih), (HS1.out.drew.c2 hih), (HS1.out.drew.hs.frozen (k * 3)), (HS1.out.drew.hs.frozen (k * 3 + 1)), (HS1.out.drew.hs.frozen (k * 3 + 2))⟩ (fun hHeld => ?_)
              refine pure_ (i := 0) (N := some 135) (v := ?_) (a' := ?_) #[true, false, false, false, false, false, false, false, false, false, false, false] rfl rfl (by kernel_rfl) (fun _ _ _ h => h) (Or.inl ⟨by rfl, ?_⟩) ?_ ?_
              rotate_left
              · intro w'
                go_simp
                with_reducible rfl
              rotate_left
              · simp only [Act.put, List.setIfInBounds_toArray, List.set_cons_zero, List.set_cons_succ, i64_w, i32_w]
                rfl
              refine pure_ (i := 1) (N := some 136) (v := ?_) (a' := ?_) #[true, true, false, false, false, false, false, false, false, false, false, false] rfl rfl (by kernel_rfl) (fun _ _ _ h => h) (Or.inl ⟨by rfl, ?_⟩) ?_ ?_
              rotate_left
              · intro w'
                go_simp
                with_reducible rfl
              rotate_left
              · simp only [Act.put, List.setIfInBounds_toArray, List.set_cons_zero, List.set_cons_succ, i64_w, i32_w]
                rfl
              refine pure_ (i := 2) (N := some 137) (v := ?_) (a' := ?_) #[true, true, true, false, false, false, false, false, false, false, false, false] rfl rfl (by kernel_rfl) (fun _ _ _ h => h) (Or.inl ⟨by rfl, ?_⟩) ?_ ?_
              rotate_left
              · intro w'
                go_simp
                with_reducible rfl
              rotate_left
              · simp only [Act.put, List.setIfInBounds_toArray, List.set_cons_zero, List.set_cons_succ, i64_w, i32_w]
                rfl
              refine pure_ (i := 4) (N := some 139) (v := ?_) (a' := ?_) #[true, true, true, false, true, false, false, false, false, false, false, false] rfl rfl (by kernel_rfl) (fun _ _ _ h => h) (Or.inl ⟨by rfl, ?_⟩) ?_ ?_
              rotate_left
              · intro w'
                go_simp
                with_reducible rfl
              rotate_left
              · simp only [Act.put, List.setIfInBounds_toArray, List.set_cons_zero, List.set_cons_succ, i64_w, i32_w]
                rfl
              refine pure_ (i := 5) (N := some 140) (v := ?_) (a' := ?_) #[true, true, true, false, true, true, false, false, false, false, false, false] rfl rfl (by kernel_rfl) (fun _ _ _ h => h) (Or.inl ⟨by rfl, ?_⟩) ?_ ?_
              rotate_left
              · intro w'
                go_simp
                with_reducible rfl
              rotate_left
              · simp only [Act.put, List.setIfInBounds_toArray, List.set_cons_zero, List.set_cons_succ, i64_w, i32_w]
                rfl
              refine pure_ (i := 7) (N := some 142) (v := ?_) (a' := ?_) #[true, true, true, false, true, true, false, true, false, false, false, false] rfl rfl (by kernel_rfl) (fun _ _ _ h => h) (Or.inl ⟨by rfl, ?_⟩) ?_ ?_
              rotate_left
              · intro w'
                go_simp
                with_reducible rfl
              rotate_left
              · simp only [Act.put, List.setIfInBounds_toArray, List.set_cons_zero, List.set_cons_succ, i64_w, i32_w]
                rfl
              refine take_ (i := 3) (N := some 138) (v := ?_) (a' := ?_) #[true, true, true, true, true, true, false, true, false, false, false, false] rfl rfl (by kernel_rfl) (fun _ _ _ h => h) (Or.inl ⟨by rfl, ?_⟩) hHeld ?_ ?_
              rotate_left
              · rintro w' ⟨s0, s1, s2, s3, s4, s5, s6, s7⟩
                go_simp
                with_reducible rfl
              rotate_left
              · simp only [Act.put, List.setIfInBounds_toArray, List.set_cons_zero, List.set_cons_succ, i64_w, i32_w]
                rfl
              refine take_ (i := 8) (N := some 143) (v := ?_) (a' := ?_) #[true, true, true, true, true, true, false, true, true, false, false, false] rfl rfl (by kernel_rfl) (fun _ _ _ h => h) (Or.inl ⟨by rfl, ?_⟩) hHeld ?_ ?_
              rotate_left
              · rintro w' ⟨s0, s1, s2, s3, s4, s5, s6, s7⟩
                go_simp
                with_reducible rfl
              rotate_left
              · simp only [Act.put, List.setIfInBounds_toArray, List.set_cons_zero, List.set_cons_succ, i64_w, i32_w]
                rfl
              refine one_ (i := 6) (N := some 141) #[true, true, true, true, true, true, true, true, true, false, false, false] rfl rfl (by kernel_rfl) (by decide) (fun K hK => ?_)
              refine goes_ Tryz.func16 (by kernel_rfl) rfl #[.pointer (some ⟨g, 0, none⟩)] (by rfl) rfl rfl (by simp only [List.map_toArray, List.map_cons, List.map_nil]; rfl) ?_
              with_reducible refine (slot_calls _ w _ g bh _ s1 _ HS1.out.drew.base hn1).mono ?_
              rintro e w4 ⟨rfl, hS4⟩
              have HS4 := Aside0.mk hS4
              have HB4 := Aside0.mk (hS4.kp _ _ _ HB1.out.drew)
              clear hS4
              refine ⟨_, rfl, ?_⟩
              refine hK.out _ _ ⟨HS4.out.cH, (HB4.out.cell (by omega)), (HS4.out.c0 hih), (HS4.out.c1 hih), (HS4.out.c2 hih), (HS4.out.hs.frozen (k * 3)), (HS4.out.hs.frozen (k * 3 + 1)), (HS4.out.hs.frozen (k * 3 + 2))⟩ (fun hHeld => ?_)
              clear hK K
              refine norm_ (a' := ?_) ?_ ?_
              rotate_left
              · show Act.put _ (some 141) _ = _
                simp only [Act.put, List.setIfInBounds_toArray, List.set_cons_zero, List.set_cons_succ, i64_w, i32_w]
                rfl
              refine pure_ (i := 9) (N := some 144) (v := ?_) (a' := ?_) #[true, true, true, true, true, true, true, true, true, true, false, false] rfl rfl (by kernel_rfl) (fun _ _ _ h => h) (Or.inl ⟨by rfl, ?_⟩) ?_ ?_
              rotate_left
              · intro w'
                go_simp
                with_reducible rfl
              rotate_left
              · simp only [Act.put, List.setIfInBounds_toArray, List.set_cons_zero, List.set_cons_succ, i64_w, i32_w]
                rfl
              refine pure_ (i := 10) (N := some 145) (v := ?_) (a' := ?_) #[true, true, true, true, true, true, true, true, true, true, true, false] rfl rfl (by kernel_rfl) (fun _ _ _ h => h) (Or.inl ⟨by rfl, ?_⟩) ?_ ?_
              rotate_left
              · intro w'
                go_simp
                with_reducible rfl
              rotate_left
              · simp only [Act.put, List.setIfInBounds_toArray, List.set_cons_zero, List.set_cons_succ, i64_w, i32_w]
                rfl
              refine last_ (i := 11) (N := none) #[true, true, true, true, true, true, true, true, true, true, true, true] rfl rfl (by kernel_rfl) (by decide) (fun K hK => ?_)
              refine skip_ (w1 := ?_) (by rfl) rfl ?_ ?_
              rotate_left
              · go_simp
                rfl
              refine hK.out _ _ ?_
              clear hK K
              refine done_ (by kernel_rfl) ?_

              go_wp2
              clear hHeld
              have HS6 := Aside0.mk (HS4.out.setHome (i := k) hih ⟨-1, (s1.n : Int), sv.f1⟩)
              have E6 := Aside0.mk (show ({ s1 with n := s1.n + 1, h := s1.h.set k ⟨-1, (s1.n : Int), sv.f1⟩ } : Sc) = upto l regs (k + 1) by rw [HQ.out, ES.out]; rfl)
              go_roundw
              case rel => exact ⟨k + 1, by omega, by go_num, ⟨_, by have := HS6.out; dsimp only at this; rw [E6.out] at this; exact this.base⟩⟩
              case measure => simp [intOf]; omega
      · obtain rfl : k = l.length := by omega
        obtain ⟨sf, esf⟩ : ∃ sf, sf = upto l regs l.length := ⟨_, rfl⟩
        rw [← esf] at HS
        have HSF := HS
        have hG : assignG l regs = (sf.h, (sf.n : Int), 0) := by rw [esf]; exact if_neg (by rintro (h | h | h); omega; omega; rw [G3.out] at h; cases h)
        have hfl : sf.h.length = l.length := by
          obtain ⟨c, _, hI⟩ := upto_inv hord g1 g2 l.length (Nat.le_refl _)
          rw [esf]; exact hI.hl
        have HG := Aside0.mk hG
        have x1 := HSF.out.cH
        have x67 := HSF.out.cN
        clear esf hG HS
        go_wp2
        refine start_ (n := 11) (S := fun w' => w'.cell? ⟨g, 1, none⟩ = some (.slice (some ⟨bh, 0, none⟩) sf.h.length sf.h.length) ∧ w'.cell? ⟨g, 67, none⟩ = some (.int .i64 sf.n)) (ds := []) #[false, false, false, false, false, false, false, false, false, false, false] (by kernel_rfl) rfl rfl ⟨HSF.out.drew.cH, HSF.out.drew.cN⟩ (fun hHeld => ?_)
        refine pure_ (i := 0) (N := some 147) (v := ?_) (a' := ?_) #[true, false, false, false, false, false, false, false, false, false, false] rfl rfl (by kernel_rfl) (fun _ _ _ h => h) (Or.inl ⟨by rfl, ?_⟩) ?_ ?_
        rotate_left
        · intro w'
          go_simp
          with_reducible rfl
        rotate_left
        · simp only [Act.put, List.setIfInBounds_toArray, List.set_cons_zero, List.set_cons_succ, i64_w, i32_w]
          rfl
        refine pure_ (i := 1) (N := some 148) (v := ?_) (a' := ?_) #[true, true, false, false, false, false, false, false, false, false, false] rfl rfl (by kernel_rfl) (fun _ _ _ h => h) (Or.inl ⟨by rfl, ?_⟩) ?_ ?_
        rotate_left
        · intro w'
          go_simp
          with_reducible rfl
        rotate_left
        · simp only [Act.put, List.setIfInBounds_toArray, List.set_cons_zero, List.set_cons_succ, i64_w, i32_w]
          rfl
        refine pure_ (i := 2) (N := some 149) (v := ?_) (a' := ?_) #[true, true, true, false, false, false, false, false, false, false, false] rfl rfl (by kernel_rfl) (fun _ _ _ h => h) (Or.inl ⟨by rfl, ?_⟩) ?_ ?_
        rotate_left
        · intro w'
          go_simp
          with_reducible rfl
        rotate_left
        · simp only [Act.put, List.setIfInBounds_toArray, List.set_cons_zero, List.set_cons_succ, i64_w, i32_w]
          rfl
        refine pure_ (i := 4) (N := some 151) (v := ?_) (a' := ?_) #[true, true, true, false, true, false, false, false, false, false, false] rfl rfl (by kernel_rfl) (fun _ _ _ h => h) (Or.inl ⟨by rfl, ?_⟩) ?_ ?_
        rotate_left
        · intro w'
          go_simp
          with_reducible rfl
        rotate_left
        · simp only [Act.put, List.setIfInBounds_toArray, List.set_cons_zero, List.set_cons_succ, i64_w, i32_w]
          rfl
        refine pure_ (i := 5) (N := some 152) (v := ?_) (a' := ?_) #[true, true, true, false, true, true, false, false, false, false, false] rfl rfl (by kernel_rfl) (fun _ _ _ h => h) (Or.inl ⟨by rfl, ?_⟩) ?_ ?_
        rotate_left
        · intro w'
          go_simp
          with_reducible rfl
        rotate_left
        · simp only [Act.put, List.setIfInBounds_toArray, List.set_cons_zero, List.set_cons_succ, i64_w, i32_w]
          rfl
        refine pure_ (i := 6) (N := some 153) (v := ?_) (a' := ?_) #[true, true, true, false, true, true, true, false, false, false, false] rfl rfl (by kernel_rfl) (fun _ _ _ h => h) (Or.inl ⟨by rfl, ?_⟩) ?_ ?_
        rotate_left
        · intro w'
          go_simp
          with_reducible rfl
        rotate_left
        · simp only [Act.put, List.setIfInBounds_toArray, List.set_cons_zero, List.set_cons_succ, i64_w, i32_w]
          rfl
        refine take_ (i := 3) (N := some 150) (v := ?_) (a' := ?_) #[true, true, true, true, true, true, true, false, false, false, false] rfl rfl (by kernel_rfl) (fun _ _ _ h => h) (Or.inl ⟨by rfl, ?_⟩) hHeld ?_ ?_
        rotate_left
        · rintro w' ⟨s0, s1⟩
          go_simp
          with_reducible rfl
        rotate_left
        · simp only [Act.put, List.setIfInBounds_toArray, List.set_cons_zero, List.set_cons_succ, i64_w, i32_w]
          rfl
        refine pure_ (i := 8) (N := some 4) (v := ?_) (a' := ?_) #[true, true, true, true, true, true, true, false, true, false, false] rfl rfl (by kernel_rfl) (fun _ _ _ h => h) (Or.inl ⟨by rfl, ?_⟩) ?_ ?_
        rotate_left
        · intro w'
          go_simp
          with_reducible rfl
        rotate_left
        · simp only [Act.put, List.setIfInBounds_toArray, List.set_cons_zero, List.set_cons_succ, i64_w, i32_w]
          rfl
        refine take_ (i := 7) (N := some 154) (v := ?_) (a' := ?_) #[true, true, true, true, true, true, true, true, true, false, false] rfl rfl (by kernel_rfl) (fun _ _ _ h => h) (Or.inl ⟨by rfl, ?_⟩) hHeld ?_ ?_
        rotate_left
        · rintro w' ⟨s0, s1⟩
          go_simp
          with_reducible rfl
        rotate_left
        · simp only [Act.put, List.setIfInBounds_toArray, List.set_cons_zero, List.set_cons_succ, i64_w, i32_w]
          rfl
        refine pure_ (i := 9) (N := some 5) (v := ?_) (a' := ?_) #[true, true, true, true, true, true, true, true, true, true, false] rfl rfl (by kernel_rfl) (fun _ _ _ h => h) (Or.inl ⟨by rfl, ?_⟩) ?_ ?_
        rotate_left
        · intro w'
          go_simp
          with_reducible rfl
        rotate_left
        · simp only [Act.put, List.setIfInBounds_toArray, List.set_cons_zero, List.set_cons_succ, i64_w, i32_w]
          rfl
        refine pure_ (i := 10) (N := some 6) (v := ?_) (a' := ?_) #[true, true, true, true, true, true, true, true, true, true, true] rfl rfl (by kernel_rfl) (fun _ _ _ h => h) (Or.inl ⟨by rfl, ?_⟩) ?_ ?_
        rotate_left
        · intro w'
          go_simp
          with_reducible rfl
        rotate_left
        · simp only [Act.put, List.setIfInBounds_toArray, List.set_cons_zero, List.set_cons_succ, i64_w, i32_w]
          rfl
        refine done_ (by kernel_rfl) ?_

        clear hHeld
        go_wp2
        go_ret3
        rw [HG.out]
        exact ⟨.slice (some ⟨bh, 0, none⟩) l.length l.length, rfl, by have h9 := (HSF.out.drew).outR (by omega); rw [hfl] at h9; exact h9, HSF.out.drew.fr⟩
end Go.Proofs.YtcmbpboeilojmaaGreat.Sw
