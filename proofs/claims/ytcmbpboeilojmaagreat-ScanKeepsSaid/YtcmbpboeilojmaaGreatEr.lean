/- The walk of enter. -/
import Derived.Test.YtcmbpboeilojmaaGreatIn
import Derived.Test.YtcmbpboeilojmaaGreatLe
import Derived.Test.YtcmbpboeilojmaaGreatBs
import Derived.Shelf.SlCmpFuncs.None
namespace Go.Proofs.YtcmbpboeilojmaaGreat.Sw
open Go Go.RowKit Go.Shelf Go.Proofs.YtcmbpboeilojmaaGreatW.PrintWords Go.Proofs.YtcmbpboeilojmaaGreatW.PrintLast Go.Proofs.YtcmbpboeilojmaaGreatW.PrintMore Go.Proofs.YtcmbpboeilojmaaGreat.F Go.Proofs.YtcmbpboeilojmaaGreat.Scan
set_option linter.unusedVariables false
set_option linter.unusedSimpArgs false

theorem ActIs.setCells {w : World} {B : Nat} {v : Value} {a : List Nat} (h : ActIs w B v a) {c t n : Nat} {q : Nat → Value} (hc : w.rowIs c t n q) (ht : t ≠ 3) (o : Nat) (vs : List Value) : ActIs (w.setCells c o vs) B v a := by
  rcases h with h | ⟨b, off, cap, N, f, h1, h2, h3⟩
  · exact .inl h
  · exact .inr ⟨b, off, cap, N, f, h1, rowIs_setCells_far h2 (rowIs_ne h2 hc (fun e => ht e.symm)) _ _, h3⟩
theorem St.setHome {wk w0 w : World} {g bh : Nat} {L : Value} {s : Sc} {av : Value} (h : St wk w0 w g bh L s av) {i : Nat} (hi : i < s.h.length) (x : S48) :
    St wk w0 (w.setCells bh (i * 3) [.int .i64 x.f0, .int .i64 x.f1, .int .i64 x.f2]) g bh L { s with h := s.h.set i x } av := by
  refine ⟨?_, ?_, h.ac.setCells h.hs (by decide) _ _, h.gb, h.bb, h.tl, below_setCells h.fr h.bb _ _, fun b n f k => rowIs_setCells_far (h.kp b n f k) (rowIs_ne (h.kp b n f k) h.hs (by decide)) _ _⟩
  · show (w.setCells bh (i * 3) _).rowIs g 42 68 (scF L (.slice (some ⟨bh, 0, none⟩) (s.h.set i x).length (s.h.set i x).length) av s.tk s.n)
    rw [List.length_set]
    exact rowIs_setCells_far h.gs (rowIs_ne h.gs h.hs (by decide)) _ _
  · show (w.setCells bh (i * 3) _).rowIs bh 48 ((s.h.set i x).length * 3) (hoF (s.h.set i x))
    rw [List.length_set]
    refine (rowIs_setCells _ _ h.hs).congr fun j hj => ?_
    simp only [List.length_cons, List.length_nil]
    unfold hoF
    rw [ho_set hi]
    by_cases e : j / 3 = i
    · rw [if_pos (by omega), if_pos e]
      rcases (by omega : j % 3 = 0 ∨ j % 3 = 1 ∨ j % 3 = 2) with h0 | h0 | h0
      · rw [if_pos h0, show j - i * 3 = 0 by omega]; rfl
      · rw [if_neg (by omega), if_pos h0, show j - i * 3 = 1 by omega]; rfl
      · rw [if_neg (by omega), if_neg (by omega), show j - i * 3 = 2 by omega]; rfl
    · rw [if_neg (by omega), if_neg e]
/-- the search, over whatever row. -/
theorem search_act (w : World) (B g bx c0 : Nat) (l : List S36) (ad : Addr) (av : Value) (a : List Nat) (tv : Int) (h : ActIs w B av a) (hr : Kd.C k36 w (some ad) l.length l) (hl0 : 0 < l.length) (hal : a.length ≤ 1000000)
    (ha : ∀ x ∈ a, x < l.length) (hs : a.Pairwise (fun j k => (sp l j).f2 ≤ (sp l k).f2))
    (hb : w.cell? ⟨bx, 0, none⟩ = some (.pointer (some ⟨g, 0, none⟩))) (hL : w.cell? ⟨g, 0, none⟩ = some (.slice (some ad) l.length c0)) (hne : ∀ b off n c, av = .slice (some ⟨b, off, none⟩) n c → bx ≠ b ∧ g ≠ b ∧ ad.block ≠ b) :
    Calls Tryz.prog 26 #[av, .int .i64 tv, .func (.func 27) #[] #[.pointer (some ⟨bx, 0, none⟩)]] w fun e w' => (∃ q, e = .returned (.tuple #[.int .i64 ((a.takeWhile (Scan.early l tv)).length : Nat), .bool q])) ∧ Below w.heap.size w w' := by
  rcases h with ⟨rfl, rfl⟩ | ⟨b, off, cap, N, f, rfl, h4, h5, h6, h7, h8, h9⟩
  · refine (Any.slices_BinarySearchFunc_none (P := Tryz.prog) (ρ := Tryz.laysSearch_ren) Tryz.laysSearch none 0 _ _ w).mono ?_
    rintro e w' ⟨rfl, rfl⟩
    exact ⟨⟨false, rfl⟩, Below.refl _ _⟩
  · obtain ⟨n1, n2, n3⟩ := hne _ _ _ _ rfl
    exact search_calls w g bx c0 cap l ad b off N f a tv hr hl0 h4 h6 h7 hal h9 ha hs hb hL n1 n2 n3
theorem take_tw {α : Type} (p : α → Bool) : ∀ a : List α, a.take (a.takeWhile p).length = a.takeWhile p ∧ a.drop (a.takeWhile p).length = a.dropWhile p := by
  intro a
  induction a with
  | nil => exact ⟨rfl, rfl⟩
  | cons x r ih =>
    by_cases e : p x = true
    · rw [List.takeWhile_cons, if_pos e, List.dropWhile_cons, if_pos e, List.length_cons, List.take_succ_cons, List.drop_succ_cons, ih.1, ih.2]; exact ⟨rfl, rfl⟩
    · rw [List.takeWhile_cons, if_neg e, List.dropWhile_cons, if_neg e]; exact ⟨rfl, rfl⟩
theorem St.framed {wk w0 w w' : World} {g bh : Nat} {L : Value} {s : Sc} {av av' : Value} {a : List Nat} (h : St wk w0 w g bh L s av) (hF : Frame w0.heap.size w w') (hA : ActIs w' w0.heap.size av' a) : St wk w0 (w'.setCell ⟨g, 66, none⟩ av') g bh L { s with act := a } av' := by
  have hg := hF.2 _ _ _ _ (by decide) h.gs
  have hh := hF.2 _ _ _ _ (by decide) h.hs
  refine ⟨(hg.set 66 _).congr fun i hi => ?_, hh.setOther (rowIs_ne hh hg (by decide)) _, hA.set hg (by decide) _ _, h.gb, h.bb, h.tl, (hF.1 _ h.fr).setCell h.gb _, fun b n f k => (hF.2 _ _ _ _ (by decide) (h.kp b n f k)).setOther (rowIs_ne (hF.2 _ _ _ _ (by decide) (h.kp b n f k)) hg (by decide)) _⟩
  unfold scF
  by_cases e : i = 66
  · subst e; rfl
  · rw [if_neg e]
    by_cases e0 : i = 0
    · rw [if_pos e0, if_pos e0]
    · rw [if_neg e0, if_neg e0]
      by_cases e1 : i = 1
      · rw [if_pos e1, if_pos e1]
      · rw [if_neg e1, if_neg e1]
        by_cases e2 : i < 66
        · rw [if_pos e2, if_pos e2]
        · rw [if_neg e2, if_neg e2, if_neg (by omega), if_neg (by omega)]
section
variable {P : Program} {ops : Array Oper} {o : Oper} {a : Act} {Q : Exit → Act → World → Prop} {Kc : Act → World → Prop}
theorem lit1_step {W : World} {x : Nat} {e : Nat} (hw : Region.wanted o (yielded ops a.tmps) = true)
    (hrun : (execOp a.eval o).run P W = .ok (.value (.slice (some ⟨W.heap.size, 0, none⟩) 1 1)) (W.alloc (.cells #[.int .i64 x] e)))
    (h : ∀ nb w1, w1.heap[nb]? = some (.cells #[.int .i64 x] e (0, 0)) → W.heap.size ≤ nb → Below W.heap.size W w1 → Kc (a.put o.dst (.slice (some ⟨nb, 0, none⟩) 1 1)) w1) : if Region.wanted o (yielded ops a.tmps) = true then Oper.wp P o a W Kc Q else Kc (a.put o.dst undef) W :=
  event_step hw hrun (h _ _ (blk_new _ _) (Nat.le_refl _) (below_alloc (Below.refl _ _) _))
end
set_option maxHeartbeats 1000000 in
set_option maxRecDepth 100000 in
theorem enter_calls (wk w0 w : World) (g bh : Nat) (ad : Addr) (c0 : Nat) (l : List S36) (s : Sc) (av : Value) (i reg : Nat) (hr0 : Kd.C k36 w0 (some ad) l.length l) (h : St wk w0 w g bh (.slice (some ad) l.length c0) s av)
    (hll : s.h.length = l.length) (hi : i < l.length) (hreg : reg < 64) (ha : ∀ a ∈ s.act, a < l.length) (hal : s.act.length ≤ 1000000) (hs : s.act.Pairwise (fun j k => (sp l j).f2 ≤ (sp l k).f2)) (hto : (sp l i).f2 ≤ 1099511627776 ∧ -1 ≤ (sp l i).f2) :
    Calls Tryz.prog 14 #[.pointer (some ⟨g, 0, none⟩), .int .i64 i, .int .i64 reg] w fun e w' => e = .returned (.tuple #[]) ∧ ∃ av', St wk w0 w' g bh (.slice (some ad) l.length c0) (enterP l i reg s) av' := by
  have HR0 := Aside0.mk hr0
  have H := Aside0.mk h
  have HA := Aside0.mk ha
  clear hr0 h ha
  go_enter Tryz.func14, Tryz.ntmps14
  go_wp2
  obtain ⟨bx, eb⟩ : ∃ bx, bx = w.heap.size := ⟨_, rfl⟩
  obtain ⟨w1, ew⟩ : ∃ w1, w1 = w.alloc (.cells #[.pointer (some ⟨g, 0, none⟩)] 39) := ⟨_, rfl⟩
  have HS := Aside0.mk (show St wk w0 w1 g bh (.slice (some ad) l.length c0) s av by rw [ew]; exact H.out.below (below_alloc (Below.refl _ _) _))
  have hbx : w1.heap[bx]? = some (.cells #[.pointer (some ⟨g, 0, none⟩)] 39 (0, 0)) := by rw [ew, eb]; exact blk_new _ _
  rw [← eb, ← ew]
  have HBX := Aside0.mk (show w1.rowIs bx 39 1 (fun _ => .pointer (some ⟨g, 0, none⟩)) from ⟨_, hbx, rfl, fun q hq => by
    have hq' : q < 1 := hq
    obtain rfl : q = 0 := by omega
    rfl⟩)
  have xb : w1.cell? ⟨bx, 0, none⟩ = some (.pointer (some ⟨g, 0, none⟩)) := (blk_cell hbx 0).trans rfl
  clear eb ew hbx H
  have p1 : (0 : Int) ≤ (i : Int) := by omega
  have q1 : (i : Int) < l.length := by omega
  obtain ⟨ad', e', _, _, xt⟩ := at_T36 (Kd.C_below HR0.out HS.out.fr) (i : Int) p1 q1
  cases e'
  simp only [Int.toNat_natCast] at xt
  have hih : i < s.h.length := by rw [hll]; exact hi
  have x0 := HS.out.cL
  have x1 := HS.out.cH
  have z0 := HS.out.c0 hih
  have z1 := HS.out.c1 hih
  have z2 := HS.out.c2 hih
  have f0 := HS.out.hs.frozen (i * 3)
  have f1 := HS.out.hs.frozen (i * 3 + 1)
  have f2 := HS.out.hs.frozen (i * 3 + 2)
  have q2 : (i : Int) < s.h.length := by omega
  refine start_ (n := 18) (S := fun w' => St wk w0 w' g bh (.slice (some ad) l.length c0) s av ∧ w'.cell? ⟨bx, 0, none⟩ = some (.pointer (some ⟨g, 0, none⟩)) ∧ w'.cell? ⟨g, 1, none⟩ = some (.slice (some ⟨bh, 0, none⟩) s.h.length s.h.length) ∧ w'.cell? ⟨g, 0, none⟩ = some (.slice (some ad) l.length c0) ∧ w'.cell? ⟨(ad.add (i * 3)).block, (ad.add (i * 3)).off + 2, none⟩ = some (.int .i64 (rd_T36 l (i : Nat)).f2) ∧ w'.cell? ⟨bh, i * 3, none⟩ = some (.int .i64 (ho s.h i).f0) ∧ w'.cell? ⟨bh, i * 3 + 1, none⟩ = some (.int .i64 (ho s.h i).f1) ∧ w'.cell? ⟨bh, i * 3 + 2, none⟩ = some (.int .i64 (ho s.h i).f2) ∧ w'.frozen? ⟨bh, i * 3, none⟩ = false ∧ w'.frozen? ⟨bh, i * 3 + 1, none⟩ = false ∧ w'.frozen? ⟨bh, i * 3 + 2, none⟩ = false) (ds := [17]) #[false, false, false, false, false, false, false, false, false, false, false, false, false, false, false, false, false, false] (by kernel_rfl) rfl rfl ⟨(HS.out.drew), (pw_cell_below (below_drew (Below.refl _ _)) xb), (pw_cell_below (below_drew (Below.refl _ _)) x1), (pw_cell_below (below_drew (Below.refl _ _)) x0), (pw_cell_below (below_drew (Below.refl _ _)) xt), (pw_cell_below (below_drew (Below.refl _ _)) z0), (pw_cell_below (below_drew (Below.refl _ _)) z1), (pw_cell_below (below_drew (Below.refl _ _)) z2), f0, f1, f2⟩ (fun hHeld => ?_)
  refine pure_ (i := 4) (N := some 12) (v := ?_) (a' := ?_) #[false, false, false, false, true, false, false, false, false, false, false, false, false, false, false, false, false, false] rfl rfl (by kernel_rfl) (fun _ _ _ h => h) (Or.inl ⟨by rfl, ?_⟩) ?_ ?_
  rotate_left
  · intro w'
    go_simp
    with_reducible rfl
  rotate_left
  · simp only [Act.put, List.setIfInBounds_toArray, List.set_cons_zero, List.set_cons_succ, i64_w, i32_w]
    rfl
  refine pure_ (i := 5) (N := some 13) (v := ?_) (a' := ?_) #[false, false, false, false, true, true, false, false, false, false, false, false, false, false, false, false, false, false] rfl rfl (by kernel_rfl) (fun _ _ _ h => h) (Or.inl ⟨by rfl, ?_⟩) ?_ ?_
  rotate_left
  · intro w'
    go_simp
    with_reducible rfl
  rotate_left
  · simp only [Act.put, List.setIfInBounds_toArray, List.set_cons_zero, List.set_cons_succ, i64_w, i32_w]
    rfl
  refine pure_ (i := 10) (N := some 18) (v := ?_) (a' := ?_) #[false, false, false, false, true, true, false, false, false, false, true, false, false, false, false, false, false, false] rfl rfl (by kernel_rfl) (fun _ _ _ h => h) (Or.inl ⟨by rfl, ?_⟩) ?_ ?_
  rotate_left
  · intro w'
    go_simp
    with_reducible rfl
  rotate_left
  · simp only [Act.put, List.setIfInBounds_toArray, List.set_cons_zero, List.set_cons_succ, i64_w, i32_w]
    rfl
  refine take_ (i := 0) (N := some 8) (v := ?_) (a' := ?_) #[true, false, false, false, true, true, false, false, false, false, true, false, false, false, false, false, false, false] rfl rfl (by kernel_rfl) (fun _ _ _ h => h) (Or.inl ⟨by rfl, ?_⟩) hHeld ?_ ?_
  rotate_left
  · rintro w' ⟨s0, s1, s2, s3, s4, s5, s6, s7, s8, s9, s10⟩
    go_simp
    with_reducible rfl
  rotate_left
  · simp only [Act.put, List.setIfInBounds_toArray, List.set_cons_zero, List.set_cons_succ, i64_w, i32_w]
    rfl
  refine pure_ (i := 1) (N := some 9) (v := ?_) (a' := ?_) #[true, true, false, false, true, true, false, false, false, false, true, false, false, false, false, false, false, false] rfl rfl (by kernel_rfl) (fun _ _ _ h => h) (Or.inl ⟨by rfl, ?_⟩) ?_ ?_
  rotate_left
  · intro w'
    go_simp
    with_reducible rfl
  rotate_left
  · simp only [Act.put, List.setIfInBounds_toArray, List.set_cons_zero, List.set_cons_succ, i64_w, i32_w]
    rfl
  refine pure_ (i := 2) (N := some 10) (v := ?_) (a' := ?_) #[true, true, true, false, true, true, false, false, false, false, true, false, false, false, false, false, false, false] rfl rfl (by kernel_rfl) (fun _ _ _ h => h) (Or.inl ⟨by rfl, ?_⟩) ?_ ?_
  rotate_left
  · intro w'
    go_simp
    with_reducible rfl
  rotate_left
  · simp only [Act.put, List.setIfInBounds_toArray, List.set_cons_zero, List.set_cons_succ, i64_w, i32_w]
    rfl
  refine take_ (i := 3) (N := some 11) (v := ?_) (a' := ?_) #[true, true, true, true, true, true, false, false, false, false, true, false, false, false, false, false, false, false] rfl rfl (by kernel_rfl) (fun _ _ _ h => h) (Or.inl ⟨by rfl, ?_⟩) hHeld ?_ ?_
  rotate_left
  · rintro w' ⟨s0, s1, s2, s3, s4, s5, s6, s7, s8, s9, s10⟩
    go_simp
    with_reducible rfl
  rotate_left
  · simp only [Act.put, List.setIfInBounds_toArray, List.set_cons_zero, List.set_cons_succ, i64_w, i32_w]
    rfl
  refine take_ (i := 6) (N := some 14) (v := ?_) (a' := ?_) #[true, true, true, true, true, true, true, false, false, false, true, false, false, false, false, false, false, false] rfl rfl (by kernel_rfl) (fun _ _ _ h => h) (Or.inl ⟨by rfl, ?_⟩) hHeld ?_ ?_
  rotate_left
  · rintro w' ⟨s0, s1, s2, s3, s4, s5, s6, s7, s8, s9, s10⟩
    go_simp
    with_reducible rfl
  rotate_left
  · simp only [Act.put, List.setIfInBounds_toArray, List.set_cons_zero, List.set_cons_succ, i64_w, i32_w]
    rfl
  refine pure_ (i := 7) (N := some 15) (v := ?_) (a' := ?_) #[true, true, true, true, true, true, true, true, false, false, true, false, false, false, false, false, false, false] rfl rfl (by kernel_rfl) (fun _ _ _ h => h) (Or.inl ⟨by rfl, ?_⟩) ?_ ?_
  rotate_left
  · intro w'
    go_simp
    with_reducible rfl
  rotate_left
  · simp only [Act.put, List.setIfInBounds_toArray, List.set_cons_zero, List.set_cons_succ, i64_w, i32_w]
    rfl
  refine pure_ (i := 8) (N := some 16) (v := ?_) (a' := ?_) #[true, true, true, true, true, true, true, true, true, false, true, false, false, false, false, false, false, false] rfl rfl (by kernel_rfl) (fun _ _ _ h => h) (Or.inl ⟨by rfl, ?_⟩) ?_ ?_
  rotate_left
  · intro w'
    go_simp
    with_reducible rfl
  rotate_left
  · simp only [Act.put, List.setIfInBounds_toArray, List.set_cons_zero, List.set_cons_succ, i64_w, i32_w]
    rfl
  refine take_ (i := 9) (N := some 17) (v := ?_) (a' := ?_) #[true, true, true, true, true, true, true, true, true, true, true, false, false, false, false, false, false, false] rfl rfl (by kernel_rfl) (fun _ _ _ h => h) (Or.inl ⟨by rfl, ?_⟩) hHeld ?_ ?_
  rotate_left
  · rintro w' ⟨s0, s1, s2, s3, s4, s5, s6, s7, s8, s9, s10⟩
    go_simp
    with_reducible rfl
  rotate_left
  · simp only [Act.put, List.setIfInBounds_toArray, List.set_cons_zero, List.set_cons_succ, i64_w, i32_w]
    rfl
  refine pure_ (i := 11) (N := some 19) (v := ?_) (a' := ?_) #[true, true, true, true, true, true, true, true, true, true, true, true, false, false, false, false, false, false] rfl rfl (by kernel_rfl) (fun _ _ _ h => h) (Or.inl ⟨by rfl, ?_⟩) ?_ ?_
  rotate_left
  · intro w'
    go_simp
    with_reducible rfl
  rotate_left
  · simp only [Act.put, List.setIfInBounds_toArray, List.set_cons_zero, List.set_cons_succ, i64_w, i32_w]
    rfl
  refine pure_ (i := 12) (N := some 20) (v := ?_) (a' := ?_) #[true, true, true, true, true, true, true, true, true, true, true, true, true, false, false, false, false, false] rfl rfl (by kernel_rfl) (fun _ _ _ h => h) (Or.inl ⟨by rfl, ?_⟩) ?_ ?_
  rotate_left
  · intro w'
    go_simp
    with_reducible rfl
  rotate_left
  · simp only [Act.put, List.setIfInBounds_toArray, List.set_cons_zero, List.set_cons_succ, i64_w, i32_w]
    rfl
  refine take_ (i := 13) (N := some 21) (v := ?_) (a' := ?_) #[true, true, true, true, true, true, true, true, true, true, true, true, true, true, false, false, false, false] rfl rfl (by kernel_rfl) (fun _ _ _ h => h) (Or.inl ⟨by rfl, ?_⟩) hHeld ?_ ?_
  rotate_left
  · rintro w' ⟨s0, s1, s2, s3, s4, s5, s6, s7, s8, s9, s10⟩
    go_simp
    with_reducible rfl
  rotate_left
  · simp only [Act.put, List.setIfInBounds_toArray, List.set_cons_zero, List.set_cons_succ, i64_w, i32_w]
    rfl
  refine pure_ (i := 14) (N := some 22) (v := ?_) (a' := ?_) #[true, true, true, true, true, true, true, true, true, true, true, true, true, true, true, false, false, false] rfl rfl (by kernel_rfl) (fun _ _ _ h => h) (Or.inl ⟨by rfl, ?_⟩) ?_ ?_
  rotate_left
  · intro w'
    go_simp
    with_reducible rfl
  rotate_left
  · simp only [Act.put, List.setIfInBounds_toArray, List.set_cons_zero, List.set_cons_succ, i64_w, i32_w]
    rfl
  refine pure_ (i := 15) (N := some 23) (v := ?_) (a' := ?_) #[true, true, true, true, true, true, true, true, true, true, true, true, true, true, true, true, false, false] rfl rfl (by kernel_rfl) (fun _ _ _ h => h) (Or.inl ⟨by rfl, ?_⟩) ?_ ?_
  rotate_left
  · intro w'
    go_simp
    with_reducible rfl
  rotate_left
  · simp only [Act.put, List.setIfInBounds_toArray, List.set_cons_zero, List.set_cons_succ, i64_w, i32_w]
    rfl
  refine pure_ (i := 16) (N := some 24) (v := ?_) (a' := ?_) #[true, true, true, true, true, true, true, true, true, true, true, true, true, true, true, true, true, false] rfl rfl (by kernel_rfl) (fun _ _ _ h => h) (Or.inl ⟨by rfl, ?_⟩) ?_ ?_
  rotate_left
  · intro w'
    go_simp
    with_reducible rfl
  rotate_left
  · simp only [Act.put, List.setIfInBounds_toArray, List.set_cons_zero, List.set_cons_succ, i64_w, i32_w]
    rfl
  refine last_ (i := 17) (N := none) #[true, true, true, true, true, true, true, true, true, true, true, true, true, true, true, true, true, true] rfl rfl (by kernel_rfl) (by decide) (fun K hK => ?_)
  refine skip_ (w1 := ?_) (by rfl) rfl ?_ ?_
  rotate_left
  · go_simp
    rfl
  refine hK.out _ _ ?_
  clear hK K
  refine done_ (by kernel_rfl) ?_

  obtain ⟨s2, es2⟩ : ∃ s2, s2 = { s with h := s.h.set i ⟨(reg : Int), -1, (sp l i).f2 + 1⟩ } := ⟨_, rfl⟩
  obtain ⟨w2, ew2⟩ : ∃ w2, w2 = (((w1.setCell ⟨bh, i * 3, none⟩ (.int .i64 reg)).setCell ⟨bh, i * 3 + 1, none⟩ (.int .i64 (-1))).setCell ⟨bh, i * 3 + 2, none⟩ (.int .i64 (wrap64 ((rd_T36 l (i : Nat)).f2 + 1)))).drew := ⟨_, rfl⟩
  have hf2 : wrap64 ((rd_T36 l (i : Nat)).f2 + 1) = (sp l i).f2 + 1 := by
    rw [show (rd_T36 l (i : Nat)).f2 = (sp l i).f2 by unfold rd_T36 sp; rw [Int.toNat_natCast]; rfl]
    exact wrap64_small (by omega) (by omega)
  have HSa := Aside0.mk (show St wk w0 w2 g bh (.slice (some ad) l.length c0) s2 av by
    rw [ew2, es2, hf2]
    exact (HS.out.setHome hih ⟨(reg : Int), -1, (sp l i).f2 + 1⟩).drew)
  have HBa := Aside0.mk (show w2.rowIs bx 39 1 (fun _ => .pointer (some ⟨g, 0, none⟩)) by
    have hn := rowIs_ne HBX.out HS.out.hs (by decide)
    rw [ew2]; exact ((HBX.out.setOther hn _).setOther hn _).setOther hn _)
  rw [← ew2]
  have E2 := Aside0.mk es2
  clear ew2 es2 x0 x1 xt z0 z1 z2 f0 f1 f2 xb hHeld
  have xb := HBa.out.cell (i := 0) (by omega)
  have xk := HSa.out.cT hreg
  have fk := HSa.out.gs.frozen (2 + reg)
  have r1 : (reg : Int) < 64 := by omega
  have r0 : (0 : Int) ≤ (reg : Int) := by omega
  go_wp2
  obtain ⟨s3, es3⟩ : ∃ s3, s3 = { s2 with tk := s2.tk.set reg true } := ⟨_, rfl⟩
  obtain ⟨w3, ew3⟩ : ∃ w3, w3 = w2.setCell ⟨g, 2 + reg, none⟩ (.bool true) := ⟨_, rfl⟩
  have HS2 := Aside0.mk (show St wk w0 w3 g bh (.slice (some ad) l.length c0) s3 av by rw [ew3, es3]; exact HSa.out.setT hreg true)
  have HB2 := Aside0.mk (show w3.rowIs bx 39 1 (fun _ => .pointer (some ⟨g, 0, none⟩)) by rw [ew3]; exact HBa.out.setOther (rowIs_ne HBa.out HSa.out.gs (by decide)) _)
  rw [← ew3]
  have E3 := Aside0.mk es3
  clear ew3 es3 xb xk fk
  have xb := HB2.out.cell (i := 0) (by omega)
  have x0 := HS2.out.cL
  have xA := HS2.out.cA
  obtain ⟨ad', e', _, _, xt⟩ := at_T36 (Kd.C_below HR0.out HS2.out.fr) (i : Int) p1 q1
  cases e'
  simp only [Int.toNat_natCast] at xt
  have hadb : ad.block < w0.heap.size := by
    obtain ⟨ad', e', hx, _, _⟩ := at_T36 HR0.out (i : Int) p1 q1
    cases e'
    have h1 := World.block_lt_of_cell? w0 _ hx
    unfold Addr.add at h1
    split at h1 <;> exact h1
  have SRCH := Aside0.mk (show ∀ W, St wk w0 W g bh (.slice (some ad) l.length c0) s3 av → W.rowIs bx 39 1 (fun _ => .pointer (some ⟨g, 0, none⟩)) → Calls Tryz.prog 26 #[av, .int .i64 (rd_T36 l (i : Nat)).f2, .func (.func 27) #[] #[.pointer (some ⟨bx, 0, none⟩)]] W fun e w' => (∃ q, e = .returned (.tuple #[.int .i64 ((s.act.takeWhile (Scan.early l (rd_T36 l (i : Nat)).f2)).length : Nat), .bool q])) ∧ Below W.heap.size W w' from fun W hSt hBx => by
    have hac : ActIs W w0.heap.size av s.act := by have h1 := hSt.ac; rw [E3.out, E2.out] at h1; exact h1
    refine search_act W w0.heap.size g bx c0 l ad av s.act _ hac (Kd.C_below HR0.out hSt.fr) (by omega) hal HA.out hs (hBx.cell (by omega)) hSt.cL (fun b off n c e => ?_)
    rcases hac with ⟨h1, _⟩ | ⟨b', off', cap', N', f', h1, h2, h3, _⟩
    · rw [h1] at e; injection e with e; cases e
    · rw [h1] at e
      injection e with e _ _
      injection e with e
      injection e with e1 _ _
      subst e1
      exact ⟨rowIs_ne hBx h2 (by decide), rowIs_ne hSt.gs h2 (by decide), by omega⟩)
  refine start_ (n := 19) (S := fun w' => St wk w0 w' g bh (.slice (some ad) l.length c0) s3 av ∧ w'.rowIs bx 39 1 (fun _ => .pointer (some ⟨g, 0, none⟩)) ∧ w'.cell? ⟨bx, 0, none⟩ = some (.pointer (some ⟨g, 0, none⟩)) ∧ w'.cell? ⟨g, 66, none⟩ = some av ∧ w'.cell? ⟨g, 0, none⟩ = some (.slice (some ad) l.length c0) ∧ w'.cell? ⟨(ad.add (i * 3)).block, (ad.add (i * 3)).off + 2, none⟩ = some (.int .i64 (rd_T36 l (i : Nat)).f2)) (ds := []) #[false, false, false, false, false, false, false, false, false, false, false, false, false, false, false, false, false, false, false] (by kernel_rfl) rfl rfl ⟨(HS2.out.drew), (HB2.out.drew), (pw_cell_below (below_drew (Below.refl _ _)) xb), (pw_cell_below (below_drew (Below.refl _ _)) xA), (pw_cell_below (below_drew (Below.refl _ _)) x0), (pw_cell_below (below_drew (Below.refl _ _)) xt)⟩ (fun hHeld => ?_)
  refine pure_ (i := 8) (N := some 39) (v := ?_) (a' := ?_) #[false, false, false, false, false, false, false, false, true, false, false, false, false, false, false, false, false, false, false] rfl rfl (by kernel_rfl) (fun _ _ _ h => h) (Or.inl ⟨by rfl, ?_⟩) ?_ ?_
  rotate_left
  · intro w'
    go_simp
    with_reducible rfl
  rotate_left
  · simp only [Act.put, List.setIfInBounds_toArray, List.set_cons_zero, List.set_cons_succ, i64_w, i32_w]
    rfl
  refine pure_ (i := 12) (N := some 43) (v := ?_) (a' := ?_) #[false, false, false, false, false, false, false, false, true, false, false, false, true, false, false, false, false, false, false] rfl rfl (by kernel_rfl) (fun _ _ _ h => h) (Or.inl ⟨by rfl, ?_⟩) ?_ ?_
  rotate_left
  · intro w'
    go_simp
    with_reducible rfl
  rotate_left
  · simp only [Act.put, List.setIfInBounds_toArray, List.set_cons_zero, List.set_cons_succ, i64_w, i32_w]
    rfl
  refine take_ (i := 0) (N := some 31) (v := ?_) (a' := ?_) #[true, false, false, false, false, false, false, false, true, false, false, false, true, false, false, false, false, false, false] rfl rfl (by kernel_rfl) (fun _ _ _ h => h) (Or.inl ⟨by rfl, ?_⟩) hHeld ?_ ?_
  rotate_left
  · rintro w' ⟨s0, s1, s2, s3, s4, s5⟩
    go_simp
    with_reducible rfl
  rotate_left
  · simp only [Act.put, List.setIfInBounds_toArray, List.set_cons_zero, List.set_cons_succ, i64_w, i32_w]
    rfl
  refine pure_ (i := 1) (N := some 32) (v := ?_) (a' := ?_) #[true, true, false, false, false, false, false, false, true, false, false, false, true, false, false, false, false, false, false] rfl rfl (by kernel_rfl) (fun _ _ _ h => h) (Or.inl ⟨by rfl, ?_⟩) ?_ ?_
  rotate_left
  · intro w'
    go_simp
    with_reducible rfl
  rotate_left
  · simp only [Act.put, List.setIfInBounds_toArray, List.set_cons_zero, List.set_cons_succ, i64_w, i32_w]
    rfl
  refine pure_ (i := 2) (N := some 33) (v := ?_) (a' := ?_) #[true, true, true, false, false, false, false, false, true, false, false, false, true, false, false, false, false, false, false] rfl rfl (by kernel_rfl) (fun _ _ _ h => h) (Or.inl ⟨by rfl, ?_⟩) ?_ ?_
  rotate_left
  · intro w'
    go_simp
    with_reducible rfl
  rotate_left
  · simp only [Act.put, List.setIfInBounds_toArray, List.set_cons_zero, List.set_cons_succ, i64_w, i32_w]
    rfl
  refine take_ (i := 3) (N := some 34) (v := ?_) (a' := ?_) #[true, true, true, true, false, false, false, false, true, false, false, false, true, false, false, false, false, false, false] rfl rfl (by kernel_rfl) (fun _ _ _ h => h) (Or.inl ⟨by rfl, ?_⟩) hHeld ?_ ?_
  rotate_left
  · rintro w' ⟨s0, s1, s2, s3, s4, s5⟩
    go_simp
    with_reducible rfl
  rotate_left
  · simp only [Act.put, List.setIfInBounds_toArray, List.set_cons_zero, List.set_cons_succ, i64_w, i32_w]
    rfl
  refine take_ (i := 4) (N := some 35) (v := ?_) (a' := ?_) #[true, true, true, true, true, false, false, false, true, false, false, false, true, false, false, false, false, false, false] rfl rfl (by kernel_rfl) (fun _ _ _ h => h) (Or.inl ⟨by rfl, ?_⟩) hHeld ?_ ?_
  rotate_left
  · rintro w' ⟨s0, s1, s2, s3, s4, s5⟩
    go_simp
    with_reducible rfl
  rotate_left
  · simp only [Act.put, List.setIfInBounds_toArray, List.set_cons_zero, List.set_cons_succ, i64_w, i32_w]
    rfl
  refine pure_ (i := 5) (N := some 36) (v := ?_) (a' := ?_) #[true, true, true, true, true, true, false, false, true, false, false, false, true, false, false, false, false, false, false] rfl rfl (by kernel_rfl) (fun _ _ _ h => h) (Or.inl ⟨by rfl, ?_⟩) ?_ ?_
  rotate_left
  · intro w'
    go_simp
    with_reducible rfl
  rotate_left
  · simp only [Act.put, List.setIfInBounds_toArray, List.set_cons_zero, List.set_cons_succ, i64_w, i32_w]
    rfl
  refine pure_ (i := 6) (N := some 37) (v := ?_) (a' := ?_) #[true, true, true, true, true, true, true, false, true, false, false, false, true, false, false, false, false, false, false] rfl rfl (by kernel_rfl) (fun _ _ _ h => h) (Or.inl ⟨by rfl, ?_⟩) ?_ ?_
  rotate_left
  · intro w'
    go_simp
    with_reducible rfl
  rotate_left
  · simp only [Act.put, List.setIfInBounds_toArray, List.set_cons_zero, List.set_cons_succ, i64_w, i32_w]
    rfl
  refine take_ (i := 7) (N := some 38) (v := ?_) (a' := ?_) #[true, true, true, true, true, true, true, true, true, false, false, false, true, false, false, false, false, false, false] rfl rfl (by kernel_rfl) (fun _ _ _ h => h) (Or.inl ⟨by rfl, ?_⟩) hHeld ?_ ?_
  rotate_left
  · rintro w' ⟨s0, s1, s2, s3, s4, s5⟩
    go_simp
    with_reducible rfl
  rotate_left
  · simp only [Act.put, List.setIfInBounds_toArray, List.set_cons_zero, List.set_cons_succ, i64_w, i32_w]
    rfl
  refine pure_ (i := 9) (N := some 40) (v := ?_) (a' := ?_) #[true, true, true, true, true, true, true, true, true, true, false, false, true, false, false, false, false, false, false] rfl rfl (by kernel_rfl) (fun _ _ _ h => h) (Or.inl ⟨by rfl, ?_⟩) ?_ ?_
  rotate_left
  · intro w'
    go_simp
    with_reducible rfl
  rotate_left
  · simp only [Act.put, List.setIfInBounds_toArray, List.set_cons_zero, List.set_cons_succ, i64_w, i32_w]
    rfl
  refine pure_ (i := 10) (N := some 41) (v := ?_) (a' := ?_) #[true, true, true, true, true, true, true, true, true, true, true, false, true, false, false, false, false, false, false] rfl rfl (by kernel_rfl) (fun _ _ _ h => h) (Or.inl ⟨by rfl, ?_⟩) ?_ ?_
  rotate_left
  · intro w'
    go_simp
    with_reducible rfl
  rotate_left
  · simp only [Act.put, List.setIfInBounds_toArray, List.set_cons_zero, List.set_cons_succ, i64_w, i32_w]
    rfl
  refine take_ (i := 11) (N := some 42) (v := ?_) (a' := ?_) #[true, true, true, true, true, true, true, true, true, true, true, true, true, false, false, false, false, false, false] rfl rfl (by kernel_rfl) (fun _ _ _ h => h) (Or.inl ⟨by rfl, ?_⟩) hHeld ?_ ?_
  rotate_left
  · rintro w' ⟨s0, s1, s2, s3, s4, s5⟩
    go_simp
    with_reducible rfl
  rotate_left
  · simp only [Act.put, List.setIfInBounds_toArray, List.set_cons_zero, List.set_cons_succ, i64_w, i32_w]
    rfl
  refine one_ (i := 13) (N := some 44) #[true, true, true, true, true, true, true, true, true, true, true, true, true, true, false, false, false, false, false] rfl rfl (by kernel_rfl) (by decide) (fun K hK => ?_)
  refine goes_ Tryz.func26 (by kernel_rfl) rfl #[av, .int .i64 (rd_T36 l (i : Nat)).f2, .func (.func 27) #[] #[.pointer (some ⟨bx, 0, none⟩)]] (by rfl) rfl rfl (by simp only [List.map_toArray, List.map_cons, List.map_nil]; rfl) ?_
  with_reducible refine (SRCH.out _ hHeld.1 hHeld.2.1).mono ?_
  rintro e w3 ⟨⟨q, rfl⟩, hb3⟩
  refine ⟨_, rfl, ?_⟩
  refine hK.out _ _ ⟨(hHeld.1.below hb3), (rowIs_below hHeld.2.1 hb3), (pw_cell_below hb3 hHeld.2.2.1), (pw_cell_below hb3 hHeld.2.2.2.1), (pw_cell_below hb3 hHeld.2.2.2.2.1), (pw_cell_below hb3 hHeld.2.2.2.2.2)⟩ (fun hHeld => ?_)
  clear hK K
  refine norm_ (a' := ?_) ?_ ?_
  rotate_left
  · show Act.put _ (some 44) _ = _
    simp only [Act.put, List.setIfInBounds_toArray, List.set_cons_zero, List.set_cons_succ, i64_w, i32_w]
    rfl
  refine pure_ (i := 14) (N := some 30) (v := ?_) (a' := ?_) #[true, true, true, true, true, true, true, true, true, true, true, true, true, true, true, false, false, false, false] rfl rfl (by kernel_rfl) (fun _ _ _ h => h) (Or.inl ⟨by rfl, ?_⟩) ?_ ?_
  rotate_left
  · intro w'
    go_simp
    with_reducible rfl
  rotate_left
  · simp only [Act.put, List.setIfInBounds_toArray, List.set_cons_zero, List.set_cons_succ, i64_w, i32_w]
    rfl
  refine pure_ (i := 15) (N := some 45) (v := ?_) (a' := ?_) #[true, true, true, true, true, true, true, true, true, true, true, true, true, true, true, true, false, false, false] rfl rfl (by kernel_rfl) (fun _ _ _ h => h) (Or.inl ⟨by rfl, ?_⟩) ?_ ?_
  rotate_left
  · intro w'
    go_simp
    with_reducible rfl
  rotate_left
  · simp only [Act.put, List.setIfInBounds_toArray, List.set_cons_zero, List.set_cons_succ, i64_w, i32_w]
    rfl
  refine pure_ (i := 16) (N := some 46) (v := ?_) (a' := ?_) #[true, true, true, true, true, true, true, true, true, true, true, true, true, true, true, true, true, false, false] rfl rfl (by kernel_rfl) (fun _ _ _ h => h) (Or.inl ⟨by rfl, ?_⟩) ?_ ?_
  rotate_left
  · intro w'
    go_simp
    with_reducible rfl
  rotate_left
  · simp only [Act.put, List.setIfInBounds_toArray, List.set_cons_zero, List.set_cons_succ, i64_w, i32_w]
    rfl
  refine pure_ (i := 17) (N := some 6) (v := ?_) (a' := ?_) #[true, true, true, true, true, true, true, true, true, true, true, true, true, true, true, true, true, true, false] rfl rfl (by kernel_rfl) (fun _ _ _ h => h) (Or.inl ⟨by rfl, ?_⟩) ?_ ?_
  rotate_left
  · intro w'
    go_simp
    with_reducible rfl
  rotate_left
  · simp only [Act.put, List.setIfInBounds_toArray, List.set_cons_zero, List.set_cons_succ, i64_w, i32_w]
    rfl
  refine pure_ (i := 18) (N := some 7) (v := ?_) (a' := ?_) #[true, true, true, true, true, true, true, true, true, true, true, true, true, true, true, true, true, true, true] rfl rfl (by kernel_rfl) (fun _ _ _ h => h) (Or.inl ⟨by rfl, ?_⟩) ?_ ?_
  rotate_left
  · intro w'
    go_simp
    with_reducible rfl
  rotate_left
  · simp only [Act.put, List.setIfInBounds_toArray, List.set_cons_zero, List.set_cons_succ, i64_w, i32_w]
    rfl
  refine done_ (by kernel_rfl) ?_

  have HS3 := Aside0.mk hHeld.1
  have HB3 := Aside0.mk hHeld.2.1
  clear xb x0 xA xt
  have xb := hHeld.2.2.1
  have xA := hHeld.2.2.2.1
  have INS := Aside0.mk (show ∀ W nb, St wk w0 W g bh (.slice (some ad) l.length c0) s3 av → W.heap[nb]? = some (.cells #[.int .i64 i] 3 (0, 0)) → w3.heap.size ≤ nb → Calls Tryz.prog 28 #[av, .int .i64 ((s.act.takeWhile (Scan.early l (rd_T36 l (i : Nat)).f2)).length : Nat), .slice (some ⟨nb, 0, none⟩) 1 1] W fun e w' => ∃ av', e = .returned av' ∧ ActIs w' w0.heap.size av' (s.act.take (s.act.takeWhile (Scan.early l (rd_T36 l (i : Nat)).f2)).length ++ i :: s.act.drop (s.act.takeWhile (Scan.early l (rd_T36 l (i : Nat)).f2)).length) ∧ Frame w0.heap.size W w' from fun W nb hSt hnb hle => by
    have hac : ActIs W w0.heap.size av s.act := by have h1 := hSt.ac; rw [E3.out, E2.out] at h1; exact h1
    refine insert_calls W w0.heap.size av s.act _ i nb hac hSt.fr.size (List.Sublist.length_le (List.takeWhile_sublist _)) hal hnb (fun b off n c e => ?_)
    rcases HS3.out.ac with ⟨h1, _⟩ | ⟨b', off', cap', N', f', h1, h2, h3, _⟩
    · rw [h1] at e; injection e with e; cases e
    · rw [h1] at e
      injection e with e _ _
      injection e with e
      injection e with e1 _ _
      subst e1
      have := h2.lt
      omega)
  clear hHeld
  go_wp2
  refine start_ (n := 12) (S := fun w' => w'.rowIs g 42 68 (scF (.slice (some ad) l.length c0) (.slice (some ⟨bh, 0, none⟩) s3.h.length s3.h.length) av s3.tk s3.n) ∧ w'.rowIs bx 39 1 (fun _ => .pointer (some ⟨g, 0, none⟩)) ∧ w'.cell? ⟨bx, 0, none⟩ = some (.pointer (some ⟨g, 0, none⟩)) ∧ w'.cell? ⟨g, 66, none⟩ = some av ∧ w'.frozen? ⟨g, 66, none⟩ = false) (ds := [11]) #[false, false, false, false, false, false, false, false, false, false, false, false] (by kernel_rfl) rfl rfl ⟨(HS3.out.gs.drew), (HB3.out.drew), (pw_cell_below (below_drew (Below.refl _ _)) xb), (pw_cell_below (below_drew (Below.refl _ _)) xA), (HS3.out.gs.frozen 66)⟩ (fun hHeld => ?_)
  refine pure_ (i := 5) (N := some 52) (v := ?_) (a' := ?_) #[false, false, false, false, false, true, false, false, false, false, false, false] rfl rfl (by kernel_rfl) (fun _ _ _ h => h) (Or.inl ⟨by rfl, ?_⟩) ?_ ?_
  rotate_left
  · intro w'
    go_simp
    with_reducible rfl
  rotate_left
  · simp only [Act.put, List.setIfInBounds_toArray, List.set_cons_zero, List.set_cons_succ, i64_w, i32_w]
    rfl
  refine pure_ (i := 6) (N := some 53) (v := ?_) (a' := ?_) #[false, false, false, false, false, true, true, false, false, false, false, false] rfl rfl (by kernel_rfl) (fun _ _ _ h => h) (Or.inl ⟨by rfl, ?_⟩) ?_ ?_
  rotate_left
  · intro w'
    go_simp
    with_reducible rfl
  rotate_left
  · simp only [Act.put, List.setIfInBounds_toArray, List.set_cons_zero, List.set_cons_succ, i64_w, i32_w]
    rfl
  refine take_ (i := 0) (N := some 47) (v := ?_) (a' := ?_) #[true, false, false, false, false, true, true, false, false, false, false, false] rfl rfl (by kernel_rfl) (fun _ _ _ h => h) (Or.inl ⟨by rfl, ?_⟩) hHeld ?_ ?_
  rotate_left
  · rintro w' ⟨s0, s1, s2, s3, s4⟩
    go_simp
    with_reducible rfl
  rotate_left
  · simp only [Act.put, List.setIfInBounds_toArray, List.set_cons_zero, List.set_cons_succ, i64_w, i32_w]
    rfl
  refine take_ (i := 1) (N := some 48) (v := ?_) (a' := ?_) #[true, true, false, false, false, true, true, false, false, false, false, false] rfl rfl (by kernel_rfl) (fun _ _ _ h => h) (Or.inl ⟨by rfl, ?_⟩) hHeld ?_ ?_
  rotate_left
  · rintro w' ⟨s0, s1, s2, s3, s4⟩
    go_simp
    with_reducible rfl
  rotate_left
  · simp only [Act.put, List.setIfInBounds_toArray, List.set_cons_zero, List.set_cons_succ, i64_w, i32_w]
    rfl
  refine pure_ (i := 2) (N := some 49) (v := ?_) (a' := ?_) #[true, true, true, false, false, true, true, false, false, false, false, false] rfl rfl (by kernel_rfl) (fun _ _ _ h => h) (Or.inl ⟨by rfl, ?_⟩) ?_ ?_
  rotate_left
  · intro w'
    go_simp
    with_reducible rfl
  rotate_left
  · simp only [Act.put, List.setIfInBounds_toArray, List.set_cons_zero, List.set_cons_succ, i64_w, i32_w]
    rfl
  refine pure_ (i := 3) (N := some 50) (v := ?_) (a' := ?_) #[true, true, true, true, false, true, true, false, false, false, false, false] rfl rfl (by kernel_rfl) (fun _ _ _ h => h) (Or.inl ⟨by rfl, ?_⟩) ?_ ?_
  rotate_left
  · intro w'
    go_simp
    with_reducible rfl
  rotate_left
  · simp only [Act.put, List.setIfInBounds_toArray, List.set_cons_zero, List.set_cons_succ, i64_w, i32_w]
    rfl
  refine take_ (i := 4) (N := some 51) (v := ?_) (a' := ?_) #[true, true, true, true, true, true, true, false, false, false, false, false] rfl rfl (by kernel_rfl) (fun _ _ _ h => h) (Or.inl ⟨by rfl, ?_⟩) hHeld ?_ ?_
  rotate_left
  · rintro w' ⟨s0, s1, s2, s3, s4⟩
    go_simp
    with_reducible rfl
  rotate_left
  · simp only [Act.put, List.setIfInBounds_toArray, List.set_cons_zero, List.set_cons_succ, i64_w, i32_w]
    rfl
  refine one_ (i := 7) (N := some 54) #[true, true, true, true, true, true, true, true, false, false, false, false] rfl rfl (by kernel_rfl) (by decide) (fun K hK => ?_)
  refine lit1_step (x := i) (e := 3) (by rfl) (by first | (go_simp; done) | (go_simp; rfl)) ?_
  intro nb w5 hnb hnbl hb5
  refine hK.out _ _ ⟨(rowIs_below hHeld.1 hb5), (rowIs_below hHeld.2.1 hb5), (pw_cell_below hb5 hHeld.2.2.1), (pw_cell_below hb5 hHeld.2.2.2.1), ((rowIs_below hHeld.1 hb5).frozen 66)⟩ (fun hHeld => ?_)
  clear hK K
  refine norm_ (a' := ?_) ?_ ?_
  rotate_left
  · show Act.put _ (some 54) _ = _
    simp only [Act.put, List.setIfInBounds_toArray, List.set_cons_zero, List.set_cons_succ, i64_w, i32_w]
    rfl
  refine one_ (i := 8) (N := some 55) #[true, true, true, true, true, true, true, true, true, false, false, false] rfl rfl (by kernel_rfl) (by decide) (fun K hK => ?_)
  refine goes_ Tryz.func28 (by kernel_rfl) rfl #[av, .int .i64 ((s.act.takeWhile (Scan.early l (rd_T36 l (i : Nat)).f2)).length : Nat), .slice (some ⟨nb, 0, none⟩) 1 1] (by rfl) rfl rfl (by simp only [List.map_toArray, List.map_cons, List.map_nil]; rfl) ?_
  with_reducible refine (INS.out _ nb (HS3.out.drew.below hb5) hnb (Nat.le_trans (below_drew (Below.refl w3.heap.size _)).size hnbl)).mono ?_
  rintro e w6 ⟨av', rfl, hA, hF⟩
  obtain ⟨A9, cap9, rfl, _, _⟩ := hA.len
  have HA6 := Aside0.mk hA
  have HF6 := Aside0.mk hF
  have HS5 := Aside0.mk (HS3.out.drew.below hb5)
  refine ⟨_, rfl, ?_⟩
  refine hK.out _ _ ⟨(hF.2 _ _ _ _ (by decide) hHeld.1), (hF.2 _ _ _ _ (by decide) hHeld.2.1), ((hF.2 _ _ _ _ (by decide) hHeld.2.1).cell (by omega)), ((hF.2 _ _ _ _ (by decide) hHeld.1).cell (by omega)), ((hF.2 _ _ _ _ (by decide) hHeld.1).frozen 66)⟩ (fun hHeld => ?_)
  clear hK K
  refine norm_ (a' := ?_) ?_ ?_
  rotate_left
  · show Act.put _ (some 55) _ = _
    simp only [Act.put, List.setIfInBounds_toArray, List.set_cons_zero, List.set_cons_succ, i64_w, i32_w]
    rfl
  refine pure_ (i := 9) (N := some 56) (v := ?_) (a' := ?_) #[true, true, true, true, true, true, true, true, true, true, false, false] rfl rfl (by kernel_rfl) (fun _ _ _ h => h) (Or.inl ⟨by rfl, ?_⟩) ?_ ?_
  rotate_left
  · intro w'
    go_simp
    with_reducible rfl
  rotate_left
  · simp only [Act.put, List.setIfInBounds_toArray, List.set_cons_zero, List.set_cons_succ, i64_w, i32_w]
    rfl
  refine pure_ (i := 10) (N := some 57) (v := ?_) (a' := ?_) #[true, true, true, true, true, true, true, true, true, true, true, false] rfl rfl (by kernel_rfl) (fun _ _ _ h => h) (Or.inl ⟨by rfl, ?_⟩) ?_ ?_
  rotate_left
  · intro w'
    go_simp
    with_reducible rfl
  rotate_left
  · simp only [Act.put, List.setIfInBounds_toArray, List.set_cons_zero, List.set_cons_succ, i64_w, i32_w]
    rfl
  refine last_ (i := 11) (N := none) #[true, true, true, true, true, true, true, true, true, true, true, true] rfl rfl (by kernel_rfl) (by decide) (fun K hK => ?_)
  refine skip_ (w1 := ?_) (by rfl) rfl ?_ ?_
  rotate_left
  · go_simp
    rfl
  refine hK.out _ _ ?_
  clear hK K
  refine done_ (by kernel_rfl) ?_

  clear hHeld
  first | go_end0 | ((try simp only [Exit.inBlock, Exit.then]); refine bodyPost_ret (results_none rfl _ _ _) rfl ?_)
  have h6 := HS5.out.framed HF6.out HA6.out
  have h7 : { s3 with act := s.act.take (s.act.takeWhile (Scan.early l (rd_T36 l (i : Nat)).f2)).length ++ i :: s.act.drop (s.act.takeWhile (Scan.early l (rd_T36 l (i : Nat)).f2)).length } = enterP l i reg s := by
    rw [E3.out, E2.out]
    unfold enterP insP
    have e1 : (rd_T36 l (i : Nat)).f2 = (sp l i).f2 := by unfold rd_T36 sp; rw [Int.toNat_natCast]; rfl
    rw [e1, (take_tw _ _).1, (take_tw _ _).2]
  rw [h7] at h6
  have e9 : min (s.act.takeWhile (Scan.early l (rd_T36 l (i : Nat)).f2)).length s.act.length + (s.act.length - (s.act.takeWhile (Scan.early l (rd_T36 l (i : Nat)).f2)).length + 1) = (s.act.take (s.act.takeWhile (Scan.early l (rd_T36 l (i : Nat)).f2)).length ++ i :: s.act.drop (s.act.takeWhile (Scan.early l (rd_T36 l (i : Nat)).f2)).length).length := by
    rw [List.length_append, List.length_cons, List.length_take, List.length_drop]
  refine ⟨rfl, .slice A9 (s.act.take (s.act.takeWhile (Scan.early l (rd_T36 l (i : Nat)).f2)).length ++ i :: s.act.drop (s.act.takeWhile (Scan.early l (rd_T36 l (i : Nat)).f2)).length).length cap9, ?_⟩
  rw [e9]
  exact h6
end Go.Proofs.YtcmbpboeilojmaaGreat.Sw
