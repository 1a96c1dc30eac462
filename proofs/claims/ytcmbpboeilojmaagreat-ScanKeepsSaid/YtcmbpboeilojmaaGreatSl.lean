/- The scanner's memory (three rows of the call's own: the struct, the homes, the numbers in registers), and the walk of slot. -/
import Derived.Test.YtcmbpboeilojmaaGreatSc
import Derived.Deep.OwnRows
import Derived.Deep.DeepCutAuto
namespace Go.Proofs.YtcmbpboeilojmaaGreat.Sw
open Go Go.RowKit Go.Proofs.YtcmbpboeilojmaaGreatW.PrintWords Go.Proofs.YtcmbpboeilojmaaGreatW.PrintLast Go.Proofs.YtcmbpboeilojmaaGreatW.PrintMore Go.Proofs.YtcmbpboeilojmaaGreat.F Go.Proofs.YtcmbpboeilojmaaGreat.Scan
set_option linter.unusedVariables false
set_option linter.unusedSimpArgs false

/-- the struct's cells. -/
def scF (L H A : Value) (tk : List Bool) (n : Nat) : Nat → Value := fun i => if i = 0 then L else if i = 1 then H else if i < 66 then .bool (tk.getD (i - 2) false) else if i = 66 then A else .int .i64 n
/-- the homes' cells. -/
def hoF (h : List S48) : Nat → Value := fun i => if i % 3 = 0 then .int .i64 (ho h (i / 3)).f0 else if i % 3 = 1 then .int .i64 (ho h (i / 3)).f1 else .int .i64 (ho h (i / 3)).f2
/-- a row of numbers of the call's own, or none. -/
def ActIs (w : World) (B : Nat) (v : Value) (a : List Nat) : Prop :=
  (v = .slice none 0 0 ∧ a = []) ∨ ∃ b off cap N f, v = .slice (some ⟨b, off, none⟩) a.length cap ∧ w.rowIs b 3 N f ∧ B ≤ b ∧ off + cap ≤ N ∧ a.length ≤ cap ∧ N ≤ 9223372036854775807 ∧ ∀ j, j < a.length → f (off + j) = .int .i64 (a.getD j 0 : Nat)
structure St (wk w0 w : World) (g bh : Nat) (L : Value) (s : Sc) (av : Value) : Prop where
  gs : w.rowIs g 42 68 (scF L (.slice (some ⟨bh, 0, none⟩) s.h.length s.h.length) av s.tk s.n)
  hs : w.rowIs bh 48 (s.h.length * 3) (hoF s.h)
  ac : ActIs w w0.heap.size av s.act
  gb : w0.heap.size ≤ g
  bb : w0.heap.size ≤ bh
  tl : s.tk.length = 64
  fr : Below w0.heap.size w0 w
  kp : ∀ b n f, wk.rowIs b 36 n f → w.rowIs b 36 n f
theorem rowIs_ne {w : World} {b c t u n m : Nat} {f q : Nat → Value} (h : w.rowIs b t n f) (k : w.rowIs c u m q) (hne : t ≠ u) : b ≠ c := by
  rintro rfl
  obtain ⟨x, hx, _⟩ := h
  obtain ⟨y, hy, _⟩ := k
  rw [hx] at hy
  injection hy with hy
  injection hy with _ hy
  exact hne hy
theorem rowIs_below {w w' : World} {b t n : Nat} {f : Nat → Value} (h : w.rowIs b t n f) (hb : Below w.heap.size w w') : w'.rowIs b t n f := h.of_block (hb.block b h.lt)
theorem ActIs.below {w w' : World} {B : Nat} {v : Value} {a : List Nat} (h : ActIs w B v a) (hb : Below w.heap.size w w') : ActIs w' B v a := by
  rcases h with h | ⟨b, off, cap, N, f, h1, h2, h3⟩
  · exact .inl h
  · exact .inr ⟨b, off, cap, N, f, h1, rowIs_below h2 hb, h3⟩
theorem ActIs.set {w : World} {B : Nat} {v : Value} {a : List Nat} (h : ActIs w B v a) {c t n : Nat} {q : Nat → Value} (hc : w.rowIs c t n q) (ht : t ≠ 3) (i : Nat) (u : Value) : ActIs (w.setCell ⟨c, i, none⟩ u) B v a := by
  rcases h with h | ⟨b, off, cap, N, f, h1, h2, h3⟩
  · exact .inl h
  · exact .inr ⟨b, off, cap, N, f, h1, h2.setOther (fun e => rowIs_ne h2 hc (fun e => ht e.symm) e) _, h3⟩
section
variable {wk w0 w : World} {g bh : Nat} {L : Value} {s : Sc} {av : Value}
theorem St.below {w' : World} (h : St wk w0 w g bh L s av) (hb : Below w.heap.size w w') : St wk w0 w' g bh L s av :=
  ⟨rowIs_below h.gs hb, rowIs_below h.hs hb, h.ac.below hb, h.gb, h.bb, h.tl, below_then h.fr h.fr.size hb, fun b n f k => rowIs_below (h.kp b n f k) hb⟩
/-- whose spans stay is told of another world. -/
theorem St.base (h : St wk w0 w g bh L s av) : St w w0 w g bh L s av := ⟨h.gs, h.hs, h.ac, h.gb, h.bb, h.tl, h.fr, fun _ _ _ k => k⟩
theorem St.drew (h : St wk w0 w g bh L s av) : St wk w0 w.drew g bh L s av := h.below (below_drew (Below.refl _ _))
theorem St.drewN (h : St wk w0 w g bh L s av) (n : Nat) : St wk w0 (w.drewN n) g bh L s av := h.below (pw_below_drewN (Below.refl _ _) n)
theorem St.cL (h : St wk w0 w g bh L s av) : w.cell? ⟨g, 0, none⟩ = some L := h.gs.cell (by omega)
theorem St.cH (h : St wk w0 w g bh L s av) : w.cell? ⟨g, 1, none⟩ = some (.slice (some ⟨bh, 0, none⟩) s.h.length s.h.length) := h.gs.cell (by omega)
theorem St.cA (h : St wk w0 w g bh L s av) : w.cell? ⟨g, 66, none⟩ = some av := h.gs.cell (by omega)
theorem St.cN (h : St wk w0 w g bh L s av) : w.cell? ⟨g, 67, none⟩ = some (.int .i64 s.n) := h.gs.cell (by omega)
theorem St.cT (h : St wk w0 w g bh L s av) {r : Nat} (hr : r < 64) : w.cell? ⟨g, 2 + r, none⟩ = some (.bool (s.tk.getD r false)) := by
  rw [h.gs.cell (by omega : 2 + r < 68)]
  unfold scF
  rw [if_neg (by omega), if_neg (by omega), if_pos (by omega), Nat.add_sub_cancel_left]
theorem St.c0 (h : St wk w0 w g bh L s av) {i : Nat} (hi : i < s.h.length) : w.cell? ⟨bh, i * 3, none⟩ = some (.int .i64 (ho s.h i).f0) := by
  rw [h.hs.cell (by omega : i * 3 < s.h.length * 3)]
  unfold hoF
  rw [if_pos (by omega), Nat.mul_div_cancel _ (by omega)]
theorem St.c1 (h : St wk w0 w g bh L s av) {i : Nat} (hi : i < s.h.length) : w.cell? ⟨bh, i * 3 + 1, none⟩ = some (.int .i64 (ho s.h i).f1) := by
  rw [h.hs.cell (by omega : i * 3 + 1 < s.h.length * 3)]
  unfold hoF
  rw [if_neg (by omega), if_pos (by omega), show (i * 3 + 1) / 3 = i by omega]
theorem St.c2 (h : St wk w0 w g bh L s av) {i : Nat} (hi : i < s.h.length) : w.cell? ⟨bh, i * 3 + 2, none⟩ = some (.int .i64 (ho s.h i).f2) := by
  rw [h.hs.cell (by omega : i * 3 + 2 < s.h.length * 3)]
  unfold hoF
  rw [if_neg (by omega), if_neg (by omega), show (i * 3 + 2) / 3 = i by omega]
/-- the struct's cells set. -/
theorem St.setN (h : St wk w0 w g bh L s av) (n : Nat) : St wk w0 (w.setCell ⟨g, 67, none⟩ (.int .i64 n)) g bh L { s with n := n } av := by
  refine ⟨(h.gs.set 67 _).congr fun i hi => ?_, h.hs.setOther (rowIs_ne h.hs h.gs (by decide)) _, h.ac.set h.gs (by decide) _ _, h.gb, h.bb, h.tl, h.fr.setCell h.gb _, fun b n f k => (h.kp b n f k).setOther (rowIs_ne (h.kp b n f k) h.gs (by decide)) _⟩
  unfold scF
  by_cases e : i = 67
  · subst e; rfl
  · rw [if_neg e]
    by_cases e0 : i = 0
    · rw [if_pos e0, if_pos e0]
    · rw [if_neg e0, if_neg e0]
      by_cases e1 : i = 1
      · rw [if_pos e1, if_pos e1]
      · rw [if_neg e1, if_neg e1]
        by_cases e2 : i < 66
        · rw [if_pos e2, if_pos e2]
        · rw [if_neg e2, if_neg e2, if_pos (by omega), if_pos (by omega)]
theorem St.setT (h : St wk w0 w g bh L s av) {r : Nat} (hr : r < 64) (b : Bool) : St wk w0 (w.setCell ⟨g, 2 + r, none⟩ (.bool b)) g bh L { s with tk := s.tk.set r b } av := by
  refine ⟨(h.gs.set (2 + r) _).congr fun i hi => ?_, h.hs.setOther (rowIs_ne h.hs h.gs (by decide)) _, h.ac.set h.gs (by decide) _ _, h.gb, h.bb, by simp [h.tl], h.fr.setCell h.gb _, fun b n f k => (h.kp b n f k).setOther (rowIs_ne (h.kp b n f k) h.gs (by decide)) _⟩
  unfold scF
  by_cases e : i = 2 + r
  · subst e
    rw [if_pos rfl, if_neg (by omega), if_neg (by omega), if_pos (by omega), Nat.add_sub_cancel_left, tk_set b (by rw [h.tl]; exact hr), if_pos rfl]
  · rw [if_neg e]
    by_cases e0 : i = 0
    · rw [if_pos e0, if_pos e0]
    · rw [if_neg e0, if_neg e0]
      by_cases e1 : i = 1
      · rw [if_pos e1, if_pos e1]
      · rw [if_neg e1, if_neg e1]
        by_cases e2 : i < 66
        · rw [if_pos e2, if_pos e2, tk_set b (by rw [h.tl]; exact hr), if_neg (by omega)]
        · rw [if_neg e2, if_neg e2]
theorem St.setA (h : St wk w0 w g bh L s av) {av' : Value} {a : List Nat} (ha : ActIs w w0.heap.size av' a) : St wk w0 (w.setCell ⟨g, 66, none⟩ av') g bh L { s with act := a } av' := by
  refine ⟨(h.gs.set 66 _).congr fun i hi => ?_, h.hs.setOther (rowIs_ne h.hs h.gs (by decide)) _, ha.set h.gs (by decide) _ _, h.gb, h.bb, h.tl, h.fr.setCell h.gb _, fun b n f k => (h.kp b n f k).setOther (rowIs_ne (h.kp b n f k) h.gs (by decide)) _⟩
  unfold scF
  by_cases e : i = 66
  · subst e; rfl
  · rw [if_neg e]
    by_cases e0 : i = 0
    · rw [if_pos e0, if_pos e0]
    · rw [if_neg e0, if_neg e0]
      by_cases e1 : i = 1
      · rw [if_pos e1, if_pos e1]
      · rw [if_neg e1, if_neg e1]
        by_cases e2 : i < 66
        · rw [if_pos e2, if_pos e2]
        · rw [if_neg e2, if_neg e2, if_neg (by omega), if_neg (by omega)]
end

set_option maxHeartbeats 1000000 in
set_option maxRecDepth 100000 in
theorem slot_calls (wk w0 w : World) (g bh : Nat) (L : Value) (s : Sc) (av : Value) (h : St wk w0 w g bh L s av) (hn : s.n < 1000000) :
    Calls Tryz.prog 16 #[.pointer (some ⟨g, 0, none⟩)] w fun e w' => e = .returned (.int .i64 s.n) ∧ St wk w0 w' g bh L { s with n := s.n + 1 } av := by
  have hc := h.cN
  have hf := h.gs.frozen 67
  have H := Aside0.mk h
  clear h
  go_enter Tryz.func16, Tryz.ntmps16
  go_wp2
  go_ret
  exact ⟨rfl, H.out.setN (s.n + 1)⟩
end Go.Proofs.YtcmbpboeilojmaaGreat.Sw
