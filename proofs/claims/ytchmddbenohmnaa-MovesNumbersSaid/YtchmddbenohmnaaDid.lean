/- The walks of slices.Clone at []int, moves.Did and its closure: what they answer is the plain function didG. -/
import Derived.Test.YtchmddbenohmnaaMay
import Derived.WalkSpells
import Derived.RegionTactic
import Derived.ChangeAlike
import Derived.BigRegion
namespace Go.Proofs.Ytchmddbenohmnaa.Mv
open Go Go.RowKit Go.Proofs.YtchmddbenohmnaaW.PrintWords Go.Proofs.YtchmddbenohmnaaW.PrintLast Go.Proofs.YtchmddbenohmnaaW.PrintMore Go.Proofs.Ytchmddbenohmnaa.Mi Go.Proofs.Ytchmddbenohmnaa.F
set_option linter.unusedVariables false
set_option linter.unusedSimpArgs false

def inB (out : List Int) (x : Int) : Bool := decide (0 ≤ x) && decide (x < (out.length : Int))
def stepD (out : List Int) (m : S43) : List Int := if inB out m.f0 = true ∧ inB out m.f1 = true then out.set m.f0.toNat (rd out m.f1) else out
def didL (l : List S43) (at_ : List Int) : List Int := l.foldl stepD at_
def didG (l : List S43) (at_ : List Int) : Option (List Int) := if at_.length ≤ 17592186044416 then some (didL l at_) else none
theorem didL_snoc (l : List S43) (m : S43) (a : List Int) : didL (l ++ [m]) a = stepD (didL l a) m := by unfold didL; rw [List.foldl_append]; rfl
theorem stepD_len (out : List Int) (m : S43) : (stepD out m).length = out.length := by unfold stepD; split <;> simp
theorem didL_len (l : List S43) : ∀ a : List Int, (didL l a).length = a.length := by
  unfold didL
  induction l with
  | nil => intro a; rfl
  | cons m r ih => intro a; rw [List.foldl_cons, ih, stepD_len]

set_option maxHeartbeats 4000000 in
set_option maxRecDepth 100000 in
theorem clone_some (ad : Addr) (c : Nat) (l : List Int) (w : World) (hr : Kd.C (Kd.int .i64) w (some ad) l.length l) (hc : l.length ≤ c) (hl : l.length ≤ 17592186044416) :
    Calls Try.prog 38 #[.slice (some ad) l.length c] w fun e w' => ∃ v : Value, e = .returned v ∧ Kd.R (Kd.int .i64) 3 w' w.heap.size (fun _ => True) v l ∧ Below w.heap.size w w' := by
  have HR := Aside0.mk hr
  have HC := Aside0.mk hc
  clear hr hc
  have hq : ∀ W : World, (binOp .eql 35 (.slice (some ad) l.length c) (.slice none 0 0)).run Try.prog W = .ok (.bool false) W := fun W => Lib.run_eql_slice_nil W 35 3 (some ad) _ _ 0 0 Try.underlying35
  have HO : Aside0 (Kd.R (Kd.int .i64) 3 (w.alloc (.cells #[] 3)) w.heap.size (fun _ => True) (.slice (some ⟨w.heap.size, 0, none⟩) 0 0) []) := ⟨Kd.R_of_own (enc := Value.int .i64) (own_lit w w.heap.size 3 .i64 [] (Nat.le_refl _) (by simp)) (fun _ _ => trivial)⟩
  go_enter Try.func38, Try.ntmps38
  go_wp2_with (first | ((with_reducible refine gate_builtin (b := .append) (xs := #[.tmp 5, .tmp 6]) rfl ?_); at_builtin; go_loud (refine Kd.R_append_row (Value.int .i64) (0 : Int) (w0 := w) w.heap.size rfl (.tmp 5) (.tmp 6) 35 3 (.int .i64 0) 8 rfl Try.underlying35 info3 rfl (by decide) _ [] l (some ad) l.length c (fun _ => True) rfl rfl ?aF HO.out ?aR ?aB ?aS ?aL ?_; (case aF => exact fun _ _ => trivial); (case aR => exact Kd.C_below HR.out ((Below.refl _ _).alloc (Nat.le_refl _) _)); (case aB => exact (Below.refl _ _).alloc (Nat.le_refl _) _); (case aS => simp); (case aL => simp; omega); intro v1 w1 ho hb hg hat; have HO1 := Aside0.mk ho; have HB1 := Aside0.mk hb; clear ho hb hg hat)))
  go_ret
  exact ⟨_, rfl, HO1.out, HB1.out⟩

theorem clone_nil (c : Nat) (w : World) : Calls Try.prog 38 #[.slice none 0 c] w fun e w' => e = .returned (.slice none 0 0) ∧ Below w.heap.size w w' := by
  have hq : ∀ W : World, (binOp .eql 35 (.slice none 0 c) (.slice none 0 0)).run Try.prog W = .ok (.bool true) W := fun W => Lib.run_eql_slice_nil W 35 3 none _ _ 0 0 Try.underlying35
  go_enter Try.func38, Try.ntmps38
  go_wp2
  go_ret
  exact ⟨rfl, Below.refl _ _⟩

theorem clone_calls (A : Option Addr) (c : Nat) (l : List Int) (w : World) (hr : Kd.C (Kd.int .i64) w A l.length l) (hc : l.length ≤ c) (hl : l.length ≤ 17592186044416) :
    Calls Try.prog 38 #[.slice A l.length c] w fun e w' => ∃ v : Value, e = .returned v ∧ Kd.R (Kd.int .i64) 3 w' w.heap.size (fun _ => True) v l ∧ Below w.heap.size w w' := by
  cases A with
  | some ad => exact clone_some ad c l w hr hc hl
  | none =>
    have : l.length = 0 := by
      by_cases h : l.length = 0
      · exact h
      · obtain ⟨ad, e, _⟩ := Kd.at_int hr 0 (by omega) (by omega)
        cases e
    obtain rfl : l = [] := List.eq_nil_of_length_eq_zero this
    exact (clone_nil c w).mono fun e w' h => ⟨_, h.1, Kd.R_nil _ _ _ _ _, h.2⟩

/-- the closure: whether a place is one of the list that lies in the captured variable's block. -/
theorem in_calls (B : Nat) (x : Int) (A : Option Addr) (n c : Nat) (w : World) (hb : w.heap[B]? = some (.cells #[.slice A n c] 35 (0, 0))) :
    Calls Try.prog 39 #[.int .i64 x, .pointer (some ⟨B, 0, none⟩)] w fun e w' => e = .returned (.bool (decide (0 ≤ x) && decide (x < (n : Int)))) ∧ w = w' := by
  have hc := blk_cell hb 0
  clear hb
  by_cases h0 : 0 ≤ x
  · by_cases h1 : x < (n : Int)
    · go_enter Try.func39, Try.ntmps39
      go_wp2
      go_ret
      exact ⟨by simp [h0, h1], rfl⟩
    · go_enter Try.func39, Try.ntmps39
      go_wp2
      go_ret
      exact ⟨by simp [h1], rfl⟩
  · go_enter Try.func39, Try.ntmps39
    go_wp2
    go_ret
    exact ⟨by simp [h0]; omega, rfl⟩

theorem in_val (B : Nat) (x : Int) (A : Option Addr) (n c : Nat) (w : World) (hb : w.heap[B]? = some (.cells #[.slice A n c] 35 (0, 0))) (b : Bool) (h : (decide (0 ≤ x) && decide (x < (n : Int))) = b) :
    Calls Try.prog 39 #[.int .i64 x, .pointer (some ⟨B, 0, none⟩)] w fun e w' => e = .returned (.bool b) ∧ w = w' := (in_calls B x A n c w hb).mono fun e w' hh => ⟨by rw [← h]; exact hh.1, hh.2⟩

set_option maxHeartbeats 8000000 in
set_option maxRecDepth 100000 in
theorem did_calls (A0 : Option Addr) (c0 : Nat) (l0 : List (S43)) (A1 : Option Addr) (c1 : Nat) (l1 : List Int) (r : List Int) (w : World) (hr0 : Kd.C k43 w A0 l0.length l0) (hc0 : l0.length ≤ c0) (hr1 : Kd.C (Kd.int .i64) w A1 l1.length l1) (hc1 : l1.length ≤ c1) (h : didG l0 l1 = some r) :
    Calls Try.prog 17 #[.slice A0 l0.length c0, .slice A1 l1.length c1] w fun e w' => ∃ v0_ : Value, e = .returned (v0_) ∧ Kd.R (Kd.int .i64) 3 w' w.heap.size (fun _ => True) v0_ r ∧ Below w.heap.size w w' := by
  unfold didG at h
  by_cases hl : l1.length ≤ 17592186044416
  · rw [if_pos hl] at h
    obtain rfl := Option.some.inj h
    have hlen : l0.length ≤ 9223372036854775807 := hr0.2.1
    have HR0 := Aside0.mk hr0
    have HR1 := Aside0.mk hr1
    have HC1 := Aside0.mk hc1
    clear hr0 hc0 hr1 hc1 h
    go_enter Try.func17, Try.ntmps17
    go_wp2_with fail
    refine (clone_calls _ _ _ _ HR1.out HC1.out hl).mono ?_
    rintro e w1 ⟨v, rfl, ho, hb⟩
    have HO1 := Aside0.mk ho
    have HB1 := Aside0.mk hb
    clear ho hb
    obtain ⟨A2, c2, rfl, hc2, _⟩ := Kd.R_reads HO1.out
    have HBX : Aside0 ((w1.alloc (.cells #[.slice A2 l1.length c2] 35)).heap[w1.heap.size]? = some (.cells #[.slice A2 l1.length c2] 35 (0, 0))) := ⟨blk_new _ _⟩
    have HO2 := Aside0.mk (Kd.R_alloc HO1.out (.cells #[.slice A2 l1.length c2] 35))
    have HB2 := Aside0.mk (HB1.out.alloc HB1.out.size (.cells #[.slice A2 l1.length c2] 35))
    have HBL : Aside0 (w1.heap.size < (w1.alloc (.cells #[.slice A2 l1.length c2] 35)).heap.size) := ⟨by simp⟩
    have HBW := Aside0.mk HB1.out.size
    go_wp2
    go_loopw [14] (fun i wr => ∃ k : Nat, k ≤ l0.length ∧ i = .int .i64 k ∧ Aside0 (wr.heap[w1.heap.size]? = some (.cells #[.slice A2 l1.length c2] 35 (0, 0))) ∧ Aside0 (Kd.R (Kd.int .i64) 3 wr w.heap.size (fun _ => True) (.slice A2 l1.length c2) (didL (l0.take k) l1)) ∧ Aside0 (Below w.heap.size w wr)) (fun i _ => l0.length - (intOf i).toNat)
    case atStart => exact ⟨0, Nat.zero_le _, rfl, HBX, HO2, HB2⟩
    case round =>
      clear HBX HO2 HB2 hc2 HBL HO1
      obtain ⟨k, hk, rfl, HBX, HO, HB⟩ := hrel
      by_cases hlt : k < l0.length
      · have p1 : (0 : Int) ≤ (k : Int) := by omega
        have q1 : (k : Int) < l0.length := by omega
        obtain ⟨ad, rfl, hx0, hx1⟩ := at_T43 (Kd.C_below HR0.out HB.out) (k : Int) p1 q1
        simp only [Int.toNat_natCast] at hx0 hx1
        clear q1
        have HT := Aside0.mk (show didL (l0.take (k + 1)) l1 = stepD (didL (l0.take k) l1) (rd_T43 l0 k) by rw [List.take_succ_eq_append_getElem hlt, didL_snoc]; congr 1; unfold rd_T43; rw [Int.toNat_natCast, List.getD_eq_getElem?_getD, List.getElem?_eq_getElem hlt]; rfl)
        obtain ⟨out, hout⟩ : ∃ out, didL (l0.take k) l1 = out := ⟨_, rfl⟩
        have HLO : Aside0 (out.length = l1.length) := ⟨by rw [← hout, didL_len]⟩
        rw [hout] at HO HT
        clear hout
        obtain ⟨f0, hf0⟩ : ∃ f0, (rd_T43 l0 k).f0 = f0 := ⟨_, rfl⟩
        obtain ⟨f1, hf1⟩ : ∃ f1, (rd_T43 l0 k).f1 = f1 := ⟨_, rfl⟩
        have HS : Aside0 (stepD out (rd_T43 l0 k) = if (0 ≤ f0 ∧ f0 < (l1.length : Int)) ∧ (0 ≤ f1 ∧ f1 < (l1.length : Int)) then out.set f0.toNat (rd out f1) else out) := ⟨by
          unfold stepD inB; rw [hf0, hf1, HLO.out]; simp only [Bool.and_eq_true, decide_eq_true_eq]⟩
        rw [hf0] at hx0
        rw [hf1] at hx1
        clear hf0 hf1
        have hbx := blk_alloc HBX.out (.cells #[.int .i64 f0, .int .i64 f1] 43)
        have HBX1 := Aside0.mk hbx
        have HB1' := Aside0.mk (HB.out.alloc HB.out.size (.cells #[.int .i64 f0, .int .i64 f1] 43))
        have HO1 := Aside0.mk (Kd.R_alloc HO.out (.cells #[.int .i64 f0, .int .i64 f1] 43))
        clear hbx
        by_cases c0' : 0 ≤ f0 ∧ f0 < (l1.length : Int)
        · have g0 : (decide (0 ≤ f0) && decide (f0 < (l1.length : Int))) = true := by simp [c0'.1, c0'.2]
          by_cases c1' : 0 ≤ f1 ∧ f1 < (l1.length : Int)
          · have g1 : (decide (0 ≤ f1) && decide (f1 < (l1.length : Int))) = true := by simp [c1'.1, c1'.2]
            have HT2 := Aside0.mk (show didL (l0.take (k + 1)) l1 = out.set f0.toNat (rd out f1) by rw [HT.out, HS.out, if_pos ⟨c0', c1'⟩])
            obtain ⟨p3, q3⟩ := c0'
            obtain ⟨p4, q4⟩ := c1'
            obtain ⟨g, cap, hgv, hgb, hgl, cells, hgc⟩ := Kd.R_form HO1.out (by have := HLO.out; omega)
            injection hgv with e1 e2 e3
            subst e1 e3
            clear e2
            have hx5 := blk_cell HBX1.out 0
            have hcell := Kd.R_celln (0 : Int) HO1.out f1 p4 (by omega)
            have hfree := (Kd.R_celln (0 : Int) HO1.out f0 p3 (by omega)).2
            obtain ⟨hput, hgr⟩ := Kd.R_putg HO1.out f0 (rd out f1)
            have HPUT := Aside0.mk hput
            have HGR := Aside0.mk hgr
            have hc1 : (wr.alloc (.cells #[.int .i64 f0, .int .i64 f1] 43)).cell? ⟨g, f1.toNat, none⟩ = some (.int .i64 (rd out f1)) := hcell.1
            have hc0 : (wr.alloc (.cells #[.int .i64 f0, .int .i64 f1] 43)).cell? ⟨g, f0.toNat, none⟩ = some (.int .i64 (rd out f0)) := (Kd.R_celln (0 : Int) HO1.out f0 p3 (by omega)).1
            have hgB : g ≠ w1.heap.size := by
              intro e
              have h1 := HBX1.out
              rw [← e, hgc] at h1
              injection h1 with h1
              injection h1 with _ h1
              cases h1
            clear hput hgr hcell hgc
            go_wp2_with fail
            refine (in_val _ _ _ _ _ _ HBX1.out true g0).mono ?_
            rintro e w' ⟨rfl, rfl⟩
            go_wp2_with fail
            refine (in_val _ _ _ _ _ _ HBX1.out true g1).mono ?_
            rintro e w' ⟨rfl, rfl⟩
            go_wp2
            clear g0 g1
            go_region
            go_wp2
            go_roundw
            case rel => exact ⟨k + 1, by omega, by go_num, ⟨blk_drew (blk_far HBX1.out (p := ⟨g, f0.toNat, none⟩) hgB.symm _)⟩, ⟨by rw [HT2.out]; exact Kd.R_drew HPUT.out⟩, ⟨below_drew (HB1'.out.setCell hgb _)⟩⟩
            case measure => simp [intOf]; omega
          · have g1 : (decide (0 ≤ f1) && decide (f1 < (l1.length : Int))) = false := by
              by_cases h : 0 ≤ f1 <;> simp [h] <;> omega
            have HT2 := Aside0.mk (show didL (l0.take (k + 1)) l1 = out by rw [HT.out, HS.out, if_neg (fun h => c1' h.2)])
            clear c1'
            go_wp2_with fail
            refine (in_val _ _ _ _ _ _ HBX1.out true g0).mono ?_
            rintro e w' ⟨rfl, rfl⟩
            go_wp2_with fail
            refine (in_val _ _ _ _ _ _ HBX1.out false g1).mono ?_
            rintro e w' ⟨rfl, rfl⟩
            go_wp2
            go_roundw
            case rel => exact ⟨k + 1, by omega, by go_num, HBX1, ⟨by rw [HT2.out]; exact HO1.out⟩, HB1'⟩
            case measure => simp [intOf]; omega
        · have g0 : (decide (0 ≤ f0) && decide (f0 < (l1.length : Int))) = false := by
            by_cases h : 0 ≤ f0 <;> simp [h] <;> omega
          have HT2 := Aside0.mk (show didL (l0.take (k + 1)) l1 = out by rw [HT.out, HS.out, if_neg (fun h => c0' h.1)])
          clear c0'
          go_wp2_with fail
          refine (in_val _ _ _ _ _ _ HBX1.out false g0).mono ?_
          rintro e w' ⟨rfl, rfl⟩
          go_wp2
          go_roundw
          case rel => exact ⟨k + 1, by omega, by go_num, HBX1, ⟨by rw [HT2.out]; exact HO1.out⟩, HB1'⟩
          case measure => simp [intOf]; omega
      · obtain rfl : k = l0.length := by omega
        rw [List.take_length] at HO
        have hb5 := blk_cell HBX.out 0
        go_wp2
        go_ret
        exact ⟨_, rfl, HO.out, HB.out⟩
  · rw [if_neg hl] at h; cases h
end Go.Proofs.Ytchmddbenohmnaa.Mv
