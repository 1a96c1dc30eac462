/- Texts of this proof, joined in build order: En, Of, Scal, Sm, Ty. -/
import Derived.Test.YtanhnfhpajaolaaDoorJ02
import Derived.Test.YtanhnfhpajaolaaDoorJ01
import Derived.Test.YtanhnfhpajaolaaDoorJ00
import Derived.Laws.Externs
import Derived.Test.YtanhnfhpajaolaaDoorJ03
/- graph.ended. -/
namespace Go.Proofs.YtanhnfhpajaolaaDoor.Fo
open Go Go.RowKit Go.Proofs.YtanhnfhpajaolaaDoorW.PrintWords Go.Proofs.YtanhnfhpajaolaaDoorW.PrintLast Go.Proofs.YtanhnfhpajaolaaDoorW.PrintMore Go.Proofs.YtanhnfhpajaolaaDoor.F Go.Proofs.YtanhnfhpajaolaaDoor.Cf
set_option linter.unusedVariables false
set_option linter.unusedSimpArgs false
@[local go_sem high] theorem eqTo (d : Nat) (w : World) (x0 y0 : Int) (x1 y1 : Int) :
    (Op.equalIn (d + 2) 37 (.agg #[.int .i64 x0, .int .i64 x1]) (.agg #[.int .i64 y0, .int .i64 y1])).run Tryd.prog w = .ok (x0 == y0 && x1 == y1) w := Arr.eqA_arr2 Tryd.underlying37 Tryd.underlying3 Tryd.sizeOf3 Tryd.isAgg3 d w x0 y0 x1 y1
def blockB (nb k : Int) : Bool := decide (0 < k) && decide (k < nb)
def ofB (vars : List Int) (arg want : Int) : Bool := inB arg vars.length && rd vars arg == want
def endedB (nb res : Int) (vars : List Int) (kind arg t0 t1 trap : Int) : Bool :=
  if kind = 1 then blockB nb t0 && (t1 == 0 && (arg == 0 && trap == 0))
  else if kind = 2 then blockB nb t0 && (blockB nb t1 && (ofB vars arg 1 && trap == 0))
  else if kind = 3 then ofB vars arg res && ((t0 == 0 && t1 == 0) && trap == 0)
  else if kind = 4 then decide (1 ≤ trap) && (decide (trap ≤ 3) && (arg == 0 && (t0 == 0 && t1 == 0)))
  else false
set_option maxHeartbeats 40000000 in
set_option maxRecDepth 100000 in
theorem ended_calls (nm : ByteArray) (A1 A3 A4 A5 : Option Addr) (n1 n4 n5 c1 c3 c4 c5 : Nat) (vars : List Int) (res : Int) (kind arg t0 t1 trap : Int) (w : World)
    (hr : Kd.C (Kd.int .u8) w A3 vars.length vars) :
    Calls Tryd.prog 90 #[.agg #[.string nm, .slice A1 n1 c1, .int .u8 res, .slice A3 vars.length c3, .slice A4 n4 c4, .slice A5 n5 c5], .agg #[.int .u8 kind, .int .i64 arg, .int .i64 t0, .int .i64 t1, .int .u8 trap]] w fun e w' => e = .returned (.bool (endedB n5 res vars kind arg t0 t1 trap)) ∧ Below w.heap.size w w' := by
  have hcell : 0 ≤ arg → arg < (vars.length : Int) → ∃ ad, A3 = some ad ∧ w.cell? (ad.add arg.toNat) = some (.int .u8 (rd vars arg)) := fun h0 h1 => Kd.at_int hr arg h0 h1
  by_cases hin : 0 ≤ arg ∧ arg < (vars.length : Int)
  · obtain ⟨h0, h1⟩ := hin
    obtain ⟨ad, rfl, hx⟩ := hcell h0 h1
    have hx2 : ∀ o1 o2 : Obj, ((w.alloc o1).alloc o2).cell? (ad.add arg.toNat) = some (.int .u8 (rd vars arg)) := fun o1 o2 => pw_cell_below (below_alloc (below_alloc (Below.refl _ _) _) _) hx
    clear hcell hx hr
    go_enter Tryd.func90, Tryd.ntmps90
    go_wp2
    all_goals first
      | (go_ret; exact ⟨by clear hx2; simp_all [endedB, blockB, ofB, inB] <;> (intros; omega), by repeat (first | exact Below.refl _ _ | (with_reducible apply below_alloc) | (with_reducible apply pw_below_drewN))⟩)
      | skip
  · have hin1 : inB arg vars.length = false := by
      unfold inB
      by_cases h0 : 0 ≤ arg
      · have : ¬ arg < (vars.length : Int) := fun h => hin ⟨h0, h⟩
        simp [this]
      · simp [h0]
    have hof : ∀ x, ofB vars arg x = false := fun x => by simp [ofB, hin1]
    clear hcell hr
    by_cases h0 : 0 ≤ arg
    · have h1 : (vars.length : Int) ≤ arg := by omega
      clear hin
      have HOF := Aside0.mk hof
      clear hof hin1
      go_enter Tryd.func90, Tryd.ntmps90
      go_wp2
      all_goals first
        | (go_ret; exact ⟨by have hof := HOF.out; simp_all [endedB, blockB] <;> (intros; omega), by repeat (first | exact Below.refl _ _ | (with_reducible apply below_alloc) | (with_reducible apply pw_below_drewN))⟩)
        | skip
    · have h1 : arg < 0 := by omega
      clear hin h0
      have HOF := Aside0.mk hof
      clear hof hin1
      go_enter Tryd.func90, Tryd.ntmps90
      go_wp2
      all_goals first
        | (go_ret; exact ⟨by have hof := HOF.out; simp_all [endedB, blockB] <;> (intros; omega), by repeat (first | exact Below.refl _ _ | (with_reducible apply below_alloc) | (with_reducible apply pw_below_drewN))⟩)
        | skip
end Go.Proofs.YtanhnfhpajaolaaDoor.Fo
/- scalar.Of. -/
namespace Go.Proofs.YtanhnfhpajaolaaDoor.Sc
open Go Go.RowKit Go.Proofs.YtanhnfhpajaolaaDoorW.PrintWords Go.Proofs.YtanhnfhpajaolaaDoorW.PrintLast Go.Proofs.YtanhnfhpajaolaaDoorW.PrintMore
set_option linter.unusedVariables false
set_option linter.unusedSimpArgs false
def ofG (op t : Int) : Int × Bool :=
  if t < 1 ∨ 5 < t then (0, false)
  else if op = 1 ∨ op = 2 ∨ op = 3 ∨ op = 4 ∨ op = 17 then (if t = 1 then (0, false) else (t, true))
  else if op = 5 ∨ op = 9 ∨ op = 10 then (if t = 2 ∨ t = 3 ∨ t = 4 then (t, true) else (0, false))
  else if op = 6 ∨ op = 7 ∨ op = 8 ∨ op = 18 then (if t = 5 then (0, false) else (t, true))
  else if op = 13 ∨ op = 14 ∨ op = 15 ∨ op = 16 then (if t = 1 then (0, false) else (1, true))
  else if op = 11 ∨ op = 12 then (1, true) else (0, false)
set_option maxHeartbeats 40000000 in
set_option maxRecDepth 100000 in
theorem of_calls (op t : Int) (w : World) : Calls Tryd.prog 166 #[.int .u8 op, .int .u8 t] w fun e w' => e = .returned (.tuple #[.int .u8 (ofG op t).1, .bool (ofG op t).2]) ∧ w = w' := by
  by_cases ht : t < 1 ∨ 5 < t
  · have hq : ofG op t = (0, false) := by unfold ofG; rw [if_pos ht]
    rw [hq]
    rcases ht with h | h
    · go_enter Tryd.func166, Tryd.ntmps166
      go_wp2
      go_ret2
      exact ⟨rfl, rfl⟩
    · have h' : ¬ t < 1 := by omega
      go_enter Tryd.func166, Tryd.ntmps166
      go_wp2
      go_ret2
      exact ⟨rfl, rfl⟩
  have h1 : ¬ t < 1 := by omega
  have h2 : ¬ 5 < t := by omega
  have ht5 : t = 1 ∨ t = 2 ∨ t = 3 ∨ t = 4 ∨ t = 5 := by omega
  clear ht
  go_enter Tryd.func166, Tryd.ntmps166
  go_wp2
  all_goals (go_ret2; exact ⟨by rcases ht5 with rfl | rfl | rfl | rfl | rfl <;> simp_all [ofG], rfl⟩)
end Go.Proofs.YtanhnfhpajaolaaDoor.Sc
/- scalar.Cut and the reference's isNaN: the two functions that look at a float's bits. -/
namespace Go.Proofs.YtanhnfhpajaolaaDoor.Sc
open Go Go.RowKit Go.Proofs.YtanhnfhpajaolaaDoorW.PrintWords Go.Proofs.YtanhnfhpajaolaaDoorW.PrintLast Go.Proofs.YtanhnfhpajaolaaDoorW.PrintMore Go.Proofs.YtanhnfhpajaolaaDoor.F
set_option linter.unusedVariables false
set_option linter.unusedSimpArgs false
/-- are these bits no number? -/
def nanB (w : Int) : Bool := !(Op.floatEq .f64 w.toNat w.toNat)
theorem frombits (n : Int) (w : World) : (callFunc 120 #[.int .u64 n]).run Tryd.prog w = .ok (.value (.float .f64 n.toNat)) w := by
  rw [run_callFunc_extern Tryd.func120 (by kernel_rfl) (by kernel_rfl) (by kernel_rfl) (e := Extern.MathFloatBits.float64frombits) (by rfl)]
  rfl
theorem neq_float (a : Nat) (w : World) : (binOp .neq 174 (.float .f64 a) (.float .f64 a)).run Tryd.prog w = .ok (.bool (!(Op.floatEq .f64 a a))) w := by
  have : (Op.floatCmp .neq .f64 a a).run Tryd.prog w = .ok (.bool (!(Op.floatEq .f64 a a))) w := rfl
  simp [binOp, this]
theorem neq_val (a : Int) (b : Bool) (h : nanB a = b) (w : World) : (binOp .neq 174 (.float .f64 a.toNat) (.float .f64 a.toNat)).run Tryd.prog w = .ok (.bool b) w := by
  rw [neq_float, ← h]; rfl
theorem isNaN_calls (a0 : Int) (w : World) : Calls Tryd.prog 146 #[.int .u64 a0] w fun e w' => e = .returned (.bool (nanB a0)) ∧ Drawn0 w w' := by
  have h1 := frombits a0
  have h2 := neq_float a0.toNat
  go_enter Tryd.func146, Tryd.ntmps146
  go_wp2
  go_ret
  exact ⟨rfl, Drawn0.refl _⟩
def cutG (t w : Int) : Int := if t = 1 then Go.bits .and .u64 w 1 else if t = 2 then w % 256 else if t = 3 then IntKind.u64.wrap (wrap64 (wrap32 w)) else if t = 5 then (if nanB w = true then 9221120237041090560 else w) else if t = 4 then w else 0
set_option maxRecDepth 10000 in
theorem cut_calls (t a : Int) (w : World) : Calls Tryd.prog 76 #[.int .u8 t, .int .u64 a] w fun e w' => e = .returned (.int .u64 (cutG t a)) ∧ Drawn0 w w' := by
  by_cases c1 : t = 1
  · subst c1
    go_enter Tryd.func76, Tryd.ntmps76
    go_wp2
    go_ret
    exact ⟨rfl, Drawn0.refl _⟩
  by_cases c2 : t = 2
  · subst c2
    go_enter Tryd.func76, Tryd.ntmps76
    go_wp2
    go_ret
    exact ⟨rfl, Drawn0.refl _⟩
  by_cases c3 : t = 3
  · subst c3
    go_enter Tryd.func76, Tryd.ntmps76
    go_wp2
    go_ret
    exact ⟨rfl, Drawn0.refl _⟩
  by_cases c5 : t = 5
  · subst c5
    clear c1 c2 c3
    have h1 := frombits a
    cases hn : nanB a with
    | true =>
      have hq : cutG 5 a = 9221120237041090560 := by simp [cutG, hn]
      have h2 := neq_val a _ hn
      have HQ := Aside0.mk hq
      clear hq hn
      go_enter Tryd.func76, Tryd.ntmps76
      go_wp2
      go_ret
      exact ⟨by rw [HQ.out]; rfl, Drawn0.refl _⟩
    | false =>
      have hq : cutG 5 a = a := by simp [cutG, hn]
      have h2 := neq_val a _ hn
      have HQ := Aside0.mk hq
      clear hq hn
      go_enter Tryd.func76, Tryd.ntmps76
      go_wp2
      go_ret
      exact ⟨by rw [HQ.out]; rfl, Drawn0.refl _⟩
  by_cases c4 : t = 4
  · subst c4
    go_enter Tryd.func76, Tryd.ntmps76
    go_wp2
    go_ret
    exact ⟨rfl, Drawn0.refl _⟩
  have b1 : (t == 1) = false := by simpa using c1
  have b2 : (t == 2) = false := by simpa using c2
  have b3 : (t == 3) = false := by simpa using c3
  have b4 : (t == 4) = false := by simpa using c4
  have b5 : (t == 5) = false := by simpa using c5
  have hq : cutG t a = 0 := by simp [cutG, c1, c2, c3, c4, c5]
  have HQ := Aside0.mk hq
  clear hq c1 c2 c3 c4 c5
  go_enter Tryd.func76, Tryd.ntmps76
  go_wp2
  go_ret
  exact ⟨by rw [HQ.out]; rfl, Drawn0.refl _⟩
end Go.Proofs.YtanhnfhpajaolaaDoor.Sc
/- scalar.Right, scalar.Turns, graph.operated. -/
namespace Go.Proofs.YtanhnfhpajaolaaDoor.Sc
open Go Go.RowKit Go.Proofs.YtanhnfhpajaolaaDoorW.PrintWords Go.Proofs.YtanhnfhpajaolaaDoorW.PrintLast Go.Proofs.YtanhnfhpajaolaaDoorW.PrintMore
set_option linter.unusedVariables false
set_option linter.unusedSimpArgs false
def rightB (t w : Int) : Bool := decide (1 ≤ t) && (decide (t ≤ 5) && (cutG t w == w))
def wholeB (t : Int) : Bool := t == 2 || (t == 3 || t == 4)
def turnsB (a b : Int) : Bool := (wholeB a || a == 5) && (wholeB b || b == 5)
theorem right_calls (t a : Int) (w : World) : Calls Tryd.prog 58 #[.int .u8 t, .int .u64 a] w fun e w' => e = .returned (.bool (rightB t a)) ∧ Drawn0 w w' := by
  obtain ⟨c, hc⟩ : ∃ c, cutG t a = c := ⟨_, rfl⟩
  have hq : rightB t a = (decide (1 ≤ t) && (decide (t ≤ 5) && (c == a))) := by unfold rightB; rw [hc]
  rw [hq]
  have HC := Aside0.mk hc
  clear hc hq
  go_enter Tryd.func58, Tryd.ntmps58
  go_wp2_with (go_at_call 76; refine (cut_calls _ _ _).mono ?_; rw [HC.out]; rintro e w' ⟨rfl, ⟨nd, rfl⟩⟩)
  all_goals (go_ret; exact ⟨by simp_all <;> (intros; omega), by repeat (first | exact Drawn0.refl _ | apply Drawn0.step)⟩)
theorem turns_calls (a b : Int) (w : World) : Calls Tryd.prog 140 #[.int .u8 a, .int .u8 b] w fun e w' => e = .returned (.bool (turnsB a b)) ∧ w = w' := by
  go_enter Tryd.func140, Tryd.ntmps140
  go_wp2
  all_goals (go_ret; exact ⟨by simp_all [turnsB, wholeB, Bool.or_assoc], rfl⟩)
theorem add0 (a : Addr) : a.add 0 = a := by unfold Addr.add; simp
theorem add1 (a : Addr) : a.add 1 = ⟨a.block, a.off + 1, none⟩ := by unfold Addr.add; simp
def opN (op : Int) : Nat := if op = 17 ∨ op = 18 then 1 else 2
def operatedB (op : Int) (ts : List Int) (t : Int) : Bool :=
  decide (ts.length = opN op) && (rd ts 0 == rd ts ((opN op : Int) - 1) && ((ofG op (rd ts 0)).2 && (ofG op (rd ts 0)).1 == t))
set_option maxHeartbeats 40000000 in
set_option maxRecDepth 100000 in
theorem operated_calls (op : Int) (A : Option Addr) (c : Nat) (ts : List Int) (t : Int) (w : World) (hr : Kd.C (Kd.int .u8) w A ts.length ts) :
    Calls Tryd.prog 139 #[.int .u8 op, .slice A ts.length c, .int .u8 t] w fun e w' => e = .returned (.bool (operatedB op ts t)) ∧ Drawn0 w w' := by
  have hlen : ts.length ≤ 9223372036854775807 := hr.2.1
  by_cases h17 : op = 17 ∨ op = 18
  · have hn : opN op = 1 := by unfold opN; rw [if_pos h17]
    by_cases hl : ts.length = 1
    · obtain ⟨x, rfl⟩ := List.length_eq_one_iff.1 hl
      obtain ⟨ad, rfl, hx⟩ := Kd.at_int hr 0 (by omega) (by simp)
      obtain ⟨⟨t1, ok⟩, ho⟩ : ∃ p, ofG op x = p := ⟨_, rfl⟩
      have hq : operatedB op [x] t = (ok && t1 == t) := by simp [operatedB, hn, rd, ho]
      have hx0 : w.cell? (ad.add 0) = some (.int .u8 x) := hx
      have hx00 : w.cell? ad = some (.int .u8 x) := by rw [add0] at hx0; exact hx0
      have hc1 : (x != x) = false := by simp
      rw [hq]
      have HO := Aside0.mk ho
      clear hr hlen hl hq hx ho hn
      rcases h17 with rfl | rfl
      all_goals
        go_enter Tryd.func139, Tryd.ntmps139
        go_wp2
        go_quiet (fail)
        go_wp2_with (go_at_call 166; refine (of_calls _ _ _).mono ?_; rw [HO.out]; rintro e w' ⟨rfl, rfl⟩)
      all_goals (go_ret; exact ⟨by cases ok <;> simp_all, by repeat (first | exact Drawn0.refl _ | apply Drawn0.step)⟩)
    · have hq : operatedB op ts t = false := by simp [operatedB, hn, hl]
      have hl' : ((ts.length : Int) != 1) = true := by simp; omega
      rw [hq]
      clear hr hq hl hn
      rcases h17 with rfl | rfl
      all_goals
        go_enter Tryd.func139, Tryd.ntmps139
        go_wp2
        go_quiet (fail)
        go_wp2
        go_ret
        exact ⟨rfl, by repeat (first | exact Drawn0.refl _ | apply Drawn0.step)⟩
  · have hn : opN op = 2 := by unfold opN; rw [if_neg h17]
    have h1 : (op == 17) = false := by simp; omega
    have h2 : (op == 18) = false := by simp; omega
    by_cases hl : ts.length = 2
    · obtain ⟨x, y, rfl⟩ : ∃ x y, ts = [x, y] := by
        match ts, hl with
        | [x, y], _ => exact ⟨x, y, rfl⟩
      obtain ⟨ad, rfl, hx⟩ := Kd.at_int hr 0 (by omega) (by simp)
      obtain ⟨ad', e, hy⟩ := Kd.at_int hr 1 (by omega) (by simp)
      injection e with e
      subst e
      obtain ⟨⟨t1, ok⟩, ho⟩ : ∃ p, ofG op x = p := ⟨_, rfl⟩
      have hq : operatedB op [x, y] t = (x == y && (ok && t1 == t)) := by simp [operatedB, hn, rd, ho]
      have hx0 : w.cell? (ad.add 0) = some (.int .u8 x) := hx
      have hx00 : w.cell? ad = some (.int .u8 x) := by rw [add0] at hx0; exact hx0
      have hx1 : w.cell? (ad.add 1) = some (.int .u8 y) := hy
      have hx00 : w.cell? ad = some (.int .u8 x) := by rw [add0] at hx0; exact hx0
      have hw1 : IntKind.i64.wrap 1 = 1 := by decide
      have hx11 : w.cell? ⟨ad.block, ad.off + 1, none⟩ = some (.int .u8 y) := by rw [add1] at hx1; exact hx1
      rw [hq]
      have HO := Aside0.mk ho
      clear hr hlen hl hq hx hy ho hn h17
      by_cases hxy : x = y
      · subst hxy
        have hc1 : (x != x) = false := by simp
        go_enter Tryd.func139, Tryd.ntmps139
        go_wp2
        go_quiet (fail)
        go_wp2_with (go_at_call 166; refine (of_calls _ _ _).mono ?_; rw [HO.out]; rintro e w' ⟨rfl, rfl⟩)
        all_goals (go_ret; exact ⟨by cases ok <;> simp_all, by repeat (first | exact Drawn0.refl _ | apply Drawn0.step)⟩)
      · have hc1 : (x != y) = true := by simpa using hxy
        have hc2 : (x == y) = false := by simpa using hxy
        rw [hc2]
        go_enter Tryd.func139, Tryd.ntmps139
        go_wp2
        go_quiet (fail)
        go_wp2
        go_ret
        exact ⟨by simp, by repeat (first | exact Drawn0.refl _ | apply Drawn0.step)⟩
    · have hq : operatedB op ts t = false := by simp [operatedB, hn, hl]
      have hl' : ((ts.length : Int) != 2) = true := by simp; omega
      rw [hq]
      clear hr hq hl hn h17
      go_enter Tryd.func139, Tryd.ntmps139
      go_wp2
      go_quiet (fail)
      go_wp2
      go_ret
      exact ⟨rfl, by repeat (first | exact Drawn0.refl _ | apply Drawn0.step)⟩
end Go.Proofs.YtanhnfhpajaolaaDoor.Sc
/- graph.Type. -/
namespace Go.Proofs.YtanhnfhpajaolaaDoor.Fo
open Go Go.RowKit Go.Proofs.YtanhnfhpajaolaaDoorW.PrintWords Go.Proofs.YtanhnfhpajaolaaDoorW.PrintLast Go.Proofs.YtanhnfhpajaolaaDoorW.PrintMore Go.Proofs.YtanhnfhpajaolaaDoor.F Go.Proofs.YtanhnfhpajaolaaDoor.Cf Go.Proofs.YtanhnfhpajaolaaDoor.Sc
set_option linter.unusedVariables false
set_option linter.unusedSimpArgs false
def toT (vars : List Int) (kind dst : Int) : Int := if (rd_T181 formsT kind).f0 then rd vars dst else 0
def okB (p : List S28) (vars : List Int) (arrs : List S113) (kind op dst : Int) (args : List Int) (bits ref : Int) : Bool :=
  if kind = 1 ∨ kind = 3 then !((typesL vars args).any fun v => v != toT vars kind dst)
  else if kind = 2 then rightB (toT vars kind dst) bits
  else if kind = 4 then operatedB op (typesL vars args) (toT vars kind dst)
  else if kind = 5 then turnsB (toT vars kind dst) (rd (typesL vars args) 0)
  else if kind = 6 then rd (typesL vars args) 0 == 4 && toT vars kind dst == (rd_T113 arrs ref).f0
  else if kind = 7 then rd (typesL vars args) 0 == 4 && rd (typesL vars args) 1 == (rd_T113 arrs ref).f0
  else if kind = 9 then calledB p ref (typesL vars args) (toT vars kind dst)
  else true
def typeB (p : List S28) (vars : List Int) (arrs : List S113) (kind op dst : Int) (args : List Int) (bits ref : Int) : Int × Bool :=
  if formedB vars.length arrs.length kind op dst args bits ref && okB p vars arrs kind op dst args bits ref then (toT vars kind dst, true) else (0, false)
theorem bcell {W w1 : World} (hb : Below W.heap.size W w1) : (∀ b o, b < W.heap.size → w1.cell? ⟨b, o, none⟩ = W.cell? ⟨b, o, none⟩) ∧ (∀ b o, b < W.heap.size → w1.frozen? ⟨b, o, none⟩ = W.frozen? ⟨b, o, none⟩) :=
  ⟨fun b o h => hb.cell (p := ⟨b, o, none⟩) h, fun b o h => hb.frozen (p := ⟨b, o, none⟩) h⟩
set_option maxHeartbeats 40000000 in
set_option maxRecDepth 100000 in
theorem type_no (p : List S28) (A0 : Option Addr) (c0 : Nat) (nm : ByteArray) (A1 A3 A4 A5 : Option Addr) (c1 c3 c4 c5 : Nat) (ps vars : List Int) (arrs : List S113) (blocks : List S43) (res : Int) (kind op dst : Int) (Aa : Option Addr) (ca : Nat) (args : List Int) (bits ref : Int) (w : World)
    (hg : Kd.C k181 w (some ⟨2, 0, none⟩) 11 formsT) (hr : Kd.C (Kd.int .i64) w Aa args.length args) (hc : args.length ≤ ca) (hf : formedB vars.length arrs.length kind op dst args bits ref = false) :
    Calls Tryd.prog 92 #[.slice A0 p.length c0, .agg #[.string nm, .slice A1 ps.length c1, .int .u8 res, .slice A3 vars.length c3, .slice A4 arrs.length c4, .slice A5 blocks.length c5], .agg #[.int .u8 kind, .int .u8 op, .int .i64 dst, .slice Aa args.length ca, .int .u64 bits, .int .i64 ref]] w fun e w' => e = .returned (.tuple #[.int .u8 0, .bool false]) ∧ Below w.heap.size w w' := by
  have HG := Aside0.mk hg
  have HR := Aside0.mk hr
  have HC := Aside0.mk hc
  have HF := Aside0.mk hf
  clear hg hr hc hf
  go_enter Tryd.func92, Tryd.ntmps92
  go_wp2_with (go_at_call 135; refine (formed_calls nm A1 A3 A4 A5 ps.length vars.length arrs.length blocks.length c1 c3 c4 c5 res kind op dst Aa ca args bits ref _ (by repeat (first | exact HG.out | (with_reducible refine Kd.C_alloc ?_ _))) (by repeat (first | exact HR.out | (with_reducible refine Kd.C_alloc ?_ _))) HC.out).mono ?_; rw [HF.out]; rintro e w1 ⟨rfl, hb⟩; have HB := Aside0.mk hb; clear hb)
  go_ret2
  exact ⟨rfl, below_step (by repeat (first | exact Below.refl _ _ | (with_reducible apply below_alloc))) HB.out⟩
theorem turns_val (a b : Int) (r : Bool) (h : turnsB a b = r) (w : World) : Calls Tryd.prog 140 #[.int .u8 a, .int .u8 b] w fun e w' => e = .returned (.bool r) ∧ w' = w := (turns_calls a b w).mono fun e w' hh => ⟨by rw [← h]; exact hh.1, hh.2.symm⟩
set_option maxHeartbeats 40000000 in
set_option maxRecDepth 100000 in
theorem type_yes (p : List S28) (A0 : Option Addr) (c0 : Nat) (nm : ByteArray) (A1 A3 A4 A5 : Option Addr) (c1 c3 c4 c5 : Nat) (ps vars : List Int) (arrs : List S113) (blocks : List S43) (res : Int) (kind op dst : Int) (Aa : Option Addr) (ca : Nat) (args : List Int) (bits ref : Int) (w : World)
    (hg : Kd.C k181 w (some ⟨2, 0, none⟩) 11 formsT) (hr0 : Kd.C k28 w A0 p.length p) (hc0 : p.length ≤ c0) (hr1 : Kd.C (Kd.int .i64) w A1 ps.length ps) (hc1 : ps.length ≤ c1) (hr3 : Kd.C (Kd.int .u8) w A3 vars.length vars) (hc3 : vars.length ≤ c3) (hr4 : Kd.C k113 w A4 arrs.length arrs) (hc4 : arrs.length ≤ c4) (hr5 : Kd.C k43 w A5 blocks.length blocks) (hc5 : blocks.length ≤ c5)
    (hr : Kd.C (Kd.int .i64) w Aa args.length args) (hc : args.length ≤ ca) (hl : args.length ≤ 281474976710656) (hp : ∀ g ∈ p, g.f1.length ≤ 281474976710656) (hf : formedB vars.length arrs.length kind op dst args bits ref = true) (r : Int × Bool) (hres : (if okB p vars arrs kind op dst args bits ref then (toT vars kind dst, true) else (0, false)) = r) :
    Calls Tryd.prog 92 #[.slice A0 p.length c0, .agg #[.string nm, .slice A1 ps.length c1, .int .u8 res, .slice A3 vars.length c3, .slice A4 arrs.length c4, .slice A5 blocks.length c5], .agg #[.int .u8 kind, .int .u8 op, .int .i64 dst, .slice Aa args.length ca, .int .u64 bits, .int .i64 ref]] w fun e w' => e = .returned (.tuple #[.int .u8 r.1, .bool r.2]) ∧ Below w.heap.size w w' := by
  have hkk : 1 ≤ kind ∧ kind ≤ 10 := by
    unfold formedB at hf
    simp only [Bool.and_eq_true, decide_eq_true_eq] at hf
    exact ⟨hf.1.1.1.1.1.1.1.1, hf.1.1.1.1.1.1.1.2⟩
  have hin : inAll args vars.length := by
    have h2 : args.any (outB vars.length) = false := by
      unfold formedB at hf
      simp only [Bool.and_eq_true] at hf
      simpa using hf.2
    intro v hv
    have := List.any_eq_false.1 h2 v hv
    simpa [outB] using this
  obtain ⟨k, rfl⟩ : ∃ k : Nat, kind = (k : Int) := ⟨kind.toNat, by omega⟩
  have hk1 : k < 11 := by omega
  obtain ⟨f0, f1, f2, f3, f4⟩ := fcells hg k hk1
  have hlt : 2 < w.heap.size := World.block_lt_of_cell? _ _ f0
  obtain ⟨K, hK⟩ : ∃ K, args.length < K := ⟨_, Nat.lt_succ_self _⟩
  have ht := types_some nm ps res vars arrs blocks args hl hin K hK
  have HT := Aside0.mk ht
  have HG := Aside0.mk hg
  have HR := Aside0.mk hr
  have HC := Aside0.mk hc
  have HR0 := Aside0.mk hr0
  have HC0 := Aside0.mk hc0
  have HR1 := Aside0.mk hr1
  have HC1 := Aside0.mk hc1
  have HR3 := Aside0.mk hr3
  have HC3 := Aside0.mk hc3
  have HR4 := Aside0.mk hr4
  have HC4 := Aside0.mk hc4
  have HR5 := Aside0.mk hr5
  have HC5 := Aside0.mk hc5
  have HF := Aside0.mk hf
  have HP := Aside0.mk hp
  have HRES := Aside0.mk hres
  have HIN := Aside0.mk hin
  clear hg hr hc hf hr0 hc0 hr1 hc1 hr3 hc3 hr4 hc4 hr5 hc5 hp hl hK hres hin ht
  go_enter Tryd.func92, Tryd.ntmps92
  go_wp2_with (go_at_call 135; refine (formed_calls nm A1 A3 A4 A5 ps.length vars.length arrs.length blocks.length c1 c3 c4 c5 res k op dst Aa ca args bits ref _ (by repeat (first | exact HG.out | (with_reducible refine Kd.C_alloc ?_ _))) (by repeat (first | exact HR.out | (with_reducible refine Kd.C_alloc ?_ _))) HC.out).mono ?_; rw [HF.out]; rintro e w1 ⟨rfl, hb⟩; obtain ⟨hcb, hfb⟩ := bcell hb; have HB := Aside0.mk hb; clear hb)
  have hs0 : w.heap.size + 1 + 1 ≤ w1.heap.size := by have := HB.out.size; simpa using this
  have HW1 := Aside0.mk (show Below w.heap.size w w1 from below_step (by repeat (first | exact Below.refl _ _ | (with_reducible apply below_alloc))) HB.out)
  refine (graph_types.calls K nm A1 c1 ps res A3 c3 vars A4 c4 arrs A5 c5 blocks Aa ca args (typesL vars args) w1 (Kd.C_below HR1.out HW1.out) HC1.out (Kd.C_below HR3.out HW1.out) HC3.out (Kd.C_below HR4.out HW1.out) HC4.out (Kd.C_below HR5.out HW1.out) HC5.out (Kd.C_below HR.out HW1.out) HC.out HT.out).mono ?_
  rintro e w2 ⟨v, rfl, ho, hb2⟩
  obtain ⟨A2, c2, rfl, hc2, hr2⟩ := Kd.R_reads ho
  obtain ⟨ts, hts⟩ : ∃ ts, typesL vars args = ts := ⟨_, rfl⟩
  have hcb2 : ∀ b o, b < w1.heap.size → w2.cell? ⟨b, o, none⟩ = w1.cell? ⟨b, o, none⟩ := fun b o h => hb2.cell (p := ⟨b, o, none⟩) h
  have hs1 : w1.heap.size ≤ w2.heap.size := hb2.size
  have hq0 : w.heap.size < w1.heap.size := by omega
  have hq1 : w.heap.size + 1 < w1.heap.size := by omega
  have HW2 := Aside0.mk (show Below w.heap.size w w2 from below_step HW1.out hb2)
  rw [hts] at hr2 hc2
  have HR2 := Aside0.mk hr2
  have HC2 := Aside0.mk hc2
  have HTS := Aside0.mk hts
  rw [hts]
  have g0 : ∀ o : Obj, (w2.alloc o).cell? ⟨2, k * 5, none⟩ = some (.bool (rd_T181 formsT (k : Int)).f0) := fun o => pw_cell_below (below_alloc HW2.out o) f0
  have hB2 := below_step HB.out hb2
  have hgb : ∀ (o : Obj) (j : Nat), (w2.alloc o).cell? ⟨w.heap.size, j, none⟩ = (#[.string nm, .slice A1 ps.length c1, .int .u8 res, .slice A3 vars.length c3, .slice A4 arrs.length c4, .slice A5 blocks.length c5] : Array Value)[j]? := fun o j => blk_cell (blk_alloc (blk_below (blk_alloc (blk_new w _) _) hB2) o) j
  have hxb : ∀ (o : Obj) (j : Nat), (w2.alloc o).cell? ⟨w.heap.size + 1, j, none⟩ = (#[.int .u8 (k : Int), .int .u8 op, .int .i64 dst, .slice Aa args.length ca, .int .u64 bits, .int .i64 ref] : Array Value)[j]? := fun o j => by
    have h1 := blk_new (w.alloc (.cells #[.string nm, .slice A1 ps.length c1, .int .u8 res, .slice A3 vars.length c3, .slice A4 arrs.length c4, .slice A5 blocks.length c5] 28)) (.cells #[.int .u8 (k : Int), .int .u8 op, .int .i64 dst, .slice Aa args.length ca, .int .u64 bits, .int .i64 ref] 49)
    have hs : (w.alloc (.cells #[.string nm, .slice A1 ps.length c1, .int .u8 res, .slice A3 vars.length c3, .slice A4 arrs.length c4, .slice A5 blocks.length c5] 28)).heap.size = w.heap.size + 1 := by simp
    rw [hs] at h1
    exact blk_cell (blk_alloc (blk_below h1 hB2) o) j
  clear hr2 hc2 hts ho f0 f1 f2 f3 f4 hb2 HT hs0 hs1 hB2 hcb hfb hcb2
  rcases (show k = 1 ∨ k = 2 ∨ k = 3 ∨ k = 4 ∨ k = 5 ∨ k = 6 ∨ k = 7 ∨ k = 8 ∨ k = 9 ∨ k = 10 by omega) with rfl | rfl | rfl | rfl | rfl | rfl | rfl | rfl | rfl | rfl
  all_goals clear hk1 hkk
  all_goals simp only [formsT, rd_T181] at g0
  · have hd : 0 ≤ dst ∧ dst < (vars.length : Int) := by
      have := HF.out
      simp [formedB, formsT, rd_T181, inB] at this
      omega
    obtain ⟨ad, e, hx0⟩ := Kd.at_int HR3.out dst hd.1 hd.2
    subst e
    obtain ⟨hd0, hd1⟩ := hd
    have hx : ∀ o : Obj, (w2.alloc o).cell? (ad.add dst.toNat) = some (.int .u8 (rd vars dst)) := fun o => pw_cell_below (below_alloc HW2.out o) hx0
    clear hx0
    have h1 : okB p vars arrs ((1 : Nat) : Int) op dst args bits ref = (!(ts.any fun v => v != rd vars dst)) := by simp [okB, toT, formsT, rd_T181, HTS.out]
    have h2 : toT vars ((1 : Nat) : Int) dst = rd vars dst := by simp [toT, formsT, rd_T181]
    obtain ⟨b, hb⟩ : ∃ b, (!(ts.any fun v => v != rd vars dst)) = b := ⟨_, rfl⟩
    have hr' : (if b = true then (rd vars dst, true) else (0, false)) = r := by rw [← HRES.out, h1, hb, h2]
    have HB2 := Aside0.mk hb
    clear h1 h2 hb
    have HB3 : Aside0 ((ts.any fun v => v != rd vars dst) = !b) := ⟨by rw [← HB2.out]; simp⟩
    cases b
    all_goals
      obtain rfl := hr'
      go_wp2_with (go_at_call 137; refine (anyNot.calls A2 c2 ts (rd vars dst) _ _ (by repeat (first | exact HR2.out | (with_reducible refine Kd.C_alloc ?_ _) | (with_reducible refine Kd.C_drewN ?_ _))) HC2.out w2.heap.size _ _ (blk_new _ _) rfl rfl).mono ?_; rw [HB3.out]; rintro e w3 ⟨rfl, ⟨nd, rfl⟩⟩)
      go_ret2
      exact ⟨rfl, by repeat (first | exact HW2.out | (with_reducible apply below_alloc) | (with_reducible apply pw_below_drewN) | (with_reducible apply below_drew1))⟩
  · have hd : 0 ≤ dst ∧ dst < (vars.length : Int) := by
      have := HF.out
      simp [formedB, formsT, rd_T181, inB] at this
      omega
    obtain ⟨ad, e, hx0⟩ := Kd.at_int HR3.out dst hd.1 hd.2
    subst e
    obtain ⟨hd0, hd1⟩ := hd
    have hx : ∀ o : Obj, (w2.alloc o).cell? (ad.add dst.toNat) = some (.int .u8 (rd vars dst)) := fun o => pw_cell_below (below_alloc HW2.out o) hx0
    clear hx0
    have h1 : okB p vars arrs ((2 : Nat) : Int) op dst args bits ref = (rightB (rd vars dst) bits) := by simp [okB, toT, formsT, rd_T181, HTS.out]
    have h2 : toT vars ((2 : Nat) : Int) dst = rd vars dst := by simp [toT, formsT, rd_T181]
    obtain ⟨b, hb⟩ : ∃ b, (rightB (rd vars dst) bits) = b := ⟨_, rfl⟩
    have hr' : (if b = true then (rd vars dst, true) else (0, false)) = r := by rw [← HRES.out, h1, hb, h2]
    have HB2 := Aside0.mk hb
    clear h1 h2 hb
    cases b
    all_goals
      obtain rfl := hr'
      go_wp2_with (go_at_call 58; refine (right_calls _ _ _).mono ?_; rw [HB2.out]; rintro e w3 ⟨rfl, ⟨nd, rfl⟩⟩)
      go_ret2
      exact ⟨rfl, by repeat (first | exact HW2.out | (with_reducible apply below_alloc) | (with_reducible apply pw_below_drewN) | (with_reducible apply below_drew1))⟩
  · have hd : 0 ≤ dst ∧ dst < (vars.length : Int) := by
      have := HF.out
      simp [formedB, formsT, rd_T181, inB] at this
      omega
    obtain ⟨ad, e, hx0⟩ := Kd.at_int HR3.out dst hd.1 hd.2
    subst e
    obtain ⟨hd0, hd1⟩ := hd
    have hx : ∀ o : Obj, (w2.alloc o).cell? (ad.add dst.toNat) = some (.int .u8 (rd vars dst)) := fun o => pw_cell_below (below_alloc HW2.out o) hx0
    clear hx0
    have h1 : okB p vars arrs ((3 : Nat) : Int) op dst args bits ref = (!(ts.any fun v => v != rd vars dst)) := by simp [okB, toT, formsT, rd_T181, HTS.out]
    have h2 : toT vars ((3 : Nat) : Int) dst = rd vars dst := by simp [toT, formsT, rd_T181]
    obtain ⟨b, hb⟩ : ∃ b, (!(ts.any fun v => v != rd vars dst)) = b := ⟨_, rfl⟩
    have hr' : (if b = true then (rd vars dst, true) else (0, false)) = r := by rw [← HRES.out, h1, hb, h2]
    have HB2 := Aside0.mk hb
    clear h1 h2 hb
    have HB3 : Aside0 ((ts.any fun v => v != rd vars dst) = !b) := ⟨by rw [← HB2.out]; simp⟩
    cases b
    all_goals
      obtain rfl := hr'
      go_wp2_with (go_at_call 137; refine (anyNot.calls A2 c2 ts (rd vars dst) _ _ (by repeat (first | exact HR2.out | (with_reducible refine Kd.C_alloc ?_ _) | (with_reducible refine Kd.C_drewN ?_ _))) HC2.out w2.heap.size _ _ (blk_new _ _) rfl rfl).mono ?_; rw [HB3.out]; rintro e w3 ⟨rfl, ⟨nd, rfl⟩⟩)
      go_ret2
      exact ⟨rfl, by repeat (first | exact HW2.out | (with_reducible apply below_alloc) | (with_reducible apply pw_below_drewN) | (with_reducible apply below_drew1))⟩
  · have hd : 0 ≤ dst ∧ dst < (vars.length : Int) := by
      have := HF.out
      simp [formedB, formsT, rd_T181, inB] at this
      omega
    obtain ⟨ad, e, hx0⟩ := Kd.at_int HR3.out dst hd.1 hd.2
    subst e
    obtain ⟨hd0, hd1⟩ := hd
    have hx : ∀ o : Obj, (w2.alloc o).cell? (ad.add dst.toNat) = some (.int .u8 (rd vars dst)) := fun o => pw_cell_below (below_alloc HW2.out o) hx0
    clear hx0
    have h1 : okB p vars arrs ((4 : Nat) : Int) op dst args bits ref = (operatedB op ts (rd vars dst)) := by simp [okB, toT, formsT, rd_T181, HTS.out]
    have h2 : toT vars ((4 : Nat) : Int) dst = rd vars dst := by simp [toT, formsT, rd_T181]
    obtain ⟨b, hb⟩ : ∃ b, (operatedB op ts (rd vars dst)) = b := ⟨_, rfl⟩
    have hr' : (if b = true then (rd vars dst, true) else (0, false)) = r := by rw [← HRES.out, h1, hb, h2]
    have HB2 := Aside0.mk hb
    clear h1 h2 hb
    cases b
    all_goals
      obtain rfl := hr'
      go_wp2_with (go_at_call 139; refine (operated_calls op A2 c2 ts _ _ (by repeat (first | exact HR2.out | (with_reducible refine Kd.C_alloc ?_ _) | (with_reducible refine Kd.C_drewN ?_ _)))).mono ?_; rw [HB2.out]; rintro e w3 ⟨rfl, ⟨nd, rfl⟩⟩)
      go_ret2
      exact ⟨rfl, by repeat (first | exact HW2.out | (with_reducible apply below_alloc) | (with_reducible apply pw_below_drewN) | (with_reducible apply below_drew1))⟩
  · have hd : 0 ≤ dst ∧ dst < (vars.length : Int) := by
      have := HF.out
      simp [formedB, formsT, rd_T181, inB] at this
      omega
    obtain ⟨ad, e, hx0⟩ := Kd.at_int HR3.out dst hd.1 hd.2
    subst e
    obtain ⟨hd0, hd1⟩ := hd
    have hx : ∀ o : Obj, (w2.alloc o).cell? (ad.add dst.toNat) = some (.int .u8 (rd vars dst)) := fun o => pw_cell_below (below_alloc HW2.out o) hx0
    clear hx0
    have hla : args.length = 1 := by
      have := HF.out
      simp [formedB, formsT, rd_T181, inB] at this
      omega
    have hlt2 : ts.length = 1 := by rw [← HTS.out]; simpa [typesL] using hla
    obtain ⟨ad2, e, ht0⟩ := Kd.at_int HR2.out 0 (by omega) (by omega)
    subst e
    have HT0 : w2.cell? (ad2.add 0) = some (.int .u8 (rd ts 0)) := ht0
    rw [add0] at HT0
    have hts0 : ∀ o : Obj, (w2.alloc o).cell? ad2 = some (.int .u8 (rd ts 0)) := fun o => pw_cell_below (below_alloc (Below.refl _ _) o) HT0
    have HLA := Aside0.mk hla
    have hlt3 : 0 < ts.length := by omega
    clear hla hlt2 ht0 HT0
    have h1 : okB p vars arrs ((5 : Nat) : Int) op dst args bits ref = (turnsB (rd vars dst) (rd ts 0)) := by simp [okB, toT, formsT, rd_T181, HTS.out]
    have h2 : toT vars ((5 : Nat) : Int) dst = rd vars dst := by simp [toT, formsT, rd_T181]
    obtain ⟨b, hb⟩ : ∃ b, (turnsB (rd vars dst) (rd ts 0)) = b := ⟨_, rfl⟩
    have hr' : (if b = true then (rd vars dst, true) else (0, false)) = r := by rw [← HRES.out, h1, hb, h2]
    have HB2 := Aside0.mk hb
    clear h1 h2 hb
    cases b
    all_goals
      obtain rfl := hr'
      go_wp2_with (fail)
      go_quiet ((go_at_call 140; exact Calls.quiet_of_same (turns_val _ _ _ HB2.out _)))
      go_wp2
      go_ret2
      exact ⟨rfl, by repeat (first | exact HW2.out | (with_reducible apply below_alloc) | (with_reducible apply pw_below_drewN) | (with_reducible apply below_drew1))⟩
  · have hd : 0 ≤ dst ∧ dst < (vars.length : Int) := by
      have := HF.out
      simp [formedB, formsT, rd_T181, inB] at this
      omega
    obtain ⟨ad, e, hx0⟩ := Kd.at_int HR3.out dst hd.1 hd.2
    subst e
    obtain ⟨hd0, hd1⟩ := hd
    have hx : ∀ o : Obj, (w2.alloc o).cell? (ad.add dst.toNat) = some (.int .u8 (rd vars dst)) := fun o => pw_cell_below (below_alloc HW2.out o) hx0
    clear hx0
    have hla : args.length = 1 := by
      have := HF.out
      simp [formedB, formsT, rd_T181, inB] at this
      omega
    have hlt2 : ts.length = 1 := by rw [← HTS.out]; simpa [typesL] using hla
    obtain ⟨ad2, e, ht0⟩ := Kd.at_int HR2.out 0 (by omega) (by omega)
    subst e
    have HT0 : w2.cell? (ad2.add 0) = some (.int .u8 (rd ts 0)) := ht0
    rw [add0] at HT0
    have hts0 : ∀ o : Obj, (w2.alloc o).cell? ad2 = some (.int .u8 (rd ts 0)) := fun o => pw_cell_below (below_alloc (Below.refl _ _) o) HT0
    have HLA := Aside0.mk hla
    have hlt3 : 0 < ts.length := by omega
    clear hla hlt2 ht0 HT0
    have hrf : 0 ≤ ref ∧ ref < (arrs.length : Int) := by
      have := HF.out
      simp [formedB, formsT, rd_T181, inB] at this
      omega
    obtain ⟨ad4, e, ha0, _⟩ := at_T113 HR4.out ref hrf.1 hrf.2
    subst e
    obtain ⟨hr0, hr1⟩ := hrf
    have hax : ∀ o : Obj, (w2.alloc o).cell? (ad4.add (ref.toNat * 2)) = some (.int .u8 (rd_T113 arrs ref).f0) := fun o => pw_cell_below (below_alloc HW2.out o) ha0
    clear ha0
    have h1 : okB p vars arrs ((6 : Nat) : Int) op dst args bits ref = (rd ts 0 == 4 && rd vars dst == (rd_T113 arrs ref).f0) := by simp [okB, toT, formsT, rd_T181, HTS.out]
    have h2 : toT vars ((6 : Nat) : Int) dst = rd vars dst := by simp [toT, formsT, rd_T181]
    obtain ⟨b, hb⟩ : ∃ b, (rd ts 0 == 4 && rd vars dst == (rd_T113 arrs ref).f0) = b := ⟨_, rfl⟩
    have hr' : (if b = true then (rd vars dst, true) else (0, false)) = r := by rw [← HRES.out, h1, hb, h2]
    have HB2 := Aside0.mk hb
    clear h1 h2 hb
    cases b
    all_goals
      obtain rfl := hr'
      by_cases c4 : rd ts 0 = 4
      · have c4b : (rd ts 0 == 4) = true := by simpa using c4
        have c5 := HB2.out
        rw [c4b, Bool.true_and] at c5
        go_wp2
        go_quiet (fail)
        go_wp2
        go_ret2
        exact ⟨rfl, by repeat (first | exact HW2.out | (with_reducible apply below_alloc) | (with_reducible apply pw_below_drewN) | (with_reducible apply below_drew1))⟩
      · have c4b : (rd ts 0 == 4) = false := by simpa using c4
        have c5 := HB2.out
        rw [c4b, Bool.false_and] at c5
        first
        | (cases c5; done)
        | (clear c5
           go_wp2
           go_quiet (fail)
           go_wp2
           go_ret2
           exact ⟨rfl, by repeat (first | exact HW2.out | (with_reducible apply below_alloc) | (with_reducible apply pw_below_drewN) | (with_reducible apply below_drew1))⟩)
  · skip
    have hla : args.length = 2 := by
      have := HF.out
      simp [formedB, formsT, rd_T181, inB] at this
      omega
    have hlt2 : ts.length = 2 := by rw [← HTS.out]; simpa [typesL] using hla
    obtain ⟨ad2, e, ht0⟩ := Kd.at_int HR2.out 0 (by omega) (by omega)
    subst e
    have HT0 : w2.cell? (ad2.add 0) = some (.int .u8 (rd ts 0)) := ht0
    rw [add0] at HT0
    have hts0 : ∀ o : Obj, (w2.alloc o).cell? ad2 = some (.int .u8 (rd ts 0)) := fun o => pw_cell_below (below_alloc (Below.refl _ _) o) HT0
    obtain ⟨ad2', e, ht1⟩ := Kd.at_int HR2.out 1 (by omega) (by omega)
    injection e with e
    subst e
    have HT1 : w2.cell? (ad2.add 1) = some (.int .u8 (rd ts 1)) := ht1
    rw [add1] at HT1
    have hts1 : ∀ o : Obj, (w2.alloc o).cell? ⟨ad2.block, ad2.off + 1, none⟩ = some (.int .u8 (rd ts 1)) := fun o => pw_cell_below (below_alloc (Below.refl _ _) o) HT1
    clear HT1 ht1
    have HLA := Aside0.mk hla
    have hlt3 : 1 < ts.length := by omega
    clear hla hlt2 ht0 HT0
    have hlt4 : 0 < ts.length := by omega
    have hrf : 0 ≤ ref ∧ ref < (arrs.length : Int) := by
      have := HF.out
      simp [formedB, formsT, rd_T181, inB] at this
      omega
    obtain ⟨ad4, e, ha0, _⟩ := at_T113 HR4.out ref hrf.1 hrf.2
    subst e
    obtain ⟨hr0, hr1⟩ := hrf
    have hax : ∀ o : Obj, (w2.alloc o).cell? (ad4.add (ref.toNat * 2)) = some (.int .u8 (rd_T113 arrs ref).f0) := fun o => pw_cell_below (below_alloc HW2.out o) ha0
    clear ha0
    have h1 : okB p vars arrs ((7 : Nat) : Int) op dst args bits ref = (rd ts 0 == 4 && rd ts 1 == (rd_T113 arrs ref).f0) := by simp [okB, toT, formsT, rd_T181, HTS.out]
    have h2 : toT vars ((7 : Nat) : Int) dst = 0 := by simp [toT, formsT, rd_T181]
    obtain ⟨b, hb⟩ : ∃ b, (rd ts 0 == 4 && rd ts 1 == (rd_T113 arrs ref).f0) = b := ⟨_, rfl⟩
    have hr' : (if b = true then (0, true) else (0, false)) = r := by rw [← HRES.out, h1, hb, h2]
    have HB2 := Aside0.mk hb
    clear h1 h2 hb
    cases b
    all_goals
      obtain rfl := hr'
      by_cases c4 : rd ts 0 = 4
      · have c4b : (rd ts 0 == 4) = true := by simpa using c4
        have c5 := HB2.out
        rw [c4b, Bool.true_and] at c5
        go_wp2
        go_quiet (fail)
        go_wp2
        go_ret2
        exact ⟨rfl, by repeat (first | exact HW2.out | (with_reducible apply below_alloc) | (with_reducible apply pw_below_drewN) | (with_reducible apply below_drew1))⟩
      · have c4b : (rd ts 0 == 4) = false := by simpa using c4
        have c5 := HB2.out
        rw [c4b, Bool.false_and] at c5
        first
        | (cases c5; done)
        | (clear c5
           go_wp2
           go_quiet (fail)
           go_wp2
           go_ret2
           exact ⟨rfl, by repeat (first | exact HW2.out | (with_reducible apply below_alloc) | (with_reducible apply pw_below_drewN) | (with_reducible apply below_drew1))⟩)
  · have h1 : okB p vars arrs ((8 : Nat) : Int) op dst args bits ref = true := by simp [okB]
    have h2 : toT vars ((8 : Nat) : Int) dst = 0 := by simp [toT, formsT, rd_T181]
    have hr' : ((0 : Int), true) = r := by rw [← HRES.out, h1, h2]; rfl
    obtain rfl := hr'
    clear h1 h2
    go_wp2
    go_ret2
    exact ⟨rfl, by repeat (first | exact HW2.out | (with_reducible apply below_alloc) | (with_reducible apply pw_below_drewN) | (with_reducible apply below_drew1))⟩
  · have hd : 0 ≤ dst ∧ dst < (vars.length : Int) := by
      have := HF.out
      simp [formedB, formsT, rd_T181, inB] at this
      omega
    obtain ⟨ad, e, hx0⟩ := Kd.at_int HR3.out dst hd.1 hd.2
    subst e
    obtain ⟨hd0, hd1⟩ := hd
    have hx : ∀ o : Obj, (w2.alloc o).cell? (ad.add dst.toNat) = some (.int .u8 (rd vars dst)) := fun o => pw_cell_below (below_alloc HW2.out o) hx0
    clear hx0
    have h1 : okB p vars arrs ((9 : Nat) : Int) op dst args bits ref = (calledB p ref ts (rd vars dst)) := by simp [okB, toT, formsT, rd_T181, HTS.out]
    have h2 : toT vars ((9 : Nat) : Int) dst = rd vars dst := by simp [toT, formsT, rd_T181]
    obtain ⟨b, hb⟩ : ∃ b, (calledB p ref ts (rd vars dst)) = b := ⟨_, rfl⟩
    have hr' : (if b = true then (rd vars dst, true) else (0, false)) = r := by rw [← HRES.out, h1, hb, h2]
    have HB2 := Aside0.mk hb
    clear h1 h2 hb
    obtain ⟨K2, hK2⟩ := called_some p 9 op dst args bits ref ts (rd vars dst) HP.out
    have HCA := Aside0.mk ((hK2 (K2 + 1) (by omega)).trans (congrArg some HB2.out))
    clear hK2
    cases b
    all_goals
      obtain rfl := hr'
      go_wp2_with (go_at_call 141; refine (graph_called.calls (K2 + 1) A0 c0 p 9 op dst Aa ca args bits ref A2 c2 ts (rd vars dst) _ _ (by repeat (first | exact Kd.C_below HR0.out HW2.out | (with_reducible refine Kd.C_alloc ?_ _) | (with_reducible refine Kd.C_drewN ?_ _))) HC0.out (by repeat (first | exact Kd.C_below HR.out HW2.out | (with_reducible refine Kd.C_alloc ?_ _) | (with_reducible refine Kd.C_drewN ?_ _))) HC.out (by repeat (first | exact HR2.out | (with_reducible refine Kd.C_alloc ?_ _) | (with_reducible refine Kd.C_drewN ?_ _))) HC2.out HCA.out).mono ?_; rintro e w3 ⟨rfl, hb3⟩; have HW3 := Aside0.mk (below_step (below_alloc HW2.out _) hb3); have hz : w3.cell? ⟨w2.heap.size, 0, none⟩ = some (.int .u8 (rd vars dst)) := pw_cell_below hb3 (blk_cell (blk_new _ _) 0); clear hb3)
      go_ret2
      exact ⟨rfl, HW3.out⟩
  · have h1 : okB p vars arrs ((10 : Nat) : Int) op dst args bits ref = true := by simp [okB]
    have h2 : toT vars ((10 : Nat) : Int) dst = 0 := by simp [toT, formsT, rd_T181]
    have hr' : ((0 : Int), true) = r := by rw [← HRES.out, h1, h2]; rfl
    obtain rfl := hr'
    clear h1 h2
    go_wp2
    go_ret2
    exact ⟨rfl, by repeat (first | exact HW2.out | (with_reducible apply below_alloc) | (with_reducible apply pw_below_drewN) | (with_reducible apply below_drew1))⟩
theorem type_calls (p : List S28) (A0 : Option Addr) (c0 : Nat) (nm : ByteArray) (A1 A3 A4 A5 : Option Addr) (c1 c3 c4 c5 : Nat) (ps vars : List Int) (arrs : List S113) (blocks : List S43) (res : Int) (kind op dst : Int) (Aa : Option Addr) (ca : Nat) (args : List Int) (bits ref : Int) (w : World)
    (hg : Kd.C k181 w (some ⟨2, 0, none⟩) 11 formsT) (hr0 : Kd.C k28 w A0 p.length p) (hc0 : p.length ≤ c0) (hr1 : Kd.C (Kd.int .i64) w A1 ps.length ps) (hc1 : ps.length ≤ c1) (hr3 : Kd.C (Kd.int .u8) w A3 vars.length vars) (hc3 : vars.length ≤ c3) (hr4 : Kd.C k113 w A4 arrs.length arrs) (hc4 : arrs.length ≤ c4) (hr5 : Kd.C k43 w A5 blocks.length blocks) (hc5 : blocks.length ≤ c5)
    (hr : Kd.C (Kd.int .i64) w Aa args.length args) (hc : args.length ≤ ca) (r1 : Int) (r2 : Bool)
    (h : (if args.length ≤ 281474976710656 ∧ ∀ g ∈ p, g.f1.length ≤ 281474976710656 then some (typeB p vars arrs kind op dst args bits ref) else none) = some (r1, r2)) :
    Calls Tryd.prog 92 #[.slice A0 p.length c0, .agg #[.string nm, .slice A1 ps.length c1, .int .u8 res, .slice A3 vars.length c3, .slice A4 arrs.length c4, .slice A5 blocks.length c5], .agg #[.int .u8 kind, .int .u8 op, .int .i64 dst, .slice Aa args.length ca, .int .u64 bits, .int .i64 ref]] w fun e w' => e = .returned (.tuple #[.int .u8 r1, .bool r2]) ∧ Below w.heap.size w w' := by
  split at h
  · rename_i hl
    have h := Option.some.inj h
    unfold typeB at h
    cases hf : formedB vars.length arrs.length kind op dst args bits ref with
    | true =>
      rw [hf, Bool.true_and] at h
      exact type_yes p A0 c0 nm A1 A3 A4 A5 c1 c3 c4 c5 ps vars arrs blocks res kind op dst Aa ca args bits ref w hg hr0 hc0 hr1 hc1 hr3 hc3 hr4 hc4 hr5 hc5 hr hc hl.1 hl.2 hf (r1, r2) h
    | false =>
      rw [hf, Bool.false_and, if_neg (by decide)] at h
      obtain ⟨rfl, rfl⟩ := Prod.mk.inj h
      exact type_no p A0 c0 nm A1 A3 A4 A5 c1 c3 c4 c5 ps vars arrs blocks res kind op dst Aa ca args bits ref w hg hr hc hf
  · cases h
end Go.Proofs.YtanhnfhpajaolaaDoor.Fo
