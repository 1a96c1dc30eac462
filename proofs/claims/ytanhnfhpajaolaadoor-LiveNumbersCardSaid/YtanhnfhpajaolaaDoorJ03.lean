/- Texts of this proof, joined in build order: TyP, Hd, Jo, Nx, Fxf49. -/
import Derived.Test.YtanhnfhpajaolaaDoorJ01
import Derived.Test.YtanhnfhpajaolaaDoorJ02
import Derived.Shelf.Slices.CompactI
import Derived.Lib.OwnBridge
import Derived.Test.YtanhnfhpajaolaaDoorJ00
/- graph.types and graph.called: what the printed functions answer, as one term. -/
namespace Go.Proofs.YtanhnfhpajaolaaDoor.Fo
open Go Go.RowKit Go.Proofs.YtanhnfhpajaolaaDoorW.PrintWords Go.Proofs.YtanhnfhpajaolaaDoorW.PrintLast Go.Proofs.YtanhnfhpajaolaaDoorW.PrintMore Go.Proofs.YtanhnfhpajaolaaDoor.F
set_option linter.unusedVariables false
set_option linter.unusedSimpArgs false
theorem wrap_small {a : Int} (h0 : -9223372036854775808 ≤ a) (h1 : a ≤ 9223372036854775807) : wrap64 a = a := by unfold wrap64; omega
theorem rd_get (l : List Int) {i : Nat} (h : i < l.length) : rd l (i : Int) = l[i] := by unfold rd; rw [Int.toNat_natCast, List.getD_eq_getElem?_getD, List.getElem?_eq_getElem h]; rfl
def inAll (l : List Int) (n : Int) : Prop := ∀ v ∈ l, 0 ≤ v ∧ v < n
def typesL (vars l : List Int) : List Int := l.map (rd vars)
theorem types_l0 (vars l : List Int) (hl : l.length ≤ 281474976710656) (ha : inAll l vars.length) (b0 b1 b2 b4 b5) (d : Nat) : ∀ (k i : Nat), i + d = l.length → d < k →
    graph_types.l0 k (typesL vars (l.take i) ++ List.replicate d 0) l (l.length : Int) (i : Int) b0 b1 b2 vars b4 b5 = some (typesL vars l) := by
  induction d with
  | zero =>
    intro k i hi hk
    obtain ⟨k, rfl⟩ : ∃ m, k = m + 1 := ⟨k - 1, by omega⟩
    obtain rfl : i = l.length := by omega
    simp only [graph_types.l0]
    rw [if_neg (by omega), List.take_length]; simp
  | succ d ih =>
    intro k i hi hk
    obtain ⟨k, rfl⟩ : ∃ m, k = m + 1 := ⟨k - 1, by omega⟩
    have hil : i < l.length := by omega
    have hv := ha _ (List.getElem_mem hil)
    have hlen : (typesL vars (l.take i) ++ List.replicate (d + 1) (0 : Int)).length = l.length := by simp [typesL]; omega
    simp only [graph_types.l0]
    rw [rd_get l hil, if_pos (by omega), if_pos (by omega), if_pos (by omega), if_pos hv.1, if_pos hv.2, if_pos (by rw [hlen]; omega), wrap_small (by omega) (by omega)]
    have := ih k (i + 1) (by omega) (by omega)
    rw [← this]
    congr 1
    have hti : (typesL vars (l.take i)).length = i := by simp [typesL]; omega
    rw [Int.toNat_natCast, List.set_append_right _ _ (by omega), hti, Nat.sub_self, List.replicate_succ, List.set_cons_zero]
    have hsn : typesL vars (l.take (i + 1)) = typesL vars (l.take i) ++ [rd vars l[i]] := by unfold typesL; rw [List.take_succ_eq_append_getElem hil, List.map_append]; rfl
    rw [hsn]; simp
theorem types_some (b0 b1 b2) (vars : List Int) (b4 b5) (l : List Int) (hl : l.length ≤ 281474976710656) (ha : inAll l vars.length) (k : Nat) (hk : l.length < k) : graph_types.f k b0 b1 b2 vars b4 b5 l = some (typesL vars l) := by
  unfold graph_types.f
  rw [if_pos (by omega), if_pos (by simpa using hl)]
  have := types_l0 vars l hl ha b0 b1 b2 b4 b5 l.length k 0 (by omega) hk
  simpa [typesL] using this
theorem equal_l0 (x y : List Int) (hl : x.length ≤ 281474976710656) (he : x.length = y.length) (d : Nat) : ∀ (k i : Nat), i + d = x.length → d < k → api_Type_168.l0 k x y (x.length : Int) (i : Int) = some (decide (x.drop i = y.drop i)) := by
  induction d with
  | zero =>
    intro k i hi hk
    obtain ⟨k, rfl⟩ : ∃ m, k = m + 1 := ⟨k - 1, by omega⟩
    simp only [api_Type_168.l0]
    rw [if_neg (by omega), List.drop_eq_nil_of_le (by omega), List.drop_eq_nil_of_le (by omega)]; simp
  | succ d ih =>
    intro k i hi hk
    obtain ⟨k, rfl⟩ : ∃ m, k = m + 1 := ⟨k - 1, by omega⟩
    have h1 : i < x.length := by omega
    have h2 : i < y.length := by omega
    simp only [api_Type_168.l0]
    rw [rd_get x h1, rd_get y h2, if_pos (by omega), if_pos (by omega), if_pos (by omega), if_pos (by omega), wrap_small (by omega) (by omega), List.drop_eq_getElem_cons h1, List.drop_eq_getElem_cons h2]
    by_cases e : x[i] = y[i]
    · rw [if_pos e]
      have := ih k (i + 1) (by omega) (by omega)
      rw [show ((i : Int) + 1) = ((i + 1 : Nat) : Int) by omega, this, e]; simp only [List.cons.injEq, true_and]
    · rw [if_neg e]; simp only [List.cons.injEq, e, false_and, decide_false]
theorem equal_some (x y : List Int) (hl : x.length ≤ 281474976710656) (k : Nat) (hk : x.length < k) : api_Type_168.f k x y = some (decide (x = y)) := by
  unfold api_Type_168.f
  by_cases he : x.length = y.length
  · rw [if_pos (by omega)]
    have := equal_l0 x y hl he x.length k 0 (by omega) hk
    simpa using this
  · rw [if_neg (by omega)]
    have : x ≠ y := fun e => he (by rw [e])
    simp [this]
def calledB (p : List S28) (ref : Int) (ts : List Int) (t : Int) : Bool :=
  inB ref p.length && (((rd_T28 p ref).f1.all fun v => inB v (rd_T28 p ref).f3.length) && ((rd_T28 p ref).f2 == t && decide (typesL (rd_T28 p ref).f3 (rd_T28 p ref).f1 = ts)))
theorem in_some (a b : Int) : graph_in.f a b = some (inB a b) := by
  unfold graph_in.f inB
  by_cases h : 0 ≤ a <;> simp [h]
theorem called_l0 (ts : List Int) (t : Int) (g : S28) (hl : g.f1.length ≤ 281474976710656) (d : Nat) : ∀ (k i : Nat), i + d = g.f1.length → 2 * g.f1.length + d + 2 < k → (∀ j (hj : j < g.f1.length), j < i → inB g.f1[j] g.f3.length = true) →
    graph_called.l0 k ts t g.f1 (g.f1.length : Int) (i : Int) g.f0 g.f1 g.f2 g.f3 g.f4 g.f5 = some ((g.f1.drop i).all (fun v => inB v g.f3.length) && (g.f2 == t && decide (typesL g.f3 g.f1 = ts))) := by
  induction d with
  | zero =>
    intro k i hi hk hp
    obtain ⟨k, rfl⟩ : ∃ m, k = m + 1 := ⟨k - 1, by omega⟩
    simp only [graph_called.l0]
    rw [if_neg (by omega), List.drop_eq_nil_of_le (by omega)]
    have ha : inAll g.f1 g.f3.length := by
      intro v hv
      obtain ⟨j, hj, rfl⟩ := List.getElem_of_mem hv
      have := hp j hj (by omega)
      simpa [inB] using this
    by_cases e : g.f2 = t
    · rw [if_pos e, types_some _ _ _ _ _ _ _ hl ha k (by omega)]
      simp only [Option.bind_some]
      rw [equal_some _ _ (by simpa [typesL] using hl) k (by simp [typesL]; omega)]
      simp [e]
    · rw [if_neg e]; simp [e]
  | succ d ih =>
    intro k i hi hk hp
    obtain ⟨k, rfl⟩ : ∃ m, k = m + 1 := ⟨k - 1, by omega⟩
    have h1 : i < g.f1.length := by omega
    simp only [graph_called.l0]
    rw [rd_get _ h1, if_pos (by omega), if_pos (by omega), if_pos (by omega), in_some, wrap_small (by omega) (by omega), List.drop_eq_getElem_cons h1]
    simp only [Option.bind_some, List.all_cons]
    cases e : inB g.f1[i] g.f3.length with
    | true =>
      rw [if_pos rfl]
      have := ih k (i + 1) (by omega) (by omega) (fun j hj hji => by
        by_cases hj2 : j = i
        · subst hj2; exact e
        · exact hp j hj (by omega))
      rw [show ((i : Int) + 1) = ((i + 1 : Nat) : Int) by omega, this]; simp
    | false => rw [if_neg (by decide)]; simp
theorem called_some (p : List S28) (b0 b1 b2 l3 b4 : _) (ref : Int) (ts : List Int) (t : Int) (hl : ∀ g ∈ p, g.f1.length ≤ 281474976710656) : ∃ K, ∀ k, K < k → graph_called.f k p b0 b1 b2 l3 b4 ref ts t = some (calledB p ref ts t) := by
  refine ⟨3 * (rd_T28 p ref).f1.length + 2, fun k hk => ?_⟩
  unfold graph_called.f calledB
  rw [in_some]
  simp only [Option.bind_some]
  cases e : inB ref p.length with
  | false => rw [if_neg (by decide)]; simp
  | true =>
    have hr : 0 ≤ ref ∧ ref < (p.length : Int) := by simpa [inB] using e
    have hm : rd_T28 p ref ∈ p := by
      unfold rd_T28
      rw [List.getD_eq_getElem?_getD, List.getElem?_eq_getElem (by omega)]
      exact List.getElem_mem _
    rw [if_pos rfl, if_pos hr.1, if_pos hr.2]
    have := called_l0 ts t (rd_T28 p ref) (hl _ hm) (rd_T28 p ref).f1.length k 0 (by omega) (by omega) (fun j hj h => absurd h (by omega))
    simpa using this
end Go.Proofs.YtanhnfhpajaolaaDoor.Fo
/- graph.headed. -/
namespace Go.Proofs.YtanhnfhpajaolaaDoor.Fo
open Go Go.RowKit Go.Proofs.YtanhnfhpajaolaaDoorW.PrintWords Go.Proofs.YtanhnfhpajaolaaDoorW.PrintLast Go.Proofs.YtanhnfhpajaolaaDoorW.PrintMore Go.Proofs.YtanhnfhpajaolaaDoor.F Go.Proofs.YtanhnfhpajaolaaDoor.Cf
set_option linter.unusedVariables false
set_option linter.unusedSimpArgs false
def allFrom (f : Nat → Bool) (n i : Nat) : Bool := (List.range' i (n - i)).all f
theorem allFrom_step {f : Nat → Bool} {n i : Nat} (h : i < n) : allFrom f n i = (f i && allFrom f n (i + 1)) := by
  unfold allFrom
  obtain ⟨m, hm⟩ : ∃ m, n - i = m + 1 := ⟨n - i - 1, by omega⟩
  rw [hm, List.range'_succ, List.all_cons, show n - (i + 1) = m by omega]
theorem allFrom_end (f : Nat → Bool) (n : Nat) : allFrom f n n = true := by simp [allFrom]
theorem index_l0 (l : List Int) (v : Int) (hl : l.length ≤ 9223372036854775807) (d : Nat) : ∀ k i : Nat, i + d = l.length → d < k → ∃ t, slices_Index_int_int.l0 k l v (l.length : Int) (i : Int) = some t ∧ decide (t ≥ 0) = (l.drop i).contains v := by
  induction d with
  | zero =>
    intro k i hi hk
    obtain ⟨k, rfl⟩ : ∃ m, k = m + 1 := ⟨k - 1, by omega⟩
    simp only [slices_Index_int_int.l0]
    rw [if_neg (by omega), List.drop_eq_nil_of_le (by omega)]
    exact ⟨_, rfl, by simp⟩
  | succ d ih =>
    intro k i hi hk
    obtain ⟨k, rfl⟩ : ∃ m, k = m + 1 := ⟨k - 1, by omega⟩
    have h1 : i < l.length := by omega
    simp only [slices_Index_int_int.l0]
    rw [rd_get _ h1, if_pos (by omega), if_pos (by omega), if_pos (by omega), wrap_small (by omega) (by omega), List.drop_eq_getElem_cons h1]
    by_cases e : v = l[i]
    · rw [if_pos e]
      exact ⟨_, rfl, by rw [List.contains_cons, ← e]; simp⟩
    · rw [if_neg e]
      obtain ⟨t, h2, h3⟩ := ih k (i + 1) (by omega) (by omega)
      refine ⟨t, by rw [← h2]; congr 1, ?_⟩
      rw [h3, List.contains_cons]
      simp [e]
theorem contains_some (l : List Int) (v : Int) (hl : l.length ≤ 9223372036854775807) (k : Nat) (hk : l.length < k) : slices_Contains_int_int.f k l v = some (l.contains v) := by
  obtain ⟨t, h2, h3⟩ := index_l0 l v hl l.length k 0 (by omega) hk
  unfold slices_Contains_int_int.f slices_Index_int_int.f
  rw [show (0 : Int) = ((0 : Nat) : Int) from rfl, h2]
  simp only [Option.bind_some]
  congr 1
theorem contains_calls (A : Option Addr) (c : Nat) (l : List Int) (v : Int) (b : Bool) (h : l.contains v = b) (w : World) (hr : Kd.C (Kd.int .i64) w A l.length l) (hc : l.length ≤ c) :
    Calls Tryd.prog 132 #[.slice A l.length c, .int .i64 v] w fun e w' => e = .returned (.bool b) ∧ Drawn0 w w' := by
  obtain ⟨t, h2, h3⟩ := index_l0 l v hr.2.1 l.length (l.length + 1) 0 (by omega) (by omega)
  refine slices_Contains_int_int.calls (l.length + 1) A c l v b w hr hc ?_
  unfold slices_Contains_int_int.f slices_Index_int_int.f
  rw [show (0 : Int) = ((0 : Nat) : Int) from rfl, h2]
  simp only [Option.bind_some, ← h]
  congr 1
theorem in_val (a b : Int) (r : Bool) (h : inB a b = r) (w : World) : Calls Tryd.prog 55 #[.int .i64 a, .int .i64 b] w fun e w' => e = .returned (.bool r) ∧ w = w' := by
  subst h
  go_enter Tryd.func55, Tryd.ntmps55
  go_wp2
  all_goals (go_ret; exact ⟨by simp_all [inB] <;> (intros; omega), rfl⟩)
def isT (t : Int) : Bool := decide (1 ≤ t) && decide (t ≤ 5)
theorem is_calls (t : Int) (b : Bool) (h : isT t = b) (w : World) : Calls Tryd.prog 131 #[.int .u8 t] w fun e w' => e = .returned (.bool b) ∧ w = w' := by
  subst h
  go_enter Tryd.func131, Tryd.ntmps131
  go_wp2
  all_goals (go_ret; exact ⟨by simp_all [isT] <;> (intros; omega), rfl⟩)
def arrB (a : S113) : Bool := isT a.f0 && (decide (1 ≤ a.f1) && decide (a.f1 ≤ 256))
def parB (nv : Int) (ps : List Int) (i : Nat) : Bool := inB (rd ps i) nv && !(ps.take i).contains (rd ps i)
def headedB (nb res : Int) (ps vars : List Int) (arrs : List S113) : Bool :=
  (decide (1 ≤ nb) && decide (nb ≤ 1048576) && decide (vars.length ≤ 1048576) && decide (arrs.length ≤ 1048576) && decide (ps.length ≤ 8) && isT res) &&
  (allFrom (fun i => isT (rd vars i)) vars.length 0 && (allFrom (fun i => arrB (rd_T113 arrs i)) arrs.length 0 && allFrom (parB vars.length ps) ps.length 0))
set_option maxHeartbeats 40000000 in
set_option maxRecDepth 100000 in
theorem headed_no (nm : ByteArray) (A1 A3 A4 A5 : Option Addr) (c1 c3 c4 c5 n1 n3 n4 nb : Nat) (res : Int) (w : World)
    (h : (decide (1 ≤ nb) && decide (nb ≤ 1048576) && decide (n3 ≤ 1048576) && decide (n4 ≤ 1048576) && decide (n1 ≤ 8) && isT res) = false) :
    Calls Tryd.prog 89 #[.agg #[.string nm, .slice A1 n1 c1, .int .u8 res, .slice A3 n3 c3, .slice A4 n4 c4, .slice A5 nb c5]] w fun e w' => e = .returned (.bool false) ∧ Below w.heap.size w w' := by
  by_cases q0 : nb < 1
  · clear h
    go_enter Tryd.func89, Tryd.ntmps89
    go_wp2
    go_ret
    exact ⟨rfl, by repeat (first | exact Below.refl _ _ | (with_reducible apply below_alloc))⟩
  by_cases q1 : 1048576 < nb
  · clear h
    go_enter Tryd.func89, Tryd.ntmps89
    go_wp2
    go_ret
    exact ⟨rfl, by repeat (first | exact Below.refl _ _ | (with_reducible apply below_alloc))⟩
  by_cases q2 : 1048576 < n3
  · clear h
    go_enter Tryd.func89, Tryd.ntmps89
    go_wp2
    go_ret
    exact ⟨rfl, by repeat (first | exact Below.refl _ _ | (with_reducible apply below_alloc))⟩
  by_cases q3 : 1048576 < n4
  · clear h
    go_enter Tryd.func89, Tryd.ntmps89
    go_wp2
    go_ret
    exact ⟨rfl, by repeat (first | exact Below.refl _ _ | (with_reducible apply below_alloc))⟩
  by_cases q4 : 8 < n1
  · clear h
    go_enter Tryd.func89, Tryd.ntmps89
    go_wp2
    go_ret
    exact ⟨rfl, by repeat (first | exact Below.refl _ _ | (with_reducible apply below_alloc))⟩
  have hi : isT res = false := by
    cases e : isT res with
    | false => rfl
    | true =>
      rw [e] at h
      simp only [Bool.and_true, decide_eq_true (show 1 ≤ nb by omega), decide_eq_true (show nb ≤ 1048576 by omega), decide_eq_true (show n3 ≤ 1048576 by omega), decide_eq_true (show n4 ≤ 1048576 by omega), decide_eq_true (show n1 ≤ 8 by omega)] at h
      cases h
  have HI := Aside0.mk hi
  clear h hi
  go_enter Tryd.func89, Tryd.ntmps89
  go_wp2_with (go_at_call 131; refine (is_calls _ _ HI.out _).mono ?_; rintro e w3 ⟨rfl, rfl⟩)
  go_ret
  exact ⟨rfl, by repeat (first | exact Below.refl _ _ | (with_reducible apply below_alloc))⟩
set_option maxHeartbeats 40000000 in
set_option maxRecDepth 100000 in
theorem headed_calls (nm : ByteArray) (A1 A3 A4 A5 : Option Addr) (c1 c3 c4 c5 nb : Nat) (ps vars : List Int) (arrs : List S113) (res : Int) (w : World)
    (hr1 : Kd.C (Kd.int .i64) w A1 ps.length ps) (hc1 : ps.length ≤ c1) (hr3 : Kd.C (Kd.int .u8) w A3 vars.length vars) (hr4 : Kd.C k113 w A4 arrs.length arrs) :
    Calls Tryd.prog 89 #[.agg #[.string nm, .slice A1 ps.length c1, .int .u8 res, .slice A3 vars.length c3, .slice A4 arrs.length c4, .slice A5 nb c5]] w fun e w' => e = .returned (.bool (headedB nb res ps vars arrs)) ∧ Below w.heap.size w w' := by
  cases ht : (decide (1 ≤ nb) && decide (nb ≤ 1048576) && decide (vars.length ≤ 1048576) && decide (arrs.length ≤ 1048576) && decide (ps.length ≤ 8) && isT res) with
  | false =>
    have : headedB nb res ps vars arrs = false := by
      unfold headedB
      rw [show (decide (1 ≤ (nb : Int)) && decide ((nb : Int) ≤ 1048576) && decide (vars.length ≤ 1048576) && decide (arrs.length ≤ 1048576) && decide (ps.length ≤ 8) && isT res) = (decide (1 ≤ nb) && decide (nb ≤ 1048576) && decide (vars.length ≤ 1048576) && decide (arrs.length ≤ 1048576) && decide (ps.length ≤ 8) && isT res) by congr 5 <;> (congr 1; apply propext; omega), ht, Bool.false_and]
    rw [this]
    exact headed_no nm A1 A3 A4 A5 c1 c3 c4 c5 ps.length vars.length arrs.length nb res w ht
  | true =>
    have hq : headedB nb res ps vars arrs = (allFrom (fun i => isT (rd vars i)) vars.length 0 && (allFrom (fun i => arrB (rd_T113 arrs i)) arrs.length 0 && allFrom (parB vars.length ps) ps.length 0)) := by
      unfold headedB
      rw [show (decide (1 ≤ (nb : Int)) && decide ((nb : Int) ≤ 1048576) && decide (vars.length ≤ 1048576) && decide (arrs.length ≤ 1048576) && decide (ps.length ≤ 8) && isT res) = (decide (1 ≤ nb) && decide (nb ≤ 1048576) && decide (vars.length ≤ 1048576) && decide (arrs.length ≤ 1048576) && decide (ps.length ≤ 8) && isT res) by congr 5 <;> (congr 1; apply propext; omega), ht, Bool.true_and]
    rw [hq]
    clear hq
    simp only [Bool.and_eq_true, decide_eq_true_eq] at ht
    obtain ⟨⟨⟨⟨⟨g0, g1⟩, g2⟩, g3⟩, g4⟩, hi⟩ := ht
    have q0 : ¬ nb < 1 := by omega
    have q1 : ¬ 1048576 < nb := by omega
    have q2 : ¬ 1048576 < vars.length := by omega
    have q3 : ¬ 1048576 < arrs.length := by omega
    have q4 : ¬ 8 < ps.length := by omega
    clear g0 g1
    have HI := Aside0.mk hi
    have HR1 := Aside0.mk hr1
    have HR3 := Aside0.mk hr3
    have HR4 := Aside0.mk hr4
    have HC1 := Aside0.mk hc1
    clear hr1 hr3 hr4 hc1 hi
    go_enter Tryd.func89, Tryd.ntmps89
    go_wp2_with (go_at_call 131; refine (is_calls _ _ HI.out _).mono ?_; rintro e w3 ⟨rfl, rfl⟩)
    go_loop [48] (fun v48 => ∃ k : Nat, k ≤ vars.length ∧ v48 = .int .i64 k ∧ Aside0 (allFrom (fun i => isT (rd vars i)) vars.length 0 = allFrom (fun i => isT (rd vars i)) vars.length k)) (fun v48 => vars.length - (intOf v48).toNat)
    case atStart => exact ⟨0, Nat.zero_le _, rfl, ⟨rfl⟩⟩
    case round =>
      obtain ⟨k, hk, rfl, HA⟩ := hrel
      by_cases hlt : k < vars.length
      · obtain ⟨ad, rfl, hx0⟩ := Kd.at_int HR3.out (k : Int) (by omega) (by omega)
        simp only [Int.toNat_natCast] at hx0
        have hx : ∀ o, (w.alloc o).cell? (ad.add k) = some (.int .u8 (rd vars k)) := fun o => pw_cell_below (below_alloc (Below.refl _ _) o) hx0
        clear hx0
        obtain ⟨b, hb⟩ : ∃ b, isT (rd vars k) = b := ⟨_, rfl⟩
        have HB := Aside0.mk hb
        clear hb
        have hA := HA.out
        rw [allFrom_step hlt, HB.out] at hA
        clear HA
        cases b with
        | false =>
          rw [Bool.false_and] at hA
          have HA := Aside0.mk hA
          clear hA
          go_wp2_with (go_at_call 131; refine (is_calls _ _ HB.out _).mono ?_; rintro e w3 ⟨rfl, rfl⟩)
          go_ret
          exact ⟨by simp only [HA.out, Bool.false_and]; rfl, by repeat (first | exact Below.refl _ _ | (with_reducible apply below_alloc))⟩
        | true =>
          rw [Bool.true_and] at hA
          have HA := Aside0.mk hA
          clear hA
          go_wp2_with (go_at_call 131; refine (is_calls _ _ HB.out _).mono ?_; rintro e w3 ⟨rfl, rfl⟩)
          go_round
          case rel => exact ⟨k + 1, by omega, by go_num, HA⟩
          case measure => simp [intOf]; omega
      · obtain rfl : k = vars.length := by omega
        have E1 := Aside0.mk (HA.out.trans (allFrom_end _ _))
        clear HA
        have HB0 := Aside0.mk (Below.refl (w.alloc (.cells #[.string nm, .slice A1 ps.length c1, .int .u8 res, .slice A3 vars.length c3, .slice A4 arrs.length c4, .slice A5 nb c5] 28)).heap.size (w.alloc (.cells #[.string nm, .slice A1 ps.length c1, .int .u8 res, .slice A3 vars.length c3, .slice A4 arrs.length c4, .slice A5 nb c5] 28)))
        go_wp2
        go_loopw [60] (fun v60 wr => ∃ k : Nat, k ≤ arrs.length ∧ v60 = .int .i64 k ∧ Aside0 (allFrom (fun i => arrB (rd_T113 arrs i)) arrs.length 0 = allFrom (fun i => arrB (rd_T113 arrs i)) arrs.length k) ∧ Aside0 (Below (w.alloc (.cells #[.string nm, .slice A1 ps.length c1, .int .u8 res, .slice A3 vars.length c3, .slice A4 arrs.length c4, .slice A5 nb c5] 28)).heap.size (w.alloc (.cells #[.string nm, .slice A1 ps.length c1, .int .u8 res, .slice A3 vars.length c3, .slice A4 arrs.length c4, .slice A5 nb c5] 28)) wr)) (fun v60 _ => arrs.length - (intOf v60).toNat)
        case atStart => exact ⟨0, Nat.zero_le _, rfl, ⟨rfl⟩, HB0⟩
        case round =>
          clear HB0
          obtain ⟨k, hk, rfl, HA, HB⟩ := hrel
          have HW := Aside0.mk (show Below w.heap.size w wr from below_step (below_alloc (Below.refl _ _) _) HB.out)
          have hgc : ∀ (o : Obj) (j : Nat), (wr.alloc o).cell? ⟨w.heap.size, j, none⟩ = (#[.string nm, .slice A1 ps.length c1, .int .u8 res, .slice A3 vars.length c3, .slice A4 arrs.length c4, .slice A5 nb c5] : Array Value)[j]? := fun o j => blk_cell (blk_alloc (blk_below (blk_new w _) HB.out) o) j
          have hgc0 : ∀ (j : Nat), wr.cell? ⟨w.heap.size, j, none⟩ = (#[.string nm, .slice A1 ps.length c1, .int .u8 res, .slice A3 vars.length c3, .slice A4 arrs.length c4, .slice A5 nb c5] : Array Value)[j]? := fun j => blk_cell (blk_below (blk_new w _) HB.out) j
          by_cases hlt : k < arrs.length
          · obtain ⟨ad, rfl, hx0, hx1⟩ := at_T113 HR4.out (k : Int) (by omega) (by omega)
            simp only [Int.toNat_natCast] at hx0 hx1
            replace hx0 := pw_cell_below HW.out hx0
            replace hx1 := pw_cell_below HW.out hx1
            obtain ⟨b, hb⟩ : ∃ b, isT (rd_T113 arrs k).f0 = b := ⟨_, rfl⟩
            have HB2 := Aside0.mk hb
            clear hb
            have hA : allFrom (fun i => arrB (rd_T113 arrs i)) arrs.length 0 = ((isT (rd_T113 arrs k).f0 && (decide (1 ≤ (rd_T113 arrs k).f1) && decide ((rd_T113 arrs k).f1 ≤ 256))) && allFrom (fun i => arrB (rd_T113 arrs i)) arrs.length (k + 1)) := HA.out.trans (allFrom_step hlt)
            rw [HB2.out] at hA
            clear HA
            cases b with
            | false =>
              simp only [Bool.false_and] at hA
              have HA := Aside0.mk hA
              clear hA
              go_wp2_with (go_at_call 131; refine (is_calls _ _ HB2.out _).mono ?_; rintro e w3 ⟨rfl, rfl⟩)
              go_ret
              exact ⟨by rw [HA.out]; simp only [Bool.false_and, Bool.and_false]; rfl, by repeat (first | exact HW.out | (with_reducible apply below_alloc))⟩
            | true =>
              rw [Bool.true_and] at hA
              by_cases d0 : (rd_T113 arrs k).f1 < 1
              · rw [decide_eq_false (by omega)] at hA
                simp only [Bool.false_and] at hA
                have HA := Aside0.mk hA
                clear hA
                go_wp2_with (go_at_call 131; refine (is_calls _ _ HB2.out _).mono ?_; rintro e w3 ⟨rfl, rfl⟩)
                go_ret
                exact ⟨by rw [HA.out]; simp only [Bool.false_and, Bool.and_false]; rfl, by repeat (first | exact HW.out | (with_reducible apply below_alloc))⟩
              · by_cases d1 : (rd_T113 arrs k).f1 > 256
                · rw [decide_eq_true (show 1 ≤ (rd_T113 arrs k).f1 by omega), decide_eq_false (show ¬ (rd_T113 arrs k).f1 ≤ 256 by omega)] at hA
                  simp only [Bool.false_and, Bool.and_false] at hA
                  have HA := Aside0.mk hA
                  clear hA
                  go_wp2_with (go_at_call 131; refine (is_calls _ _ HB2.out _).mono ?_; rintro e w3 ⟨rfl, rfl⟩)
                  go_ret
                  exact ⟨by rw [HA.out]; simp only [Bool.false_and, Bool.and_false]; rfl, by repeat (first | exact HW.out | (with_reducible apply below_alloc))⟩
                · rw [decide_eq_true (show 1 ≤ (rd_T113 arrs k).f1 by omega), decide_eq_true (show (rd_T113 arrs k).f1 ≤ 256 by omega)] at hA
                  simp only [Bool.true_and] at hA
                  have HA := Aside0.mk hA
                  clear hA
                  go_wp2_with (go_at_call 131; refine (is_calls _ _ HB2.out _).mono ?_; rintro e w3 ⟨rfl, rfl⟩)
                  go_roundw
                  case rel => exact ⟨k + 1, by omega, by go_num, HA, ⟨below_alloc HB.out _⟩⟩
                  case measure => simp [intOf]; omega
          · obtain rfl : k = arrs.length := by omega
            have E2 := Aside0.mk (HA.out.trans (allFrom_end _ _))
            clear HA
            go_wp2
            go_loopw [83] (fun v83 wr => ∃ k : Nat, k ≤ ps.length ∧ v83 = .int .i64 k ∧ Aside0 (allFrom (parB vars.length ps) ps.length 0 = allFrom (parB vars.length ps) ps.length k) ∧ Aside0 (Below (w.alloc (.cells #[.string nm, .slice A1 ps.length c1, .int .u8 res, .slice A3 vars.length c3, .slice A4 arrs.length c4, .slice A5 nb c5] 28)).heap.size (w.alloc (.cells #[.string nm, .slice A1 ps.length c1, .int .u8 res, .slice A3 vars.length c3, .slice A4 arrs.length c4, .slice A5 nb c5] 28)) wr)) (fun v83 _ => ps.length - (intOf v83).toNat)
            case atStart => exact ⟨0, Nat.zero_le _, rfl, ⟨rfl⟩, HB⟩
            case round =>
              clear HB HW hgc hgc0
              obtain ⟨k, hk, rfl, HA, HB⟩ := hrel
              have HW := Aside0.mk (show Below w.heap.size w wr from below_step (below_alloc (Below.refl _ _) _) HB.out)
              have hgc0 : ∀ (j : Nat), wr.cell? ⟨w.heap.size, j, none⟩ = (#[.string nm, .slice A1 ps.length c1, .int .u8 res, .slice A3 vars.length c3, .slice A4 arrs.length c4, .slice A5 nb c5] : Array Value)[j]? := fun j => blk_cell (blk_below (blk_new w _) HB.out) j
              by_cases hlt : k < ps.length
              · obtain ⟨ad, rfl, hx0⟩ := Kd.at_int HR1.out (k : Int) (by omega) (by omega)
                simp only [Int.toNat_natCast] at hx0
                replace hx0 := pw_cell_below HW.out hx0
                obtain ⟨b, hb⟩ : ∃ b, inB (rd ps k) vars.length = b := ⟨_, rfl⟩
                have HB2 := Aside0.mk hb
                clear hb
                have hA : allFrom (parB vars.length ps) ps.length 0 = ((inB (rd ps k) vars.length && !(ps.take k).contains (rd ps k)) && allFrom (parB vars.length ps) ps.length (k + 1)) := HA.out.trans (allFrom_step hlt)
                rw [HB2.out] at hA
                clear HA
                obtain ⟨i0, hi0, _, hsz, _⟩ := info_parts info3
                obtain ⟨hcut, hread, hlen⟩ := print_take_of (P := Tryd.prog) (Value.int .i64) 0 22 3 .i64 Tryd.underlying22 hi0 hsz (some ad) c1 ps (k : Int) (by omega) (by omega) HC1.out
                have HT := Aside0.mk (Kd.C_of_reads (h1 := fun _ => rfl) (hread _ (Kd.reads_of_C HR1.out)))
                have HL := Aside0.mk hlen
                simp only [Int.toNat_natCast] at hcut HT HL
                clear hread hlen hi0 hsz
                cases b with
                | false =>
                  simp only [Bool.false_and] at hA
                  have HA := Aside0.mk hA
                  clear hA
                  go_wp2_with (go_at_call 55; refine (in_val _ _ _ HB2.out _).mono ?_; rintro e w3 ⟨rfl, rfl⟩)
                  go_ret
                  exact ⟨by rw [HA.out]; simp only [Bool.false_and, Bool.and_false]; rfl, HW.out⟩
                | true =>
                  rw [Bool.true_and] at hA
                  obtain ⟨ts, hts⟩ : ∃ ts, ps.take k = ts := ⟨_, rfl⟩
                  rw [hts] at hA hcut HT HL
                  clear hts
                  obtain ⟨b2, hb2⟩ : ∃ b2, ts.contains (rd ps k) = b2 := ⟨_, rfl⟩
                  have HB3 := Aside0.mk hb2
                  rw [hb2] at hA
                  clear hb2
                  cases b2 with
                  | true =>
                    simp only [Bool.not_true, Bool.false_and] at hA
                    have HA := Aside0.mk hA
                    clear hA
                    go_wp2_with (first | (go_at_call 55; refine (in_val _ _ _ HB2.out _).mono ?_; rintro e w3 ⟨rfl, rfl⟩) | (go_at_call 132; refine (contains_calls (some ad) c1 ts (rd ps k) _ HB3.out _ (Kd.C_below HT.out HW.out) HL.out).mono ?_; rintro e w3 ⟨rfl, ⟨nd, rfl⟩⟩))
                    go_ret
                    exact ⟨by rw [HA.out]; simp only [Bool.false_and, Bool.and_false]; rfl, by repeat (first | exact HW.out | (with_reducible apply below_alloc) | (with_reducible apply pw_below_drewN))⟩
                  | false =>
                    simp only [Bool.not_false, Bool.true_and] at hA
                    have HA := Aside0.mk hA
                    clear hA
                    go_wp2_with (first | (go_at_call 55; refine (in_val _ _ _ HB2.out _).mono ?_; rintro e w3 ⟨rfl, rfl⟩) | (go_at_call 132; refine (contains_calls (some ad) c1 ts (rd ps k) _ HB3.out _ (Kd.C_below HT.out HW.out) HL.out).mono ?_; rintro e w3 ⟨rfl, ⟨nd, rfl⟩⟩))
                    go_roundw
                    case rel => exact ⟨k + 1, by omega, by go_num, HA, ⟨by repeat (first | exact HB.out | (with_reducible apply below_alloc) | (with_reducible apply pw_below_drewN))⟩⟩
                    case measure => simp [intOf]; omega
              · obtain rfl : k = ps.length := by omega
                have E3 := Aside0.mk (HA.out.trans (allFrom_end _ _))
                clear HA
                go_wp2
                go_ret
                exact ⟨by simp only [E1.out, E2.out, E3.out]; rfl, HW.out⟩
end Go.Proofs.YtanhnfhpajaolaaDoor.Fo
/- graph.joined, told plainly. -/
namespace Go.Proofs.YtanhnfhpajaolaaDoor.Fo
open Go Go.RowKit Go.Proofs.YtanhnfhpajaolaaDoorW.PrintWords Go.Proofs.YtanhnfhpajaolaaDoorW.PrintLast Go.Proofs.YtanhnfhpajaolaaDoorW.PrintMore Go.Proofs.YtanhnfhpajaolaaDoor.F Go.Proofs.YtanhnfhpajaolaaDoor.Cf
set_option linter.unusedVariables false
set_option linter.unusedSimpArgs false
def joinedGo (ahead : Int) : List S49 → Int → List Int → Bool
  | [], _, _ => true
  | x :: xs, i, set => if x.f0 = 1 then (if i = (set.length : Int) then (if (x.f3.length : Int) = ahead then (if set.contains x.f2 = true then false else joinedGo ahead xs (i + 1) (set ++ [x.f2])) else false) else false) else joinedGo ahead xs (i + 1) set
theorem rd49_get (l : List S49) {i : Nat} (h : i < l.length) : rd_T49 l (i : Int) = l[i] := by unfold rd_T49; rw [Int.toNat_natCast, List.getD_eq_getElem?_getD, List.getElem?_eq_getElem h]; rfl
theorem joined_l0 (ahead : Int) (ins : List S49) (hl : ins.length < 17592186044416) (d : Nat) : ∀ (k i : Nat) (set : List Int), i + d = ins.length → set.length ≤ i → ins.length + d + 1 < k → graph_joined.l0 k ahead set ins (ins.length : Int) (i : Int) = some (joinedGo ahead (ins.drop i) (i : Int) set) := by
  induction d with
  | zero =>
    intro k i set hi hs hk
    obtain ⟨k, rfl⟩ : ∃ m, k = m + 1 := ⟨k - 1, by omega⟩
    rw [graph_joined.l0, if_neg (by omega), List.drop_eq_nil_of_le (by omega)]
    rfl
  | succ d ih =>
    intro k i set hi hs hk
    obtain ⟨k, rfl⟩ : ∃ m, k = m + 1 := ⟨k - 1, by omega⟩
    have h1 : i < ins.length := by omega
    rw [graph_joined.l0, if_pos (by omega), if_pos (by omega), if_pos (by omega), rd49_get _ h1, wrap_small (by omega) (by omega), List.drop_eq_getElem_cons h1, joinedGo]
    by_cases e1 : ins[i].f0 = 1
    · rw [if_pos e1, if_pos e1]
      by_cases e2 : (i : Int) = (set.length : Int)
      · rw [if_pos e2, if_pos e2]
        by_cases e3 : (ins[i].f3.length : Int) = ahead
        · rw [if_pos e3, if_pos e3, contains_some _ _ (by omega) _ (by omega)]
          simp only [Option.bind_some]
          cases e4 : set.contains ins[i].f2 with
          | true => rfl
          | false =>
            simp only [Bool.false_eq_true, if_false]
            rw [if_pos (by omega)]
            exact ih k (i + 1) _ (by omega) (by rw [List.length_append]; simp only [List.length_cons, List.length_nil]; omega) (by omega)
        · rw [if_neg e3, if_neg e3]
      · rw [if_neg e2, if_neg e2]
    · rw [if_neg e1, if_neg e1]
      exact ih k (i + 1) _ (by omega) (by omega) (by omega)
theorem joined_calls (A : Option Addr) (c : Nat) (ins : List S49) (kind arg t0 t1 trap ahead : Int) (r : Bool) (h : joinedGo ahead ins 0 [] = r) (w : World) (hr : Kd.C k49 w A ins.length ins) (hc : ins.length ≤ c) (hl : ins.length < 17592186044416) :
    Calls Tryd.prog 91 #[.agg #[.slice A ins.length c, .int .u8 kind, .int .i64 arg, .int .i64 t0, .int .i64 t1, .int .u8 trap], .int .i64 ahead] w fun e w' => e = .returned (.bool r) ∧ Below w.heap.size w w' := by
  refine graph_joined.calls (2 * ins.length + 2) A c ins kind arg t0 t1 trap ahead r w hr hc ?_
  unfold graph_joined.f
  have := joined_l0 ahead ins hl ins.length (2 * ins.length + 2) 0 [] (by omega) (by simp) (by omega)
  rw [← h]
  exact this
end Go.Proofs.YtanhnfhpajaolaaDoor.Fo
/- graph.Next. -/
namespace Go.Proofs
open Go.Shelf
def Tryd.laysCompact_ren : Go.Shelf.Ren := ⟨fun | 20 => 80 | n => n, fun | 22 => 22 | 3 => 3 | 4 => 4 | 0 => 0 | n => n, fun | n => n⟩
theorem Tryd.laysCompact : Go.Proofs.Lays2.n20 Tryd.prog Tryd.laysCompact_ren := {
  mixed := by kernel_rfl
  f20 := Tryd.func80.trans (congrArg some (by kernel_rfl))
  t0 := Tryd.underlying0
  a0 := Tryd.isAgg0
  z0 := Tryd.sizeOf0
  v0 := Tryd.zeroValue0
  t3 := Tryd.underlying3
  a3 := Tryd.isAgg3
  z3 := Tryd.sizeOf3
  v3 := Tryd.zeroValue3
  t4 := Tryd.underlying4
  a4 := Tryd.isAgg4
  z4 := Tryd.sizeOf4
  v4 := Tryd.zeroValue4
  t22 := Tryd.underlying22
  a22 := Tryd.isAgg22
  z22 := Tryd.sizeOf22
  v22 := Tryd.zeroValue22
  i3 := by kernel_rfl }
end Go.Proofs
namespace Go.Proofs.YtanhnfhpajaolaaDoor.Fo
open Go Go.RowKit Go.Proofs.YtanhnfhpajaolaaDoorW.PrintWords Go.Proofs.YtanhnfhpajaolaaDoorW.PrintLast Go.Proofs.YtanhnfhpajaolaaDoorW.PrintMore Go.Proofs.YtanhnfhpajaolaaDoor.F Go.Proofs.YtanhnfhpajaolaaDoor.Cf
attribute [local go_sem] max2_int min2_int max_two min_two
set_option linter.unusedVariables false
set_option linter.unusedSimpArgs false
def nextL (kind t0 t1 : Int) : List Int := if kind = 1 then [t0] else if kind = 2 then (if t0 = t1 then [t0] else [min t0 t1, max t0 t1]) else []
theorem compact_pair (a b : Int) : Lib.compact [a, b] = if a = b then [a] else [a, b] := by
  by_cases h : a = b
  · subst h
    simp [Lib.compact, Lib.compactUpTo, Lib.keeps, List.range, List.range.loop]
  · have h2 : ¬ b = a := fun e => h e.symm
    simp [Lib.compact, Lib.compactUpTo, Lib.keeps, List.range, List.range.loop, h, h2]
theorem pair_len (a b : Int) : (if a = b then [a] else [a, b]).length ≤ 2 := by split <;> simp
theorem compact2_calls (W : World) (B g : Nat) (a b : Int) (ho : W.ownsRow B 3 1 (.slice (some ⟨g, 0, none⟩) 2 2) 2 [.int .i64 a, .int .i64 b]) :
    Calls Tryd.prog 80 #[.slice (some ⟨g, 0, none⟩) 2 2] W fun e w' => ∃ v, e = .returned v ∧ Kd.R (Kd.int .i64) 3 w' B (fun _ => True) v (if a = b then [a] else [a, b]) ∧ Below B W w' := by
  have ho' : W.ownsRow B 3 1 (.slice (some ⟨g, 0, none⟩) 2 2) 2 ([a, b].map (Value.int .i64)) := ho
  obtain ⟨g', cap, he, hB, hlt, _, _, _, hH⟩ := Lib.holds_of_ownsRow ho' (by simp)
  injection he with he _ hcap
  injection he with he
  injection he with he
  subst he; subst hcap
  have hc := Any.slices_Compact_int (P := Tryd.prog) (ρ := Tryd.laysCompact_ren) Tryd.laysCompact g 0 2 [a, b] W hH (by simp) (by simp)
  change Calls Tryd.prog 80 _ _ _ at hc
  refine hc.mono ?_
  rintro e w' ⟨rfl, q, rfl⟩
  rw [compact_pair]
  have hl := pair_len a b
  refine ⟨_, rfl, ?_, Lib.below_putRow (Below.refl _ _) hB⟩
  have h2 := Lib.ownsRow_putRow (q := q) (k := (if a = b then [a] else [a, b]).length) (ys := (if a = b then [a] else [a, b]) ++ List.replicate ([a, b].length - (if a = b then [a] else [a, b]).length) 0) ho' (by simp; omega) hl
  rw [List.take_left] at h2
  exact Kd.R_of_own h2 (fun _ _ => trivial)
set_option maxHeartbeats 4000000 in
set_option maxRecDepth 100000 in
theorem next_calls (A : Option Addr) (n0 c0 : Nat) (kind arg t0 t1 trap : Int) (w : World) :
    Calls Tryd.prog 49 #[.agg #[.slice A n0 c0, .int .u8 kind, .int .i64 arg, .int .i64 t0, .int .i64 t1, .int .u8 trap]] w fun e w' => ∃ v0, e = .returned v0 ∧ Kd.R (Kd.int .i64) 3 w' w.heap.size (fun _ => True) v0 (nextL kind t0 t1) ∧ Below w.heap.size w w' := by
  by_cases h1 : kind = 1
  · subst h1
    go_enter Tryd.func49, Tryd.ntmps49
    go_wp2
    go_ret
    refine ⟨_, rfl, ?_, by repeat (first | exact Below.refl _ _ | (with_reducible apply below_alloc))⟩
    rw [show nextL 1 t0 t1 = [t0] from rfl]
    refine Kd.R_of_own ?_ (fun _ _ => trivial)
    have := World.ownsRow_lit (base := w.heap.size) (e := 3) (size := 1) ((w.alloc (.cells #[.slice A n0 c0, .int .u8 1, .int .i64 arg, .int .i64 t0, .int .i64 t1, .int .u8 trap] 43)).alloc (.cells #[.int .i64 t0, .int .i64 t1] 37)) #[.int .i64 t0] 1 (by simp; omega) (by simp [maxLen]) rfl
    simpa [encs] using this
  · by_cases h2 : kind = 2
    · subst h2
      obtain ⟨a, ha⟩ : ∃ a, min t0 t1 = a := ⟨_, rfl⟩
      obtain ⟨b, hb⟩ : ∃ b, max t0 t1 = b := ⟨_, rfl⟩
      have hn : nextL 2 t0 t1 = if a = b then [a] else [a, b] := by
        subst ha hb
        unfold nextL
        rw [if_neg (by decide), if_pos rfl]
        by_cases e : t0 = t1
        · subst e; simp
        · rw [if_neg e, if_neg (by omega)]
      rw [hn]
      clear hn
      rcases (show (t0 < t1 ∨ t0 = t1 ∨ t1 < t0) by omega) with h | h | h
      · obtain rfl : a = t0 := by omega
        obtain rfl : b = t1 := by omega
        clear ha hb
        have hle : a ≤ b := by omega
        have hn1 : ¬ b < a := by omega
        go_enter Tryd.func49, Tryd.ntmps49
        go_wp2_with (go_at_call 80; refine (compact2_calls _ w.heap.size _ a b (by
            have := World.ownsRow_lit (base := w.heap.size) (e := 3) (size := 1) ((w.alloc (.cells #[.slice A n0 c0, .int .u8 2, .int .i64 arg, .int .i64 a, .int .i64 b, .int .u8 trap] 43)).alloc (.cells #[.int .i64 a, .int .i64 b] 37)) #[.int .i64 a, .int .i64 b] 2 (by simp; omega) (by simp [maxLen]) rfl
            simpa using this)).mono ?_; rintro e w1 ⟨v, rfl, HR, HB⟩)
        go_ret
        rw [if_neg (show ¬ a = b by omega)] at HR
        refine ⟨_, rfl, HR, Below.trans ?_ HB⟩
        repeat (first | exact Below.refl _ _ | (with_reducible apply below_alloc))
      · subst h
        obtain rfl : a = t0 := by omega
        obtain rfl : b = a := by omega
        clear ha hb
        go_enter Tryd.func49, Tryd.ntmps49
        go_wp2_with (go_at_call 80; refine (compact2_calls _ w.heap.size _ b b (by
            have := World.ownsRow_lit (base := w.heap.size) (e := 3) (size := 1) ((w.alloc (.cells #[.slice A n0 c0, .int .u8 2, .int .i64 arg, .int .i64 b, .int .i64 b, .int .u8 trap] 43)).alloc (.cells #[.int .i64 b, .int .i64 b] 37)) #[.int .i64 b, .int .i64 b] 2 (by simp; omega) (by simp [maxLen]) rfl
            simpa using this)).mono ?_; rintro e w1 ⟨v, rfl, HR, HB⟩)
        go_ret
        rw [if_pos trivial] at HR
        refine ⟨_, rfl, HR, Below.trans ?_ HB⟩
        repeat (first | exact Below.refl _ _ | (with_reducible apply below_alloc))
      · obtain rfl : a = t1 := by omega
        obtain rfl : b = t0 := by omega
        clear ha hb
        have hle : a ≤ b := by omega
        have hn1 : ¬ b < a := by omega
        have hn2 : ¬ b ≤ a := by omega
        go_enter Tryd.func49, Tryd.ntmps49
        go_wp2_with (go_at_call 80; refine (compact2_calls _ w.heap.size _ a b (by
            have := World.ownsRow_lit (base := w.heap.size) (e := 3) (size := 1) ((w.alloc (.cells #[.slice A n0 c0, .int .u8 2, .int .i64 arg, .int .i64 b, .int .i64 a, .int .u8 trap] 43)).alloc (.cells #[.int .i64 b, .int .i64 a] 37)) #[.int .i64 a, .int .i64 b] 2 (by simp; omega) (by simp [maxLen]) rfl
            simpa using this)).mono ?_; rintro e w1 ⟨v, rfl, HR, HB⟩)
        go_ret
        rw [if_neg (show ¬ a = b by omega)] at HR
        refine ⟨_, rfl, HR, Below.trans ?_ HB⟩
        repeat (first | exact Below.refl _ _ | (with_reducible apply below_alloc))
    · go_enter Tryd.func49, Tryd.ntmps49
      go_wp2
      go_ret
      exact ⟨_, rfl, by rw [show nextL kind t0 t1 = [] by simp [nextL, h1, h2]]; exact Kd.R_nil _ _ _ _ _, by repeat (first | exact Below.refl _ _ | (with_reducible apply below_alloc))⟩
end Go.Proofs.YtanhnfhpajaolaaDoor.Fo
-- printed by px2.py, a program of this session, by way of the kit's print; Lean checks it
namespace Go.Proofs.YtanhnfhpajaolaaDoor.F
open Go.RowKit Go.Proofs.YtanhnfhpajaolaaDoorW.PrintWords Go.Proofs.YtanhnfhpajaolaaDoorW.PrintLast Go.Proofs.YtanhnfhpajaolaaDoorW.PrintMore
attribute [local go_sem] max2_int min2_int max_two min_two max_three min_three max_four min_four   -- for this text's walks alone
set_option linter.unusedVariables false
set_option linter.unusedSimpArgs false

/-! ### graph_Next: function 49 -/
def graph_Next.f (l0_0 : List (S49)) (a0_1 : Int) (a0_2 : Int) (a0_3 : Int) (a0_4 : Int) (a0_5 : Int) : Option (List Int) := some (Fo.nextL a0_1 a0_3 a0_4)
theorem graph_Next.calls (A0_0 : Option Addr) (c0_0 : Nat) (l0_0 : List (S49)) (a0_1 : Int) (a0_2 : Int) (a0_3 : Int) (a0_4 : Int) (a0_5 : Int) (r : List Int) (w : World) (hr0_0 : Kd.C k49 w A0_0 l0_0.length l0_0) (hc0_0 : l0_0.length ≤ c0_0) (h : graph_Next.f l0_0 a0_1 a0_2 a0_3 a0_4 a0_5 = some r) :
    Calls Tryd.prog 49 #[.agg #[.slice A0_0 l0_0.length c0_0, .int .u8 a0_1, .int .i64 a0_2, .int .i64 a0_3, .int .i64 a0_4, .int .u8 a0_5]] w fun e w' => ∃ v0_ : Value, e = .returned (v0_) ∧ Kd.R (Kd.int .i64) 3 w' w.heap.size (fun _ => True) v0_ r ∧ Below w.heap.size w w' := by
  obtain rfl := Option.some.inj h
  exact Fo.next_calls A0_0 l0_0.length c0_0 a0_1 a0_2 a0_3 a0_4 a0_5 w

end Go.Proofs.YtanhnfhpajaolaaDoor.F
