/- Texts of this proof, joined in build order: St, Tm, Iv, B0. -/
import Derived.Test.YtanhnfhpajaolaaDoorJ08
import Derived.ScopeJumps
import Derived.Deep.RegionWith
import Derived.Deep.DeepCutAuto
/- Three rows of sets in memory: each set a row of its own. -/
namespace Go.Proofs.YtanhnfhpajaolaaDoor.Fo
open Go Go.RowKit Go.Proofs.YtanhnfhpajaolaaDoorW.PrintWords Go.Proofs.YtanhnfhpajaolaaDoorW.PrintLast Go.Proofs.YtanhnfhpajaolaaDoorW.PrintMore Go.Proofs.YtanhnfhpajaolaaDoor.F Go.Proofs.YtanhnfhpajaolaaDoor.Cf Go.Proofs.YtanhnfhpajaolaaDoor.Sc
set_option linter.unusedVariables false
set_option linter.unusedSimpArgs false
/-- K a sets are told of row a: the row's block G a, the sets' blocks B a i, what they hold V a. -/
structure Sts (base : Nat) (w : World) (G : Nat → Nat) (B : Nat → Nat → Nat) (V : Nat → List (List Int)) (N n : Nat) (K : Nat → Nat) : Prop where
  outer : ∀ a, a < 3 → ∃ cs : Array Value, w.heap[G a]? = some (.cells cs 93 (0, 0)) ∧ cs.size = N ∧ ∀ i, i < K a → cs[i]? = some (.slice (some ⟨B a i, 0, none⟩) n n)
  len : ∀ a, a < 3 → (V a).length = K a
  own : ∀ a i, a < 3 → i < K a → Kd.R (Kd.int .u64) 47 w base (fun b => b = B a i) (.slice (some ⟨B a i, 0, none⟩) n n) (rd_L2 (V a) (i : Int))
  inj : ∀ a i b j, a < 3 → i < K a → b < 3 → j < K b → B a i = B b j → a = b ∧ i = j
  injG : ∀ a b, a < 3 → b < 3 → G a = G b → a = b
theorem rdL2_get {l : List (List Int)} {i : Nat} (h : i < l.length) : rd_L2 l (i : Int) = l[i] := by
  unfold rd_L2; rw [Int.toNat_natCast, List.getD_eq_getElem?_getD, List.getElem?_eq_getElem h]; rfl
theorem Sts.ne {base : Nat} {w : World} {G : Nat → Nat} {B : Nat → Nat → Nat} {V : Nat → List (List Int)} {N n : Nat} {K : Nat → Nat} (h : Sts base w G B V N n K) (a b i : Nat) (ha : a < 3) (hb : b < 3) (hi : i < K b) : G a ≠ B b i := by
  obtain ⟨cs, hc, _⟩ := h.outer a ha
  have := Kd.R_ne (h.own b i hb hi) hc (by decide)
  intro e
  exact this (by rw [e]; rfl)
theorem Sts.cell {base : Nat} {w : World} {G : Nat → Nat} {B : Nat → Nat → Nat} {V : Nat → List (List Int)} {N n : Nat} {K : Nat → Nat} (h : Sts base w G B V N n K) (a i : Nat) (ha : a < 3) (hi : i < K a) : w.cell? ⟨G a, i, none⟩ = some (.slice (some ⟨B a i, 0, none⟩) n n) := by
  obtain ⟨cs, hc, _, hi'⟩ := h.outer a ha
  rw [blk_cell hc i]
  exact hi' i hi
theorem Sts.frozen {base : Nat} {w : World} {G : Nat → Nat} {B : Nat → Nat → Nat} {V : Nat → List (List Int)} {N n : Nat} {K : Nat → Nat} (h : Sts base w G B V N n K) (a i : Nat) (ha : a < 3) : w.frozen? ⟨G a, i, none⟩ = false := by
  obtain ⟨cs, hc, _⟩ := h.outer a ha
  exact blk_frozen hc i
theorem Sts.lt {base : Nat} {w : World} {G : Nat → Nat} {B : Nat → Nat → Nat} {V : Nat → List (List Int)} {N n : Nat} {K : Nat → Nat} (h : Sts base w G B V N n K) (a i : Nat) (ha : a < 3) (hi : i < K a) : B a i < w.heap.size := Kd.R_lt (h.own a i ha hi) _ rfl
/-- What is not of these is written or made. -/
theorem Sts.kept {base : Nat} {w W : World} {G : Nat → Nat} {B : Nat → Nat → Nat} {V : Nat → List (List Int)} {N n : Nat} {K : Nat → Nat} (h : Sts base w G B V N n K) {S : Nat → Prop} (hk : Kept w W S) (hG : ∀ a, a < 3 → ¬ S (G a)) (hB : ∀ a i, a < 3 → i < K a → ¬ S (B a i)) : Sts base W G B V N n K where
  outer a ha := by
    obtain ⟨cs, hc, h1, h2⟩ := h.outer a ha
    exact ⟨cs, blk_kept hc hk (hG a ha), h1, h2⟩
  len := h.len
  own a i ha hi := Kd.R_kept (h.own a i ha hi) hk (fun k e => by rw [e]; exact hB a i ha hi)
  inj := h.inj
  injG := h.injG
theorem Sts.below {base : Nat} {w W : World} {G : Nat → Nat} {B : Nat → Nat → Nat} {V : Nat → List (List Int)} {N n : Nat} {K : Nat → Nat} (h : Sts base w G B V N n K) (hb : Below w.heap.size w W) : Sts base W G B V N n K :=
  h.kept (Kept.of_below hb (fun _ => False)) (fun _ _ h => h) (fun _ _ _ _ h => h)
/-- One set is written. -/
theorem Sts.row {base : Nat} {w W : World} {G : Nat → Nat} {B : Nat → Nat → Nat} {V : Nat → List (List Int)} {N n : Nat} {K : Nat → Nat} (h : Sts base w G B V N n K) (a i : Nat) (ha : a < 3) (hi : i < K a) (hk : Kept w W (fun b => b = B a i)) {s : List Int} (hr : Kd.R (Kd.int .u64) 47 W base (fun b => b = B a i) (.slice (some ⟨B a i, 0, none⟩) n n) s) :
    Sts base W G B (fun b => if b = a then (V a).set i s else V b) N n K where
  outer b hb := by
    obtain ⟨cs, hc, h1, h2⟩ := h.outer b hb
    exact ⟨cs, blk_kept hc hk (h.ne b a i hb ha hi), h1, h2⟩
  len b hb := by
    by_cases e : b = a
    · subst e
      simp [h.len b hb]
    · simp [e, h.len b hb]
  own b j hb hj := by
    by_cases e : b = a
    · subst e
      rw [show (if b = b then (V b).set i s else V b) = (V b).set i s from if_pos rfl]
      by_cases ej : j = i
      · subst ej
        rw [rdL2_get (by rw [List.length_set, h.len b hb]; exact hj), List.getElem_set_self]
        exact hr
      · have hne : ∀ k, k = B b j → ¬ k = B b i := fun k h1 h2 => ej (h.inj b j b i hb hj hb hi (h1.symm.trans h2)).2
        have := Kd.R_kept (h.own b j hb hj) hk hne
        rw [rdL2_get (by rw [List.length_set, h.len b hb]; exact hj), List.getElem_set_ne (fun e => ej e.symm), ← rdL2_get (by rw [h.len b hb]; exact hj)]
        exact this
    · rw [if_neg e]
      exact Kd.R_kept (h.own b j hb hj) hk (fun k h1 h2 => e (h.inj b j a i hb hj ha hi (h1.symm.trans h2)).1)
  inj := h.inj
  injG := h.injG
/-- One set more is told of row a. -/
theorem Sts.put {base : Nat} {w : World} {G : Nat → Nat} {B : Nat → Nat → Nat} {V : Nat → List (List Int)} {N n : Nat} {K : Nat → Nat} (h : Sts base w G B V N n K) (a g : Nat) (ha : a < 3) (hi : K a < N) {s : List Int} (hr : Kd.R (Kd.int .u64) 47 w base (fun b => b = g) (.slice (some ⟨g, 0, none⟩) n n) s) (hne : ∀ b i, b < 3 → i < K b → B b i ≠ g) :
    Sts base (w.setCell ⟨G a, K a, none⟩ (.slice (some ⟨g, 0, none⟩) n n)) G (fun b i => if b = a ∧ i = K a then g else B b i) (fun b => if b = a then V a ++ [s] else V b) N n (fun b => if b = a then K a + 1 else K b) where
  outer b hb := by
    obtain ⟨cs, hc, h1, h2⟩ := h.outer b hb
    by_cases e : b = a
    · subst e
      refine ⟨_, blk_put hc (K b) _ rfl, by simpa using h1, fun i hik => ?_⟩
      rw [show (if b = b then K b + 1 else K b) = K b + 1 from if_pos rfl] at hik
      simp only [true_and]
      by_cases ei : i = K b
      · subst ei
        rw [Array.getElem?_setIfInBounds_self, if_pos (by rw [h1]; exact hi), if_pos rfl]
      · rw [Array.getElem?_setIfInBounds_ne (fun e => ei e.symm), if_neg ei]
        exact h2 i (by omega)
    · refine ⟨cs, ?_, h1, fun i hik => ?_⟩
      · rw [Below.heap_setCell w _ _ _ (fun e2 => e (h.injG b a hb ha e2))]
        exact hc
      · simp only [e, if_false] at hik
        simp only [e, false_and, if_false]
        exact h2 i hik
  len b hb := by
    by_cases e : b = a
    · subst e
      simp [h.len b hb]
    · simp [e, h.len b hb]
  own b j hb hj := by
    obtain ⟨csa, hca, _⟩ := h.outer a ha
    have hty : ∀ q, q ∈ 47 :: (Kd.int .u64).E → q ≠ 93 := by
      intro q hq
      have : q = 47 := by simpa [Kd.int, Kd.scalar] using hq
      omega
    by_cases e : b = a
    · subst e
      rw [show (if b = b then K b + 1 else K b) = K b + 1 from if_pos rfl] at hj
      rw [show (if b = b then V b ++ [s] else V b) = V b ++ [s] from if_pos rfl]
      simp only [true_and]
      by_cases ej : j = K b
      · subst ej
        rw [if_pos rfl]
        rw [rdL2_get (by rw [List.length_append, h.len b hb]; simp), List.getElem_append_right (by rw [h.len b hb]; exact Nat.le_refl _)]
        simp only [h.len b hb, Nat.sub_self, List.getElem_cons_zero]
        exact Kd.R_set hr hca hty _ _
      · simp only [if_neg ej]
        rw [rdL2_get (by rw [List.length_append, h.len b hb]; simp; omega), List.getElem_append_left (by rw [h.len b hb]; omega), ← rdL2_get (by rw [h.len b hb]; omega)]
        exact Kd.R_set (h.own b j hb (by omega)) hca hty _ _
    · simp only [e, if_false] at hj
      simp only [e, false_and, if_false]
      exact Kd.R_set (h.own b j hb hj) hca hty _ _
  inj b i c j hb hi2 hc hj hbc := by
    try simp only at hi2 hj hbc
    by_cases e : b = a ∧ i = K a
    · rw [if_pos e] at hbc
      by_cases e2 : c = a ∧ j = K a
      · exact ⟨by omega, by omega⟩
      · rw [if_neg e2] at hbc
        refine absurd hbc.symm (hne c j hc ?_)
        split at hj
        · rename_i hca
          subst hca
          have : j ≠ K c := fun e3 => e2 ⟨rfl, e3⟩
          omega
        · exact hj
    · rw [if_neg e] at hbc
      have hi3 : i < K b := by
        split at hi2
        · rename_i hca
          subst hca
          have : i ≠ K b := fun e3 => e ⟨rfl, e3⟩
          omega
        · exact hi2
      by_cases e2 : c = a ∧ j = K a
      · rw [if_pos e2] at hbc
        exact absurd hbc (hne b i hb hi3)
      · rw [if_neg e2] at hbc
        refine h.inj b i c j hb hi3 hc ?_ hbc
        split at hj
        · rename_i hca
          subst hca
          have : j ≠ K c := fun e3 => e2 ⟨rfl, e3⟩
          omega
        · exact hj
  injG := h.injG
theorem least {p : Nat → Prop} (h : ∃ m, p m) : ∃ m, p m ∧ ∀ m', p m' → m ≤ m' := by
  obtain ⟨m, hm⟩ := h
  induction m using Nat.strongRecOn with
  | _ m ih =>
    by_cases hx : ∃ k, k < m ∧ p k
    · obtain ⟨k, hk, hp⟩ := hx
      exact ih k hk hp
    · exact ⟨m, hm, fun k hp => Nat.le_of_not_lt (fun hk => hx ⟨k, hk, hp⟩)⟩
/-- A scope with jumps back to one label; the measure is told beside. -/
theorem wp_scope_jumps2 {P : Program} {a : Act} {w : World} {Q : Exit → Act → World → Prop} {c rest : Code} (l : Nat) (J : Nat → Act → World → Prop) (hf : findLabel c l = some rest)
    (first : c.wp P (Exit.jump l (fun a w => ∃ m, J m a w) Q) a w)
    (pass : ∀ m a w, J m a w → rest.wp P (Exit.jump l (fun a' w' => ∃ m', m' < m ∧ J m' a' w') Q) a w) : (Code.scope c).wp P Q a w := by
  classical
  refine wp_scope_jumps l (fun a w => ∃ m, J m a w) (fun a w => if h : ∃ m, J m a w then Classical.choose (least h) else 0) hf first ?_
  intro a w hJ
  have hm := Classical.choose_spec (least hJ)
  refine Code.wp_mono ?_ (pass _ a w hm.1)
  intro e a' w' hq
  cases e with
  | goto l' =>
    obtain ⟨hl, m', hlt, hJ'⟩ := hq
    refine ⟨hl, ⟨m', hJ'⟩, ?_⟩
    rw [dif_pos ⟨m', hJ'⟩, dif_pos hJ]
    exact Nat.lt_of_le_of_lt ((Classical.choose_spec (least ⟨m', hJ'⟩)).2 _ hJ') hlt
  | _ => exact hq
end Go.Proofs.YtanhnfhpajaolaaDoor.Fo
/- live.Live's loop ends. -/
namespace Go.Proofs.YtanhnfhpajaolaaDoor.Fo
open Go Go.RowKit Go.Proofs.YtanhnfhpajaolaaDoorW.PrintWords Go.Proofs.YtanhnfhpajaolaaDoorW.PrintLast Go.Proofs.YtanhnfhpajaolaaDoorW.PrintMore Go.Proofs.YtanhnfhpajaolaaDoor.F Go.Proofs.YtanhnfhpajaolaaDoor.Cf Go.Proofs.YtanhnfhpajaolaaDoor.Sc
set_option linter.unusedVariables false
set_option linter.unusedSimpArgs false
def cntS (n : Nat) (s : List Int) : Nat := (List.range (64 * n)).countP fun u => !inS s u
def leS (n : Nat) (s t : List Int) : Prop := ∀ u, u < 64 * n → inS s u = true → inS t u = true
theorem countP_le {p q : Nat → Bool} : ∀ l : List Nat, (∀ u ∈ l, q u = true → p u = true) → l.countP q ≤ l.countP p
  | [], _ => by simp
  | u :: l, h => by
    have ih := countP_le l (fun v hv => h v (by simp [hv]))
    rw [List.countP_cons, List.countP_cons]
    have := h u (by simp)
    by_cases hq : q u = true
    · rw [if_pos hq, if_pos (this hq)]; omega
    · rw [if_neg hq]; omega
theorem countP_lt {p q : Nat → Bool} : ∀ l : List Nat, (∀ u ∈ l, q u = true → p u = true) → (∃ u ∈ l, p u = true ∧ q u = false) → l.countP q < l.countP p
  | [], _, h => by simp at h
  | u :: l, h, hx => by
    have hl := countP_le l (fun v hv => h v (by simp [hv]))
    rw [List.countP_cons, List.countP_cons]
    obtain ⟨v, hv, hp, hq⟩ := hx
    rcases List.mem_cons.1 hv with rfl | hv
    · rw [if_pos hp, if_neg (by simp [hq])]; omega
    · have ih := countP_lt l (fun v hv => h v (by simp [hv])) ⟨v, hv, hp, hq⟩
      have := h u (by simp)
      by_cases hqu : q u = true
      · rw [if_pos hqu, if_pos (this hqu)]; omega
      · rw [if_neg hqu]; omega
theorem cnt_le {n : Nat} {s t : List Int} (h : leS n s t) : cntS n t ≤ cntS n s :=
  countP_le _ fun u hu hq => by
    have := h u (List.mem_range.1 hu)
    cases e : inS s u with
    | true => simp [this e] at hq
    | false => rfl
theorem cnt_lt {n : Nat} {s t : List Int} (h : leS n s t) (hx : ∃ u, u < 64 * n ∧ inS s u = false ∧ inS t u = true) : cntS n t < cntS n s := by
  obtain ⟨u, hu, h1, h2⟩ := hx
  refine countP_lt _ (fun u hu hq => ?_) ⟨u, List.mem_range.2 hu, by simp [h1], by simp [h2]⟩
  have := h u (List.mem_range.1 hu)
  cases e : inS s u with
  | true => simp [this e] at hq
  | false => rfl
theorem join_le {n : Nat} {s a l : List Int} (hs : setOk n s) (ha : setOk n a) (hl : setOk n l) : leS n s (joinP s a l n) := fun u hu h => by
  rw [join_in hs ha hl u hu, h]; rfl
theorem join_cnt {n : Nat} {s a l : List Int} (hs : setOk n s) (ha : setOk n a) (hl : setOk n l) : cntS n (joinP s a l n) ≤ cntS n s ∧ (joinQ s a l n = true → cntS n (joinP s a l n) < cntS n s) := by
  refine ⟨cnt_le (join_le hs ha hl), fun hq => ?_⟩
  obtain ⟨u, hu, h1, h2, h3⟩ := (joinQ_in hs ha hl).1 hq
  exact cnt_lt (join_le hs ha hl) ⟨u, hu, h3, by rw [join_in hs ha hl u hu, h1, h2, h3]; rfl⟩
def okL (n N : Nat) (l : List (List Int)) : Prop := l.length = N ∧ ∀ s ∈ l, setOk n s
theorem okL_rd {n N : Nat} {l : List (List Int)} (h : okL n N l) (k : Int) (h0 : 0 ≤ k) (h1 : k < (N : Int)) : setOk n (rd_L2 l k) := by
  have hk : k.toNat < l.length := by rw [h.1]; omega
  rw [show k = (k.toNat : Int) by omega, rdL2_get hk]
  exact h.2 _ (List.getElem_mem hk)
theorem okL_set {n N : Nat} {l : List (List Int)} (h : okL n N l) (i : Nat) {s : List Int} (hs : setOk n s) : okL n N (l.set i s) := by
  refine ⟨by rw [List.length_set]; exact h.1, fun t ht => ?_⟩
  rcases List.mem_or_eq_of_mem_set ht with ht | rfl
  · exact h.2 _ ht
  · exact hs
def totS (n : Nat) (l : List (List Int)) : Nat := (l.map (cntS n)).sum
theorem tot_set (n : Nat) : ∀ (l : List (List Int)) (i : Nat) (h : i < l.length) (s : List Int), totS n (l.set i s) + cntS n l[i] = totS n l + cntS n s
  | [], _, h, _ => absurd h (by simp)
  | x :: l, 0, _, s => by simp [totS]; omega
  | x :: l, i + 1, h, s => by
    have := tot_set n l i (by simpa using h) s
    simp only [totS, List.set_cons_succ, List.map_cons, List.sum_cons, List.getElem_cons_succ] at this ⊢
    omega
theorem next_cnt {n N : Nat} {into : List (List Int)} {none : List Int} (hi : okL n N into) (hn : setOk n none) : ∀ (ks : List Int) (p : List Int × Bool), (∀ k ∈ ks, 0 ≤ k ∧ k < (N : Int)) → setOk n p.1 →
    setOk n (nextJ into none ks p).1 ∧ cntS n (nextJ into none ks p).1 ≤ cntS n p.1 ∧ ((nextJ into none ks p).2 = true → p.2 = true ∨ cntS n (nextJ into none ks p).1 < cntS n p.1)
  | [], p, _, hp => ⟨hp, Nat.le_refl _, fun h => .inl h⟩
  | k :: ks, p, hk, hp => by
    rw [nextJ, hp.1]
    have hr := okL_rd hi k (hk k (by simp)).1 (hk k (by simp)).2
    obtain ⟨c1, c2⟩ := join_cnt hp hr hn
    obtain ⟨h1, h2, h3⟩ := next_cnt hi hn ks (joinP p.1 (rd_L2 into k) none n, joinQ p.1 (rd_L2 into k) none n || p.2) (fun z hz => hk z (by simp [hz])) (joinP_ok hp hr hn)
    refine ⟨h1, Nat.le_trans h2 c1, fun h => ?_⟩
    rcases h3 h with h | h
    · simp only [Bool.or_eq_true] at h
      rcases h with h | h
      · exact .inr (Nat.lt_of_le_of_lt h2 (c2 h))
      · exact .inl h
    · exact .inr (Nat.lt_of_lt_of_le h c1)
section
variable {bs : List S43} {does : List (List Int)} {none : List Int} {n : Nat}
def okN (bs : List S43) : Prop := ∀ i, i < bs.length → ∀ k ∈ nextOf bs i, 0 ≤ k ∧ k < (bs.length : Int)
def okS (n N : Nat) (s : List (List Int) × List (List Int) × Bool) : Prop := okL n N s.1 ∧ okL n N s.2.1
def totP (n : Nat) (s : List (List Int) × List (List Int) × Bool) : Nat := totS n s.1 + totS n s.2.1
theorem step_cnt (hb : okN bs) (hd : okL n bs.length does) (hn : setOk n none) (i : Nat) (hi : i < bs.length) (s : List (List Int) × List (List Int) × Bool) (hs : okS n bs.length s) :
    okS n bs.length (stepJ bs does none i s) ∧ totP n (stepJ bs does none i s) ≤ totP n s ∧ ((stepJ bs does none i s).2.2 = true → s.2.2 = true ∨ totP n (stepJ bs does none i s) < totP n s) := by
  obtain ⟨h1, h2⟩ := hs
  have hi1 : i < s.1.length := by rw [h1.1]; exact hi
  have hi2 : i < s.2.1.length := by rw [h2.1]; exact hi
  have ho := okL_rd h2 (i : Int) (by omega) (by omega)
  have hin := okL_rd h1 (i : Int) (by omega) (by omega)
  have hdo := okL_rd hd (i : Int) (by omega) (by omega)
  obtain ⟨a1, a2, a3⟩ := next_cnt h1 hn (nextOf bs i) (rd_L2 s.2.1 i, s.2.2) (hb i hi) ho
  have hp := a1
  generalize hpe : nextJ s.1 none (nextOf bs i) (rd_L2 s.2.1 i, s.2.2) = p at a1 a2 a3 hp
  obtain ⟨b1, b2⟩ := join_cnt hin hp hdo
  have e1 := tot_set n s.1 i hi1 (joinP (rd_L2 s.1 i) p.1 (rd_L2 does i) n)
  have e2 := tot_set n s.2.1 i hi2 p.1
  rw [← rdL2_get hi1] at e1
  rw [← rdL2_get hi2] at e2
  unfold stepJ
  simp only [hpe, hin.1]
  refine ⟨⟨okL_set h1 i (joinP_ok hin hp hdo), okL_set h2 i hp⟩, ?_, fun h => ?_⟩
  · unfold totP
    simp only at a2 ⊢
    omega
  · unfold totP
    simp only [Bool.or_eq_true] at h
    rcases h with h | h
    · have := b2 h
      right
      simp only at a2 ⊢
      omega
    · rcases a3 h with h | h
      · exact .inl h
      · right
        simp only at h a2 ⊢
        omega
theorem pass_cnt (hb : okN bs) (hd : okL n bs.length does) (hn : setOk n none) : ∀ (i : Nat) (s : List (List Int) × List (List Int) × Bool), i ≤ bs.length → okS n bs.length s →
    okS n bs.length (passJ bs does none i s) ∧ totP n (passJ bs does none i s) ≤ totP n s ∧ ((passJ bs does none i s).2.2 = true → s.2.2 = true ∨ totP n (passJ bs does none i s) < totP n s)
  | 0, s, _, hs => ⟨hs, Nat.le_refl _, fun h => .inl h⟩
  | i + 1, s, hi, hs => by
    obtain ⟨h1, h2, h3⟩ := step_cnt hb hd hn i (by omega) s hs
    obtain ⟨k1, k2, k3⟩ := pass_cnt hb hd hn i (stepJ bs does none i s) (by omega) h1
    rw [passJ]
    refine ⟨k1, Nat.le_trans k2 h2, fun h => ?_⟩
    rcases k3 h with h | h
    · rcases h3 h with h | h
      · exact .inl h
      · exact .inr (Nat.lt_of_le_of_lt k2 h)
    · exact .inr (Nat.lt_of_lt_of_le h h2)
theorem loop_ends (hb : okN bs) (hd : okL n bs.length does) (hn : setOk n none) (m : Nat) : ∀ s : List (List Int) × List (List Int), totP n (s.1, s.2, false) = m → okS n bs.length (s.1, s.2, false) → ∃ f r, loopJ bs does none f s = some r := by
  induction m using Nat.strongRecOn with
  | _ m ih =>
    intro s hm hs
    obtain ⟨k1, k2, k3⟩ := pass_cnt hb hd hn bs.length (s.1, s.2, false) (Nat.le_refl _) hs
    by_cases hc : (passJ bs does none bs.length (s.1, s.2, false)).2.2 = true
    · have hlt : totP n (passJ bs does none bs.length (s.1, s.2, false)) < m := by
        rcases k3 hc with h | h
        · cases h
        · omega
      obtain ⟨f, r, hr⟩ := ih _ hlt ((passJ bs does none bs.length (s.1, s.2, false)).1, (passJ bs does none bs.length (s.1, s.2, false)).2.1) rfl k1
      exact ⟨f + 1, r, by rw [loopJ, if_pos hc]; exact hr⟩
    · exact ⟨1, _, by rw [loopJ, if_neg hc]⟩
end
end Go.Proofs.YtanhnfhpajaolaaDoor.Fo
/- live.Live's sets are sets; it ends. -/
namespace Go.Proofs.YtanhnfhpajaolaaDoor.Fo
open Go Go.RowKit Go.Proofs.YtanhnfhpajaolaaDoorW.PrintWords Go.Proofs.YtanhnfhpajaolaaDoorW.PrintLast Go.Proofs.YtanhnfhpajaolaaDoorW.PrintMore Go.Proofs.YtanhnfhpajaolaaDoor.F Go.Proofs.YtanhnfhpajaolaaDoor.Cf Go.Proofs.YtanhnfhpajaolaaDoor.Sc
set_option linter.unusedVariables false
set_option linter.unusedSimpArgs false
theorem putG_okI {n : Nat} {s : List Int} (h : setOk n s) (v : Int) (h0 : 0 ≤ v) : setOk n (putG s v) := by
  obtain ⟨k, rfl⟩ := Int.eq_ofNat_of_zero_le h0
  exact putG_ok h k
theorem zeros_ok (n : Nat) : setOk n (zerosG n) := by
  refine ⟨by simp [zerosG], fun x hx => ?_⟩
  rw [(List.mem_replicate.1 hx).2]
  exact ⟨Int.le_refl _, by decide⟩
theorem zeros_in (n u : Nat) : inS (zerosG n) u = false := by
  unfold inS zerosG
  rw [List.getD_eq_getElem?_getD, List.getElem?_replicate]
  split <;> simp
theorem ask_ok {n : Nat} {ds a : List Int} (h : setOk n a) (v : Int) (h0 : 0 ≤ v) : setOk n (askG ds a v) := by
  unfold askG
  split
  · exact h
  · exact putG_okI h v h0
theorem asks_ok {n : Nat} {ds : List Int} : ∀ (l a : List Int), setOk n a → (∀ v ∈ l, 0 ≤ v) → setOk n (l.foldl (askG ds) a)
  | [], a, h, _ => h
  | v :: l, a, h, hl => asks_ok l _ (ask_ok h v (hl v (by simp))) (fun u hu => hl u (by simp [hu]))
theorem sets_in {n : Nat} {x : S49} (h : okI n x) (hs : setsB x = true) : 0 ≤ x.f2 ∧ x.f2 < (n : Int) := by
  unfold setsB at hs
  simp at hs
  exact h.2 hs.1 hs.2.1 hs.2.2
theorem blkI_ok {n m : Nat} {p : List Int × List Int} (h1 : setOk n p.1) (h2 : setOk n p.2) {x : S49} (hx : okI m x) : setOk n (blkI p x).1 ∧ setOk n (blkI p x).2 := by
  unfold blkI
  refine ⟨?_, ?_⟩
  · simp only
    split
    · exact h1
    · exact asks_ok _ _ h1 (fun v hv => (hx.1 v hv).1)
  · simp only
    split
    · rename_i hs
      exact putG_okI h2 _ (sets_in hx hs).1
    · exact h2
theorem blkIs_ok {n m : Nat} : ∀ (l : List S49) (p : List Int × List Int), setOk n p.1 → setOk n p.2 → (∀ x ∈ l, okI m x) → setOk n (l.foldl blkI p).1 ∧ setOk n (l.foldl blkI p).2
  | [], p, h1, h2, _ => ⟨h1, h2⟩
  | x :: l, p, h1, h2, hl => by
    obtain ⟨k1, k2⟩ := blkI_ok h1 h2 (hl x (by simp))
    exact blkIs_ok l _ k1 k2 (fun y hy => hl y (by simp [hy]))
theorem blkG_ok {n m nb : Nat} {b : S43} (h : okBl m nb b) : setOk n (blkG b n).1 ∧ setOk n (blkG b n).2 := by
  obtain ⟨k1, k2⟩ := blkIs_ok b.f0 (zerosG n, zerosG n) (zeros_ok n) (zeros_ok n) h.1
  refine ⟨?_, k2⟩
  unfold blkG blkE
  simp only
  split
  · rename_i e
    exact ask_ok k1 _ (h.2.1 e).1
  · exact k1
def okRow (N : Nat) (row : List Int) : Prop := ∀ v ∈ row, 0 ≤ v ∧ v < (N : Int)
theorem rd_row {N : Nat} {row : List Int} (h : okRow N row) (k : Nat) (hk : k < row.length) : 0 ≤ rd row (k : Int) ∧ rd row (k : Int) < (N : Int) := by
  rw [rd_get _ hk]
  exact h _ (List.getElem_mem hk)
theorem phiA_ok {n N : Nat} {row : List Int} (hr : okRow N row) : ∀ (args : List Int) (k : Nat) (o : List (List Int)), (∀ v ∈ args, 0 ≤ v) → args.length + k ≤ row.length → okL n N o → okL n N (phiA row k args o)
  | [], k, o, _, _, h => h
  | v :: t, k, o, hv, hk, h => by
    rw [phiA]
    have hk1 : t.length + 1 + k ≤ row.length := by simpa using hk
    obtain ⟨a, b⟩ := rd_row hr k (by omega)
    exact phiA_ok hr t (k + 1) _ (fun u hu => hv u (by simp [hu])) (by omega) (okL_set h _ (putG_okI (okL_rd h _ a b) v (hv v (by simp))))
theorem phiB_ok {n N : Nat} {row : List Int} (hr : okRow N row) : ∀ (ins : List S49) (o : List (List Int)), (∀ x ∈ ins, x.f0 = 1 → x.f3.length = row.length ∧ ∀ v ∈ x.f3, 0 ≤ v) → okL n N o → okL n N (phiB row ins o)
  | [], o, _, h => h
  | x :: xs, o, hx, h => by
    rw [phiB]
    refine phiB_ok hr xs _ (fun y hy => hx y (by simp [hy])) ?_
    split
    · rename_i e
      obtain ⟨h1, h2⟩ := hx x (by simp) e
      exact phiA_ok hr _ 0 _ h2 (by omega) h
    · exact h
def okPhi (row : List Int) (b : S43) : Prop := ∀ x ∈ b.f0, x.f0 = 1 → x.f3.length = row.length ∧ ∀ v ∈ x.f3, 0 ≤ v
theorem phiAll_ok {n N : Nat} : ∀ (rs : List (List Int)) (bs : List S43) (o : List (List Int)), (∀ (i : Nat) (h1 : i < rs.length) (h2 : i < bs.length), okRow N rs[i] ∧ okPhi rs[i] bs[i]) → okL n N o → okL n N (phiAll rs bs o)
  | [], _, o, _, h => by rw [phiAll]; exact h; simp
  | r :: rs, [], o, _, h => by rw [phiAll]; exact h; simp
  | r :: rs, b :: bs, o, hx, h => by
    rw [phiAll]
    have h0 := hx 0 (by simp) (by simp)
    exact phiAll_ok rs bs _ (fun i h1 h2 => hx (i + 1) (by simpa using h1) (by simpa using h2)) (phiB_ok h0.1 b.f0 o h0.2 h)
theorem aheadL_len (bs : List S43) : (aheadL bs).length = bs.length := by simp [aheadL, aheadAt]
theorem aheadL_row (bs : List S43) (i : Nat) (h : i < (aheadL bs).length) : okRow bs.length (aheadL bs)[i] ∧ (aheadL bs)[i].length ≤ bs.length := by
  have e : (aheadL bs)[i] = rowAt bs bs.length i := by simp [aheadL, aheadAt]
  rw [e]
  refine ⟨fun v hv => ?_, rowAt_len _ _ _⟩
  unfold rowAt at hv
  obtain ⟨j, hj, rfl⟩ := List.mem_map.1 hv
  have := List.mem_range.1 (List.mem_filter.1 hj).1
  omega
/-- What live.Live asks of a graph that is right by itself. -/
structure Good (g : S28) : Prop where
  blk : ∀ (i : Nat) (h : i < g.f5.length), okBl g.f3.length g.f5.length g.f5[i]
  phi : ∀ (i : Nat) (h1 : i < (aheadL g.f5).length) (h2 : i < g.f5.length), okRow g.f5.length (aheadL g.f5)[i] ∧ okPhi (aheadL g.f5)[i] g.f5[i]
theorem good_of {g : S28} (h : aloneG g = true) : Good g where
  blk i hi := (alone_ok h i hi).1
  phi i h1 h2 := by
    obtain ⟨a, b⟩ := alone_ok h i h2
    refine ⟨(aheadL_row _ i h1).1, fun x hx h1x => ?_⟩
    have := b x hx h1x
    rw [rdL2_get h1] at this
    exact ⟨this, fun v hv => ((a.1 x hx).1 v hv).1⟩
theorem sizeN_big (g : S28) (v : Int) (h : v < (g.f3.length : Int)) : v < 64 * (sizeN g : Int) := by
  unfold sizeN
  omega
theorem into0_ok {g : S28} (h : Good g) : okL (sizeN g) g.f5.length (into0 g) := by
  refine ⟨by simp [into0], fun s hs => ?_⟩
  obtain ⟨b, hb, rfl⟩ := List.mem_map.1 hs
  obtain ⟨i, hi, rfl⟩ := List.getElem_of_mem hb
  exact (blkG_ok (h.blk i hi)).1
theorem does0_ok {g : S28} (h : Good g) : okL (sizeN g) g.f5.length (does0 g) := by
  refine ⟨by simp [does0], fun s hs => ?_⟩
  obtain ⟨b, hb, rfl⟩ := List.mem_map.1 hs
  obtain ⟨i, hi, rfl⟩ := List.getElem_of_mem hb
  exact (blkG_ok (h.blk i hi)).2
theorem blank_ok (g : S28) : okL (sizeN g) g.f5.length (g.f5.map fun _ => zerosG (sizeN g)) := by
  refine ⟨by simp, fun s hs => ?_⟩
  obtain ⟨b, hb, rfl⟩ := List.mem_map.1 hs
  exact zeros_ok _
theorem out0_ok {g : S28} (h : Good g) : okL (sizeN g) g.f5.length (out0 g) :=
  phiAll_ok _ _ _ h.phi (blank_ok g)
theorem next_ok {g : S28} (h : Good g) : okN g.f5 := fun i hi k hk => by
  unfold nextOf at hk
  rw [rd43_get _ hi] at hk
  have := (h.blk i hi).2.2 k hk
  omega
theorem live_some {g : S28} (h : Good g) : ∃ f r, liveG f g = some r := by
  obtain ⟨f, r, hr⟩ := loop_ends (next_ok h) (does0_ok h) (zeros_ok (sizeN g)) _ (into0 g, out0 g) rfl ⟨into0_ok h, out0_ok h⟩
  exact ⟨f, _, by unfold liveG; rw [hr]; rfl⟩
end Go.Proofs.YtanhnfhpajaolaaDoor.Fo
/- live.block: what is made. -/
namespace Go.Proofs.YtanhnfhpajaolaaDoor.Fo
open Go Go.RowKit Go.Proofs.YtanhnfhpajaolaaDoorW.PrintWords Go.Proofs.YtanhnfhpajaolaaDoorW.PrintLast Go.Proofs.YtanhnfhpajaolaaDoorW.PrintMore Go.Proofs.YtanhnfhpajaolaaDoor.F Go.Proofs.YtanhnfhpajaolaaDoor.Cf Go.Proofs.YtanhnfhpajaolaaDoor.Sc
set_option linter.unusedVariables false
set_option linter.unusedSimpArgs false
theorem make47 (n : Nat) (hn : n ≤ 35184372088832) : ∃ Z : Array Value, Z.toList = encs (Value.int .u64) (List.replicate n 0) ∧ ∀ W : World, (Instr.makeSlice 93 (.int .i64 n) (.int .i64 n)).run Tryd.prog W = .ok (.slice (some ⟨W.heap.size, 0, none⟩) n n) (W.alloc (.cells Z 47)) := by
  obtain ⟨i0, hi, hzz⟩ := Option.map_eq_some_iff.1 info47
  simp only [Prod.mk.injEq] at hzz
  obtain ⟨hz0, hz1, hz2⟩ := hzz
  refine ⟨madeCells (Value.int .u64 0).cells (n * i0.size), ?_, fun W => ?_⟩
  · rw [hz1, Nat.mul_one]
    apply List.ext_getElem
    · simp [encs, size_madeCells]
    · intro j h1 h2
      simp [madeCells, encs, Value.cells, Nat.mod_one]
  · have hr := run_make (P := Tryd.prog) W 93 47 i0 _ Tryd.underlying93 hi hz0 .i64 .i64 (n : Int) (n : Int) (by omega) (by omega) (by rw [hz2]; omega) (by omega)
    simpa using hr
theorem own_zeros (n : Nat) (hn : n ≤ 35184372088832) {Z : Array Value} (hZ : Z.toList = encs (Value.int .u64) (List.replicate n 0)) (base : Nat) (W : World) (hb : base ≤ W.heap.size) : Kd.R (Kd.int .u64) 47 (W.alloc (.cells Z 47)) base (fun k => k = W.heap.size) (.slice (some ⟨W.heap.size, 0, none⟩) n n) (zerosG n) := by
  have hsz : Z.size = n := by
    have := congrArg List.length hZ
    simpa [encs] using this
  have := World.ownsRow_lit (base := base) (e := 47) (size := 1) W Z n hb (by simp [maxLen]; omega) (by rw [hsz, Nat.mul_one])
  rw [hZ] at this
  refine Kd.R_of_own ?_ (fun k hk => by
    have : W.heap.size = k := by simpa [Value.ownBlock] using hk
    exact this.symm)
  have e : (zerosG n).length = n := by simp [zerosG]
  rw [e]
  exact this
theorem size_al (W : World) (o : Obj) : (W.alloc o).heap.size = W.heap.size + 1 := by simp
theorem al4 (W : World) (o1 o2 o3 o4 : Obj) : ((((W.alloc o1).alloc o2).alloc o3).alloc o4).drew.heap[W.heap.size + 1 + 1 + 1]? = some o4 := by
  have := blk_new (((W.alloc o1).alloc o2).alloc o3) o4
  rw [size_al, size_al, size_al] at this
  exact this
theorem al3 (W : World) (o1 o2 o3 o4 : Obj) : ((((W.alloc o1).alloc o2).alloc o3).alloc o4).drew.heap[W.heap.size + 1 + 1]? = some o3 := by
  have := blk_below (blk_new ((W.alloc o1).alloc o2) o3) (below_alloc (Below.refl _ _) o4)
  rw [size_al, size_al] at this
  exact this
theorem al2 (W : World) (o1 o2 o3 o4 : Obj) : ((((W.alloc o1).alloc o2).alloc o3).alloc o4).drew.heap[W.heap.size + 1]? = some o2 := by
  have := blk_below (blk_below (blk_new (W.alloc o1) o2) (below_alloc (Below.refl _ _) o3)) (below_alloc (Below.refl _ _) o4)
  rw [size_al] at this
  exact this
theorem al1 (W : World) (o1 o2 o3 o4 : Obj) : ((((W.alloc o1).alloc o2).alloc o3).alloc o4).drew.heap[W.heap.size]? = some o1 := by
  have := blk_below (blk_below (blk_below (blk_new W o1) (below_alloc (Below.refl _ _) o2)) (below_alloc (Below.refl _ _) o3)) (below_alloc (Below.refl _ _) o4)
  exact this
section
variable {n : Nat} (hn : n ≤ 35184372088832) {Z : Array Value} (hZ : Z.toList = encs (Value.int .u64) (List.replicate n 0)) (base : Nat) (W : World) (hb : base ≤ W.heap.size)
include hn hZ hb
theorem rz1 (o2 o3 o4 : Obj) : Kd.R (Kd.int .u64) 47 ((((W.alloc (.cells Z 47)).alloc o2).alloc o3).alloc o4).drew base (fun k => k = W.heap.size) (.slice (some ⟨W.heap.size, 0, none⟩) n n) (zerosG n) :=
  Kd.R_drew (Kd.R_alloc (Kd.R_alloc (Kd.R_alloc (own_zeros n hn hZ base W hb) _) _) _)
theorem rz2 (o1 o3 o4 : Obj) : Kd.R (Kd.int .u64) 47 ((((W.alloc o1).alloc (.cells Z 47)).alloc o3).alloc o4).drew base (fun k => k = W.heap.size + 1) (.slice (some ⟨W.heap.size + 1, 0, none⟩) n n) (zerosG n) := by
  have := own_zeros n hn hZ base (W.alloc o1) (by rw [size_al]; omega)
  rw [size_al] at this
  exact Kd.R_drew (Kd.R_alloc (Kd.R_alloc this _) _)
theorem rz3 (o1 o2 o4 : Obj) : Kd.R (Kd.int .u64) 47 ((((W.alloc o1).alloc o2).alloc (.cells Z 47)).alloc o4).drew base (fun k => k = W.heap.size + 1 + 1) (.slice (some ⟨W.heap.size + 1 + 1, 0, none⟩) n n) (zerosG n) := by
  have := own_zeros n hn hZ base ((W.alloc o1).alloc o2) (by rw [size_al, size_al]; omega)
  rw [size_al, size_al] at this
  exact Kd.R_drew (Kd.R_alloc this _)
theorem rz4 (o1 o2 o3 : Obj) : Kd.R (Kd.int .u64) 47 ((((W.alloc o1).alloc o2).alloc o3).alloc (.cells Z 47)).drew base (fun k => k = W.heap.size + 1 + 1 + 1) (.slice (some ⟨W.heap.size + 1 + 1 + 1, 0, none⟩) n n) (zerosG n) := by
  have := own_zeros n hn hZ base (((W.alloc o1).alloc o2).alloc o3) (by rw [size_al, size_al, size_al]; omega)
  rw [size_al, size_al, size_al] at this
  exact Kd.R_drew this
end
theorem below4 (W : World) (o1 o2 o3 o4 : Obj) : Below W.heap.size W ((((W.alloc o1).alloc o2).alloc o3).alloc o4).drew := below_drew (below_alloc (below_alloc (below_alloc (below_alloc (Below.refl _ _) _) _) _) _)
/-- What the first region of live.block leaves: two boxes, each of a row of zeros of its own. -/
def Made47 (base n : Nat) (W1 wx : World) (s6 s7 : Value) : Prop := ∃ bA bD gA gD : Nat, s6 = .pointer (some ⟨bA, 0, none⟩) ∧ s7 = .pointer (some ⟨bD, 0, none⟩) ∧ gA ≠ gD ∧ bA ≠ bD ∧ wx.heap[bA]? = some (.cells #[.slice (some ⟨gA, 0, none⟩) n n] 93 (0, 0)) ∧ wx.heap[bD]? = some (.cells #[.slice (some ⟨gD, 0, none⟩) n n] 93 (0, 0)) ∧ Kd.R (Kd.int .u64) 47 wx base (fun k => k = gA) (.slice (some ⟨gA, 0, none⟩) n n) (zerosG n) ∧ Kd.R (Kd.int .u64) 47 wx base (fun k => k = gD) (.slice (some ⟨gD, 0, none⟩) n n) (zerosG n) ∧ Below W1.heap.size W1 wx
section
variable {n : Nat} (hn : n ≤ 35184372088832) {Z : Array Value} (hZ : Z.toList = encs (Value.int .u64) (List.replicate n 0)) (base : Nat) (W1 : World) (hb : base ≤ W1.heap.size)
include hn hZ hb
theorem mk0123 : Made47 base n W1 ((((W1.alloc (.cells Z 47)).alloc (.cells Z 47)).alloc (.cells #[.slice (some ⟨W1.heap.size, 0, none⟩) n n] 93)).alloc (.cells #[.slice (some ⟨W1.heap.size + 1, 0, none⟩) n n] 93)).drew (.pointer (some ⟨W1.heap.size + 1 + 1, 0, none⟩)) (.pointer (some ⟨W1.heap.size + 1 + 1 + 1, 0, none⟩)) :=
  ⟨W1.heap.size + 1 + 1, W1.heap.size + 1 + 1 + 1, W1.heap.size, W1.heap.size + 1, rfl, rfl, by omega, by omega, al3 W1 _ _ _ _, al4 W1 _ _ _ _, rz1 hn hZ base W1 hb _ _ _, rz2 hn hZ base W1 hb _ _ _, below4 W1 _ _ _ _⟩
theorem mk0132 : Made47 base n W1 ((((W1.alloc (.cells Z 47)).alloc (.cells Z 47)).alloc (.cells #[.slice (some ⟨W1.heap.size + 1, 0, none⟩) n n] 93)).alloc (.cells #[.slice (some ⟨W1.heap.size, 0, none⟩) n n] 93)).drew (.pointer (some ⟨W1.heap.size + 1 + 1 + 1, 0, none⟩)) (.pointer (some ⟨W1.heap.size + 1 + 1, 0, none⟩)) :=
  ⟨W1.heap.size + 1 + 1 + 1, W1.heap.size + 1 + 1, W1.heap.size, W1.heap.size + 1, rfl, rfl, by omega, by omega, al4 W1 _ _ _ _, al3 W1 _ _ _ _, rz1 hn hZ base W1 hb _ _ _, rz2 hn hZ base W1 hb _ _ _, below4 W1 _ _ _ _⟩
theorem mk0213 : Made47 base n W1 ((((W1.alloc (.cells Z 47)).alloc (.cells #[.slice (some ⟨W1.heap.size, 0, none⟩) n n] 93)).alloc (.cells Z 47)).alloc (.cells #[.slice (some ⟨W1.heap.size + 1 + 1, 0, none⟩) n n] 93)).drew (.pointer (some ⟨W1.heap.size + 1, 0, none⟩)) (.pointer (some ⟨W1.heap.size + 1 + 1 + 1, 0, none⟩)) :=
  ⟨W1.heap.size + 1, W1.heap.size + 1 + 1 + 1, W1.heap.size, W1.heap.size + 1 + 1, rfl, rfl, by omega, by omega, al2 W1 _ _ _ _, al4 W1 _ _ _ _, rz1 hn hZ base W1 hb _ _ _, rz3 hn hZ base W1 hb _ _ _, below4 W1 _ _ _ _⟩
theorem mk0231 : Made47 base n W1 ((((W1.alloc (.cells Z 47)).alloc (.cells #[.slice (some ⟨W1.heap.size + 1 + 1, 0, none⟩) n n] 93)).alloc (.cells Z 47)).alloc (.cells #[.slice (some ⟨W1.heap.size, 0, none⟩) n n] 93)).drew (.pointer (some ⟨W1.heap.size + 1 + 1 + 1, 0, none⟩)) (.pointer (some ⟨W1.heap.size + 1, 0, none⟩)) :=
  ⟨W1.heap.size + 1 + 1 + 1, W1.heap.size + 1, W1.heap.size, W1.heap.size + 1 + 1, rfl, rfl, by omega, by omega, al4 W1 _ _ _ _, al2 W1 _ _ _ _, rz1 hn hZ base W1 hb _ _ _, rz3 hn hZ base W1 hb _ _ _, below4 W1 _ _ _ _⟩
theorem mk0312 : Made47 base n W1 ((((W1.alloc (.cells Z 47)).alloc (.cells #[.slice (some ⟨W1.heap.size, 0, none⟩) n n] 93)).alloc (.cells #[.slice (some ⟨W1.heap.size + 1 + 1 + 1, 0, none⟩) n n] 93)).alloc (.cells Z 47)).drew (.pointer (some ⟨W1.heap.size + 1, 0, none⟩)) (.pointer (some ⟨W1.heap.size + 1 + 1, 0, none⟩)) :=
  ⟨W1.heap.size + 1, W1.heap.size + 1 + 1, W1.heap.size, W1.heap.size + 1 + 1 + 1, rfl, rfl, by omega, by omega, al2 W1 _ _ _ _, al3 W1 _ _ _ _, rz1 hn hZ base W1 hb _ _ _, rz4 hn hZ base W1 hb _ _ _, below4 W1 _ _ _ _⟩
theorem mk0321 : Made47 base n W1 ((((W1.alloc (.cells Z 47)).alloc (.cells #[.slice (some ⟨W1.heap.size + 1 + 1 + 1, 0, none⟩) n n] 93)).alloc (.cells #[.slice (some ⟨W1.heap.size, 0, none⟩) n n] 93)).alloc (.cells Z 47)).drew (.pointer (some ⟨W1.heap.size + 1 + 1, 0, none⟩)) (.pointer (some ⟨W1.heap.size + 1, 0, none⟩)) :=
  ⟨W1.heap.size + 1 + 1, W1.heap.size + 1, W1.heap.size, W1.heap.size + 1 + 1 + 1, rfl, rfl, by omega, by omega, al3 W1 _ _ _ _, al2 W1 _ _ _ _, rz1 hn hZ base W1 hb _ _ _, rz4 hn hZ base W1 hb _ _ _, below4 W1 _ _ _ _⟩
theorem mk1023 : Made47 base n W1 ((((W1.alloc (.cells Z 47)).alloc (.cells Z 47)).alloc (.cells #[.slice (some ⟨W1.heap.size + 1, 0, none⟩) n n] 93)).alloc (.cells #[.slice (some ⟨W1.heap.size, 0, none⟩) n n] 93)).drew (.pointer (some ⟨W1.heap.size + 1 + 1, 0, none⟩)) (.pointer (some ⟨W1.heap.size + 1 + 1 + 1, 0, none⟩)) :=
  ⟨W1.heap.size + 1 + 1, W1.heap.size + 1 + 1 + 1, W1.heap.size + 1, W1.heap.size, rfl, rfl, by omega, by omega, al3 W1 _ _ _ _, al4 W1 _ _ _ _, rz2 hn hZ base W1 hb _ _ _, rz1 hn hZ base W1 hb _ _ _, below4 W1 _ _ _ _⟩
theorem mk1032 : Made47 base n W1 ((((W1.alloc (.cells Z 47)).alloc (.cells Z 47)).alloc (.cells #[.slice (some ⟨W1.heap.size, 0, none⟩) n n] 93)).alloc (.cells #[.slice (some ⟨W1.heap.size + 1, 0, none⟩) n n] 93)).drew (.pointer (some ⟨W1.heap.size + 1 + 1 + 1, 0, none⟩)) (.pointer (some ⟨W1.heap.size + 1 + 1, 0, none⟩)) :=
  ⟨W1.heap.size + 1 + 1 + 1, W1.heap.size + 1 + 1, W1.heap.size + 1, W1.heap.size, rfl, rfl, by omega, by omega, al4 W1 _ _ _ _, al3 W1 _ _ _ _, rz2 hn hZ base W1 hb _ _ _, rz1 hn hZ base W1 hb _ _ _, below4 W1 _ _ _ _⟩
theorem mk1203 : Made47 base n W1 ((((W1.alloc (.cells #[.slice (some ⟨W1.heap.size + 1, 0, none⟩) n n] 93)).alloc (.cells Z 47)).alloc (.cells Z 47)).alloc (.cells #[.slice (some ⟨W1.heap.size + 1 + 1, 0, none⟩) n n] 93)).drew (.pointer (some ⟨W1.heap.size, 0, none⟩)) (.pointer (some ⟨W1.heap.size + 1 + 1 + 1, 0, none⟩)) :=
  ⟨W1.heap.size, W1.heap.size + 1 + 1 + 1, W1.heap.size + 1, W1.heap.size + 1 + 1, rfl, rfl, by omega, by omega, al1 W1 _ _ _ _, al4 W1 _ _ _ _, rz2 hn hZ base W1 hb _ _ _, rz3 hn hZ base W1 hb _ _ _, below4 W1 _ _ _ _⟩
theorem mk1230 : Made47 base n W1 ((((W1.alloc (.cells #[.slice (some ⟨W1.heap.size + 1 + 1, 0, none⟩) n n] 93)).alloc (.cells Z 47)).alloc (.cells Z 47)).alloc (.cells #[.slice (some ⟨W1.heap.size + 1, 0, none⟩) n n] 93)).drew (.pointer (some ⟨W1.heap.size + 1 + 1 + 1, 0, none⟩)) (.pointer (some ⟨W1.heap.size, 0, none⟩)) :=
  ⟨W1.heap.size + 1 + 1 + 1, W1.heap.size, W1.heap.size + 1, W1.heap.size + 1 + 1, rfl, rfl, by omega, by omega, al4 W1 _ _ _ _, al1 W1 _ _ _ _, rz2 hn hZ base W1 hb _ _ _, rz3 hn hZ base W1 hb _ _ _, below4 W1 _ _ _ _⟩
theorem mk1302 : Made47 base n W1 ((((W1.alloc (.cells #[.slice (some ⟨W1.heap.size + 1, 0, none⟩) n n] 93)).alloc (.cells Z 47)).alloc (.cells #[.slice (some ⟨W1.heap.size + 1 + 1 + 1, 0, none⟩) n n] 93)).alloc (.cells Z 47)).drew (.pointer (some ⟨W1.heap.size, 0, none⟩)) (.pointer (some ⟨W1.heap.size + 1 + 1, 0, none⟩)) :=
  ⟨W1.heap.size, W1.heap.size + 1 + 1, W1.heap.size + 1, W1.heap.size + 1 + 1 + 1, rfl, rfl, by omega, by omega, al1 W1 _ _ _ _, al3 W1 _ _ _ _, rz2 hn hZ base W1 hb _ _ _, rz4 hn hZ base W1 hb _ _ _, below4 W1 _ _ _ _⟩
theorem mk1320 : Made47 base n W1 ((((W1.alloc (.cells #[.slice (some ⟨W1.heap.size + 1 + 1 + 1, 0, none⟩) n n] 93)).alloc (.cells Z 47)).alloc (.cells #[.slice (some ⟨W1.heap.size + 1, 0, none⟩) n n] 93)).alloc (.cells Z 47)).drew (.pointer (some ⟨W1.heap.size + 1 + 1, 0, none⟩)) (.pointer (some ⟨W1.heap.size, 0, none⟩)) :=
  ⟨W1.heap.size + 1 + 1, W1.heap.size, W1.heap.size + 1, W1.heap.size + 1 + 1 + 1, rfl, rfl, by omega, by omega, al3 W1 _ _ _ _, al1 W1 _ _ _ _, rz2 hn hZ base W1 hb _ _ _, rz4 hn hZ base W1 hb _ _ _, below4 W1 _ _ _ _⟩
theorem mk2013 : Made47 base n W1 ((((W1.alloc (.cells Z 47)).alloc (.cells #[.slice (some ⟨W1.heap.size + 1 + 1, 0, none⟩) n n] 93)).alloc (.cells Z 47)).alloc (.cells #[.slice (some ⟨W1.heap.size, 0, none⟩) n n] 93)).drew (.pointer (some ⟨W1.heap.size + 1, 0, none⟩)) (.pointer (some ⟨W1.heap.size + 1 + 1 + 1, 0, none⟩)) :=
  ⟨W1.heap.size + 1, W1.heap.size + 1 + 1 + 1, W1.heap.size + 1 + 1, W1.heap.size, rfl, rfl, by omega, by omega, al2 W1 _ _ _ _, al4 W1 _ _ _ _, rz3 hn hZ base W1 hb _ _ _, rz1 hn hZ base W1 hb _ _ _, below4 W1 _ _ _ _⟩
theorem mk2031 : Made47 base n W1 ((((W1.alloc (.cells Z 47)).alloc (.cells #[.slice (some ⟨W1.heap.size, 0, none⟩) n n] 93)).alloc (.cells Z 47)).alloc (.cells #[.slice (some ⟨W1.heap.size + 1 + 1, 0, none⟩) n n] 93)).drew (.pointer (some ⟨W1.heap.size + 1 + 1 + 1, 0, none⟩)) (.pointer (some ⟨W1.heap.size + 1, 0, none⟩)) :=
  ⟨W1.heap.size + 1 + 1 + 1, W1.heap.size + 1, W1.heap.size + 1 + 1, W1.heap.size, rfl, rfl, by omega, by omega, al4 W1 _ _ _ _, al2 W1 _ _ _ _, rz3 hn hZ base W1 hb _ _ _, rz1 hn hZ base W1 hb _ _ _, below4 W1 _ _ _ _⟩
theorem mk2103 : Made47 base n W1 ((((W1.alloc (.cells #[.slice (some ⟨W1.heap.size + 1 + 1, 0, none⟩) n n] 93)).alloc (.cells Z 47)).alloc (.cells Z 47)).alloc (.cells #[.slice (some ⟨W1.heap.size + 1, 0, none⟩) n n] 93)).drew (.pointer (some ⟨W1.heap.size, 0, none⟩)) (.pointer (some ⟨W1.heap.size + 1 + 1 + 1, 0, none⟩)) :=
  ⟨W1.heap.size, W1.heap.size + 1 + 1 + 1, W1.heap.size + 1 + 1, W1.heap.size + 1, rfl, rfl, by omega, by omega, al1 W1 _ _ _ _, al4 W1 _ _ _ _, rz3 hn hZ base W1 hb _ _ _, rz2 hn hZ base W1 hb _ _ _, below4 W1 _ _ _ _⟩
theorem mk2130 : Made47 base n W1 ((((W1.alloc (.cells #[.slice (some ⟨W1.heap.size + 1, 0, none⟩) n n] 93)).alloc (.cells Z 47)).alloc (.cells Z 47)).alloc (.cells #[.slice (some ⟨W1.heap.size + 1 + 1, 0, none⟩) n n] 93)).drew (.pointer (some ⟨W1.heap.size + 1 + 1 + 1, 0, none⟩)) (.pointer (some ⟨W1.heap.size, 0, none⟩)) :=
  ⟨W1.heap.size + 1 + 1 + 1, W1.heap.size, W1.heap.size + 1 + 1, W1.heap.size + 1, rfl, rfl, by omega, by omega, al4 W1 _ _ _ _, al1 W1 _ _ _ _, rz3 hn hZ base W1 hb _ _ _, rz2 hn hZ base W1 hb _ _ _, below4 W1 _ _ _ _⟩
theorem mk2301 : Made47 base n W1 ((((W1.alloc (.cells #[.slice (some ⟨W1.heap.size + 1 + 1, 0, none⟩) n n] 93)).alloc (.cells #[.slice (some ⟨W1.heap.size + 1 + 1 + 1, 0, none⟩) n n] 93)).alloc (.cells Z 47)).alloc (.cells Z 47)).drew (.pointer (some ⟨W1.heap.size, 0, none⟩)) (.pointer (some ⟨W1.heap.size + 1, 0, none⟩)) :=
  ⟨W1.heap.size, W1.heap.size + 1, W1.heap.size + 1 + 1, W1.heap.size + 1 + 1 + 1, rfl, rfl, by omega, by omega, al1 W1 _ _ _ _, al2 W1 _ _ _ _, rz3 hn hZ base W1 hb _ _ _, rz4 hn hZ base W1 hb _ _ _, below4 W1 _ _ _ _⟩
theorem mk2310 : Made47 base n W1 ((((W1.alloc (.cells #[.slice (some ⟨W1.heap.size + 1 + 1 + 1, 0, none⟩) n n] 93)).alloc (.cells #[.slice (some ⟨W1.heap.size + 1 + 1, 0, none⟩) n n] 93)).alloc (.cells Z 47)).alloc (.cells Z 47)).drew (.pointer (some ⟨W1.heap.size + 1, 0, none⟩)) (.pointer (some ⟨W1.heap.size, 0, none⟩)) :=
  ⟨W1.heap.size + 1, W1.heap.size, W1.heap.size + 1 + 1, W1.heap.size + 1 + 1 + 1, rfl, rfl, by omega, by omega, al2 W1 _ _ _ _, al1 W1 _ _ _ _, rz3 hn hZ base W1 hb _ _ _, rz4 hn hZ base W1 hb _ _ _, below4 W1 _ _ _ _⟩
theorem mk3012 : Made47 base n W1 ((((W1.alloc (.cells Z 47)).alloc (.cells #[.slice (some ⟨W1.heap.size + 1 + 1 + 1, 0, none⟩) n n] 93)).alloc (.cells #[.slice (some ⟨W1.heap.size, 0, none⟩) n n] 93)).alloc (.cells Z 47)).drew (.pointer (some ⟨W1.heap.size + 1, 0, none⟩)) (.pointer (some ⟨W1.heap.size + 1 + 1, 0, none⟩)) :=
  ⟨W1.heap.size + 1, W1.heap.size + 1 + 1, W1.heap.size + 1 + 1 + 1, W1.heap.size, rfl, rfl, by omega, by omega, al2 W1 _ _ _ _, al3 W1 _ _ _ _, rz4 hn hZ base W1 hb _ _ _, rz1 hn hZ base W1 hb _ _ _, below4 W1 _ _ _ _⟩
theorem mk3021 : Made47 base n W1 ((((W1.alloc (.cells Z 47)).alloc (.cells #[.slice (some ⟨W1.heap.size, 0, none⟩) n n] 93)).alloc (.cells #[.slice (some ⟨W1.heap.size + 1 + 1 + 1, 0, none⟩) n n] 93)).alloc (.cells Z 47)).drew (.pointer (some ⟨W1.heap.size + 1 + 1, 0, none⟩)) (.pointer (some ⟨W1.heap.size + 1, 0, none⟩)) :=
  ⟨W1.heap.size + 1 + 1, W1.heap.size + 1, W1.heap.size + 1 + 1 + 1, W1.heap.size, rfl, rfl, by omega, by omega, al3 W1 _ _ _ _, al2 W1 _ _ _ _, rz4 hn hZ base W1 hb _ _ _, rz1 hn hZ base W1 hb _ _ _, below4 W1 _ _ _ _⟩
theorem mk3102 : Made47 base n W1 ((((W1.alloc (.cells #[.slice (some ⟨W1.heap.size + 1 + 1 + 1, 0, none⟩) n n] 93)).alloc (.cells Z 47)).alloc (.cells #[.slice (some ⟨W1.heap.size + 1, 0, none⟩) n n] 93)).alloc (.cells Z 47)).drew (.pointer (some ⟨W1.heap.size, 0, none⟩)) (.pointer (some ⟨W1.heap.size + 1 + 1, 0, none⟩)) :=
  ⟨W1.heap.size, W1.heap.size + 1 + 1, W1.heap.size + 1 + 1 + 1, W1.heap.size + 1, rfl, rfl, by omega, by omega, al1 W1 _ _ _ _, al3 W1 _ _ _ _, rz4 hn hZ base W1 hb _ _ _, rz2 hn hZ base W1 hb _ _ _, below4 W1 _ _ _ _⟩
theorem mk3120 : Made47 base n W1 ((((W1.alloc (.cells #[.slice (some ⟨W1.heap.size + 1, 0, none⟩) n n] 93)).alloc (.cells Z 47)).alloc (.cells #[.slice (some ⟨W1.heap.size + 1 + 1 + 1, 0, none⟩) n n] 93)).alloc (.cells Z 47)).drew (.pointer (some ⟨W1.heap.size + 1 + 1, 0, none⟩)) (.pointer (some ⟨W1.heap.size, 0, none⟩)) :=
  ⟨W1.heap.size + 1 + 1, W1.heap.size, W1.heap.size + 1 + 1 + 1, W1.heap.size + 1, rfl, rfl, by omega, by omega, al3 W1 _ _ _ _, al1 W1 _ _ _ _, rz4 hn hZ base W1 hb _ _ _, rz2 hn hZ base W1 hb _ _ _, below4 W1 _ _ _ _⟩
theorem mk3201 : Made47 base n W1 ((((W1.alloc (.cells #[.slice (some ⟨W1.heap.size + 1 + 1 + 1, 0, none⟩) n n] 93)).alloc (.cells #[.slice (some ⟨W1.heap.size + 1 + 1, 0, none⟩) n n] 93)).alloc (.cells Z 47)).alloc (.cells Z 47)).drew (.pointer (some ⟨W1.heap.size, 0, none⟩)) (.pointer (some ⟨W1.heap.size + 1, 0, none⟩)) :=
  ⟨W1.heap.size, W1.heap.size + 1, W1.heap.size + 1 + 1 + 1, W1.heap.size + 1 + 1, rfl, rfl, by omega, by omega, al1 W1 _ _ _ _, al2 W1 _ _ _ _, rz4 hn hZ base W1 hb _ _ _, rz3 hn hZ base W1 hb _ _ _, below4 W1 _ _ _ _⟩
theorem mk3210 : Made47 base n W1 ((((W1.alloc (.cells #[.slice (some ⟨W1.heap.size + 1 + 1, 0, none⟩) n n] 93)).alloc (.cells #[.slice (some ⟨W1.heap.size + 1 + 1 + 1, 0, none⟩) n n] 93)).alloc (.cells Z 47)).alloc (.cells Z 47)).drew (.pointer (some ⟨W1.heap.size + 1, 0, none⟩)) (.pointer (some ⟨W1.heap.size, 0, none⟩)) :=
  ⟨W1.heap.size + 1, W1.heap.size, W1.heap.size + 1 + 1 + 1, W1.heap.size + 1 + 1, rfl, rfl, by omega, by omega, al2 W1 _ _ _ _, al1 W1 _ _ _ _, rz4 hn hZ base W1 hb _ _ _, rz3 hn hZ base W1 hb _ _ _, below4 W1 _ _ _ _⟩
end
theorem sets_some (x : S49) : live_sets.f x.f0 x.f1 x.f2 x.f3 x.f4 x.f5 = some (setsB x) := by
  unfold live_sets.f setsB
  by_cases h1 : x.f0 = 7
  · simp [h1]
  · by_cases h2 : x.f0 = 8
    · simp [h2]
    · rw [if_neg h1, if_neg h2, beq_eq_false_iff_ne.2 h1, beq_eq_false_iff_ne.2 h2]
      rfl
end Go.Proofs.YtanhnfhpajaolaaDoor.Fo
