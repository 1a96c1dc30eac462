/- Plain facts for the law MovesNumbers: a row and a circle of five thousand moves, refusals, all lists of three moves. No walk. -/
import Derived.Test.YtchmddbenohmnaaRf
import Derived.Test.YtchmddbenohmnaaMvE
namespace Go.Proofs.Ytchmddbenohmnaa.Mv
open Go Go.RowKit Go.Proofs.YtchmddbenohmnaaW.PrintWords Go.Proofs.Ytchmddbenohmnaa.Mi Go.Proofs.Ytchmddbenohmnaa.F
set_option linter.unusedVariables false
set_option linter.unusedSimpArgs false

/-! ### a list of moves told place by place -/
def mkf (f g : Nat → Int) (j : Nat) : List S43 := (List.range j).map fun i => ⟨f i, g i⟩
theorem mkf_succ (f g : Nat → Int) (j : Nat) : mkf f g (j + 1) = mkf f g j ++ [⟨f j, g j⟩] := by unfold mkf; rw [List.range_succ, List.map_append]; rfl
theorem mkf_len (f g : Nat → Int) (j : Nat) : (mkf f g j).length = j := by simp [mkf]
theorem mkf_mem {f g : Nat → Int} {j : Nat} {m : S43} : m ∈ mkf f g j ↔ ∃ i, i < j ∧ m = ⟨f i, g i⟩ := by
  unfold mkf
  rw [List.mem_map]
  constructor
  · rintro ⟨i, hi, rfl⟩; exact ⟨i, List.mem_range.1 hi, rfl⟩
  · rintro ⟨i, hi, rfl⟩; exact ⟨i, List.mem_range.2 hi, rfl⟩
theorem mkf_at {f g : Nat → Int} {j i : Nat} (h : i < j) : rd_T43 (mkf f g j) (i : Int) = ⟨f i, g i⟩ := by
  rw [rd_eq (by rw [mkf_len]; exact h)]; simp [mkf]
theorem mkf_nod {f g : Nat → Int} (hf : ∀ i j, f i = f j → i = j) (j : Nat) : nod (mkf f g j) := by
  induction j with
  | zero => simp [mkf, nod]
  | succ j ih =>
    unfold nod at ih ⊢
    rw [mkf_succ, List.map_append, List.nodup_append]
    refine ⟨ih, by simp, ?_⟩
    intro a ha b hb
    obtain ⟨m, hm, rfl⟩ := List.mem_map.1 ha
    obtain ⟨i, hi, rfl⟩ := mkf_mem.1 hm
    simp at hb
    subst hb
    intro e
    have := hf _ _ e
    omega
theorem mkf_ok {f g : Nat → Int} {j : Nat} (hf : ∀ i, i < j → 0 ≤ f i ∧ f i ≤ 1000000) (hg : ∀ i, i < j → 0 ≤ g i ∧ g i ≤ 1000000) : okM (mkf f g j) = true := by
  unfold okM
  rw [List.all_eq_true]
  intro m hm
  obtain ⟨i, hi, rfl⟩ := mkf_mem.1 hm
  have h1 := hf i hi
  have h2 := hg i hi
  rw [Bool.and_eq_true]
  exact ⟨wf_small (by show _ ≤ f i; omega) (by show f i ≤ _; omega), wf_small (by show _ ≤ g i; omega) (by show g i ≤ _; omega)⟩

/-! ### the row -/
def rowJ (j : Nat) : List S43 := mkf (fun i => (i : Int) + 1) (fun i => (i : Int)) j
theorem rowJ_may : May (rowJ 5000) (-1) := by
  refine ⟨mkf_nod (fun i j e => by omega) _, fun m hm => ?_, fun m hm => ?_, fun m hm => ?_, by omega⟩ <;>
    (obtain ⟨i, hi, rfl⟩ := mkf_mem.1 hm)
  · exact ⟨by show (0 : Int) ≤ (i : Int) + 1; omega, by show (0 : Int) ≤ (i : Int); omega⟩
  · show (i : Int) + 1 ≠ -1; omega
  · show (i : Int) ≠ -1; omega
theorem rowJ_ok : okM (rowJ 5000) = true := mkf_ok (fun i hi => ⟨by omega, by omega⟩) (fun i hi => ⟨by omega, by omega⟩)
theorem rowJ_norings : ¬ Rings (rowJ 5000) := by
  rintro ⟨fr, hsub, hR, p, hp⟩
  have key : ∀ n : Nat, ∀ p, mhas fr p = true → (n : Int) + 1 ≤ p := by
    intro n
    induction n with
    | zero =>
      intro p hp
      obtain ⟨m, hm, e1, _⟩ := hsub _ _ (some_of_mhas hp)
      obtain ⟨i, hi, rfl⟩ := mkf_mem.1 hm
      have : (i : Int) + 1 = p := e1
      omega
    | succ n ih =>
      intro p hp
      have e := some_of_mhas hp
      obtain ⟨m, hm, e1, e2, _⟩ := hsub _ _ e
      obtain ⟨i, hi, rfl⟩ := mkf_mem.1 hm
      have h1 : (i : Int) + 1 = p := e1
      have h2 : (i : Int) = mget fr p := e2
      have := ih _ (hR.clo _ _ e)
      omega
  have h1 := key 6000 p hp
  obtain ⟨m, hm, e1, _⟩ := hsub _ _ (some_of_mhas hp)
  obtain ⟨i, hi, rfl⟩ := mkf_mem.1 hm
  have : (i : Int) + 1 = p := e1
  omega
theorem rowJ_busy (j : Nat) : nbusy (rowJ j) = j := by
  induction j with
  | zero => rfl
  | succ j ih =>
    unfold nbusy rowJ at ih ⊢
    rw [mkf_succ, List.countP_append, ih, List.countP_singleton]
    have : busy (⟨(j : Int) + 1, (j : Int)⟩ : S43) = true := by unfold busy; simp; omega
    rw [if_pos this]
theorem rowJ_row : ∃ K, ∀ k, K ≤ k → ∃ a, rowG k (rowJ 5000) (-1) = some (a, 0) ∧ a.length = 5000 ∧ Inv (rowJ 5000) (-1) mnil a := by
  obtain ⟨K, hK⟩ := row_all rowJ_may (by rw [rowJ, mkf_len]; omega) rowJ_ok (wf_small (x := -1) (by omega) (by omega))
  refine ⟨K, fun k hk => ?_⟩
  rcases hK k hk with ⟨_, _, h⟩ | ⟨a, c, h1, h2, h3, h4, h5⟩
  · exact absurd h rowJ_norings
  · refine ⟨a, h1, ?_, h2⟩
    rw [h3, rowJ_busy, h5 (by omega)]
def tg (j : Nat) : List Int := (List.range 5001).map fun (p : Nat) => if 1 ≤ p ∧ p ≤ j then (p : Int) - 1 else (p : Int)
theorem tg_len (j : Nat) : (tg j).length = 5001 := by simp [tg]
theorem tg_zero : tg 0 = nums 5001 := by
  unfold tg nums
  refine List.map_congr_left fun p hp => ?_
  rw [if_neg (by omega)]
theorem tg_get {j p : Nat} (h : p < (tg j).length) : (tg j)[p] = if 1 ≤ p ∧ p ≤ j then (p : Int) - 1 else (p : Int) := by simp [tg]
theorem tg_succ {j : Nat} (h : j < 5000) : (tg j).set (j + 1) (j : Int) = tg (j + 1) := by
  apply List.ext_getElem
  · simp [tg_len]
  · intro p h1 h2
    rw [List.getElem_set, tg_get, tg_get]
    by_cases e : j + 1 = p
    · subst e; rw [if_pos rfl, if_pos (by omega)]; omega
    · rw [if_neg e]
      by_cases e2 : 1 ≤ p ∧ p ≤ j
      · rw [if_pos e2, if_pos (by omega)]
      · rw [if_neg e2, if_neg (by omega)]
theorem didn_go : ∀ (d k i : Nat), i ≤ 5000 → 5000 - i = d → d < k → smithylaw22_did.l0 k (rowJ 5000) (tg i) (i : Int) = some (tg 5000) := by
  intro d
  induction d with
  | zero =>
    intro k i h1 h2 h3
    obtain ⟨k, rfl⟩ : ∃ m, k = m + 1 := ⟨k - 1, by omega⟩
    obtain rfl : i = 5000 := by omega
    rw [smithylaw22_did.l0, if_neg (by rw [rowJ, mkf_len]; omega)]
  | succ d ih =>
    intro k i h1 h2 h3
    obtain ⟨k, rfl⟩ : ∃ m, k = m + 1 := ⟨k - 1, by omega⟩
    rw [smithylaw22_did.l0, if_pos (by rw [rowJ, mkf_len]; omega), if_pos (by omega), rowJ, mkf_at (by omega)]
    simp only
    rw [if_pos (by omega), if_pos (by rw [tg_len]; omega), wrap64_small (by omega) (by omega), show ((i : Int) + 1).toNat = i + 1 by omega, tg_succ (by omega)]
    exact ih k (i + 1) (by omega) (by omega) (by omega)
theorem didn_some {k : Nat} (hk : 5001 < k) : smithylaw22_did.f k (rowJ 5000) 5001 = some (tg 5000) := by
  unfold smithylaw22_did.f
  have := numbers_some (n := 5001) (by omega) hk
  rw [show ((5001 : Nat) : Int) = 5001 from rfl] at this
  rw [this, Option.bind_some, ← tg_zero]
  exact didn_go 5000 k 0 (Nat.zero_le _) rfl (by omega)
theorem didn_row {a : List S43} (hI : Inv (rowJ 5000) (-1) mnil a) : didL a (nums 5001) = tg 5000 := by
  have hnm : ∀ p, nm (rowJ 5000) (-1) p → 0 ≤ p ∧ p < ((5001 : Nat) : Int) := by
    rintro p (⟨h1, rfl⟩ | ⟨m, hm, h | h⟩)
    · omega
    · obtain ⟨i, hi, rfl⟩ := mkf_mem.1 hm
      have : (i : Int) + 1 = p := h
      omega
    · obtain ⟨i, hi, rfl⟩ := mkf_mem.1 hm
      have : (i : Int) = p := h
      omega
  refine list_ext_rd (by rw [didL_len, nums_len, tg_len]) fun p hp => ?_
  rw [didL_len, nums_len] at hp
  rw [did_exec (n := 5001) (fun m hm => ⟨hnm _ (hI.names m hm).1, hnm _ (hI.names m hm).2⟩) (nums_len 5001) _ (by omega) (by omega)]
  have ht : rd (tg 5000) (p : Int) = (tg 5000)[p]'(by rw [tg_len]; exact hp) := rd_natI _
  rw [ht, tg_get]
  by_cases e : 1 ≤ p ∧ p ≤ 5000
  · obtain ⟨i, rfl⟩ : ∃ i, p = i + 1 := ⟨p - 1, by omega⟩
    have hm : (⟨(i : Int) + 1, (i : Int)⟩ : S43) ∈ rowJ 5000 := mkf_mem.2 ⟨i, by omega, rfl⟩
    have h1 := hI.done (fun q => rd (nums 5001) q) _ hm rfl
    simp only at h1
    rw [if_pos e, show ((i + 1 : Nat) : Int) = (i : Int) + 1 by omega]
    have h2 : exec a (rd (nums 5001)) ((i : Int) + 1) = rd (nums 5001) (i : Int) := h1
    rw [h2, rd_nums (by omega) (by omega)]
    omega
  · rw [if_neg e]
    have h1 := hI.rest (fun q => rd (nums 5001) q) (p : Int) (fun m hm => by
      obtain ⟨i, hi, rfl⟩ := mkf_mem.1 hm
      show (i : Int) + 1 ≠ (p : Int)
      omega) (by omega)
    have h2 : exec a (rd (nums 5001)) (p : Int) = rd (nums 5001) (p : Int) := h1
    rw [h2, rd_nums (by omega) (by omega)]

/-! ### the circle -/
def circJ (j : Nat) : List S43 := mkf (fun i => (i : Int)) (fun i => Int.tmod ((i : Int) + 1) 5000) j
theorem tm_lt {i : Nat} (h : i < 4999) : Int.tmod ((i : Int) + 1) 5000 = (i : Int) + 1 := by
  rw [Int.tmod_eq_emod_of_nonneg (by omega)]; omega
theorem tm_last : Int.tmod (((4999 : Nat) : Int) + 1) 5000 = 0 := by decide
theorem tm_range {i : Nat} (h : i < 5000) : 0 ≤ Int.tmod ((i : Int) + 1) 5000 ∧ Int.tmod ((i : Int) + 1) 5000 < 5000 := by
  rw [Int.tmod_eq_emod_of_nonneg (by omega)]; omega
theorem circJ_nod : nod (circJ 5000) := mkf_nod (fun i j e => by omega) _
theorem circJ_may : May (circJ 5000) 4611686018427387904 := by
  refine ⟨circJ_nod, fun m hm => ?_, fun m hm => ?_, fun m hm => ?_, by omega⟩ <;>
    (obtain ⟨i, hi, rfl⟩ := mkf_mem.1 hm; have := tm_range hi)
  · exact ⟨by show (0 : Int) ≤ (i : Int); omega, this.1⟩
  · show (i : Int) ≠ _; omega
  · show Int.tmod ((i : Int) + 1) 5000 ≠ _; omega
theorem circJ_ok : okM (circJ 5000) = true := mkf_ok (fun i hi => ⟨by omega, by omega⟩) (fun i hi => by have := tm_range hi; omega)
theorem frm_circ {i : Nat} (h : i < 5000) : frm (circJ 5000) (i : Int) = some (Int.tmod ((i : Int) + 1) 5000) :=
  frm_mem circJ_nod (m := ⟨(i : Int), Int.tmod ((i : Int) + 1) 5000⟩) (mkf_mem.2 ⟨i, h, rfl⟩)
theorem loopC_le (l : List S43) (p0 : Int) : ∀ (n : Nat) (at_ : Int) (ok : Bool), loopC l p0 n at_ ok false = false := by
  intro n
  induction n with
  | zero => intro at_ ok; simp [loopC]
  | succ n ih =>
    intro at_ ok
    rw [loopC]
    cases ok with
    | false => simp
    | true =>
      rw [if_pos rfl, Bool.false_and]
      by_cases e : at_ = p0
      · rw [if_pos e]
      · rw [if_neg e]; exact ih _ _
theorem loopC_zero {i : Nat} (h : 0 < i) : ∀ n, loopC (circJ 5000) (i : Int) n 0 true true = false := by
  intro n
  cases n with
  | zero => rw [loopC]; simp; omega
  | succ n =>
    rw [loopC, if_pos rfl, if_neg (by omega), Bool.true_and, show decide ((0 : Int) > (i : Int)) = false by simp]
    exact loopC_le _ _ _ _ _
theorem loopC_up {i : Nat} (h : 0 < i) : ∀ (d j n : Nat), j + d = 4999 → i < j → loopC (circJ 5000) (i : Int) n (j : Int) true true = false := by
  intro d
  induction d with
  | zero =>
    intro j n hj hij
    cases n with
    | zero => rw [loopC]; simp; omega
    | succ n =>
      rw [loopC, if_pos rfl, if_neg (by omega), frmV_some (frm_circ (i := j) (by omega)), Bool.true_and, show decide ((j : Int) > (i : Int)) = true by simp; omega]
      obtain rfl : j = 4999 := by omega
      rw [tm_last]
      exact loopC_zero h n
  | succ d ih =>
    intro j n hj hij
    cases n with
    | zero => rw [loopC]; simp; omega
    | succ n =>
      rw [loopC, if_pos rfl, if_neg (by omega), frmV_some (frm_circ (i := j) (by omega)), Bool.true_and, show decide ((j : Int) > (i : Int)) = true by simp; omega, tm_lt (by omega)]
      have := ih (j + 1) n (by omega) (by omega)
      rw [show ((j + 1 : Nat) : Int) = (j : Int) + 1 by omega] at this
      exact this
theorem circJ_counted {i : Nat} (h : 0 < i) (h5 : i < 5000) : counted (circJ 5000) ⟨(i : Int), Int.tmod ((i : Int) + 1) 5000⟩ = false := by
  unfold counted
  show loopC (circJ 5000) (i : Int) ((circJ 5000).length + 1) (Int.tmod ((i : Int) + 1) 5000) (Int.tmod ((i : Int) + 1) 5000 != (i : Int)) true = false
  by_cases e : i = 4999
  · subst e
    rw [tm_last, show (((0 : Int) != ((4999 : Nat) : Int)) = true) from rfl]
    exact loopC_zero (by omega) _
  · rw [tm_lt (by omega), show (((i : Int) + 1 != (i : Int)) = true) by simp; omega]
    have := loopC_up h (4999 - (i + 1)) (i + 1) ((circJ 5000).length + 1) (by omega) (by omega)
    rw [show ((i + 1 : Nat) : Int) = (i : Int) + 1 by omega] at this
    exact this
theorem circJ_zero (g : Nat → Int) : ∀ j, (mkf (fun i => (i : Int)) g j).countP (fun m => decide (m.f0 = 0)) ≤ 1 ∧ (j = 0 → (mkf (fun i => (i : Int)) g j).countP (fun m => decide (m.f0 = 0)) = 0) := by
  intro j
  induction j with
  | zero => exact ⟨Nat.zero_le _, fun _ => rfl⟩
  | succ j ih =>
    refine ⟨?_, fun h => absurd h (by omega)⟩
    rw [mkf_succ, List.countP_append, List.countP_singleton]
    by_cases e : j = 0
    · rw [ih.2 e]; split <;> omega
    · have : ¬ (decide ((j : Int) = 0) = true) := by simp; omega
      rw [if_neg this]; exact ih.1
theorem circJ_circ : circ (circJ 5000) ≤ 1 := by
  have h1 : ∀ m ∈ circJ 5000, counted (circJ 5000) m = true → decide (m.f0 = 0) = true := by
    intro m hm hc
    obtain ⟨i, hi, rfl⟩ := mkf_mem.1 hm
    cases i with
    | zero => simp
    | succ i => rw [circJ_counted (by omega) hi] at hc; cases hc
  unfold circ
  exact Nat.le_trans (countP_le' h1) (circJ_zero _ 5000).1
theorem circJ_row : ∃ K, ∀ k, K ≤ k → ∃ b, rowG k (circJ 5000) 4611686018427387904 = some (b, 0) ∧ b.length ≤ 5001 := by
  obtain ⟨K, hK⟩ := row_full circJ_may (by rw [show (circJ 5000).length = 5000 from mkf_len _ _ _]; omega) circJ_ok (wf_small (by omega) (by omega))
  refine ⟨K, fun k hk => ?_⟩
  rcases hK k hk with ⟨h, _⟩ | ⟨b, h1, h2, h3, h4⟩
  · omega
  · refine ⟨b, h1, ?_⟩
    have hl : (circJ 5000).length = 5000 := mkf_len _ _ _
    have hb : nbusy (circJ 5000) ≤ 5000 := Nat.le_trans List.countP_le_length (Nat.le_of_eq hl)
    exact Nat.le_trans h3 (Nat.add_le_add hb circJ_circ)

/-! ### what is refused, and one idle move -/
theorem refused_row {l : List S43} {sp : Int} (hl : l.length ≤ 1000) (hok : okM l = true) (hws : (Lit.int .i64 sp).wf = true) (h : mayB l sp = false) (k : Nat) : rowG k l sp = some ([], 2) := by
  unfold rowG
  rw [if_pos ⟨by omega, hok, hws⟩]
  unfold rowF
  rw [if_neg (by rw [h]; simp)]
theorem idle_row : ∃ K, ∀ k, K ≤ k → rowG k [(⟨3, 3⟩ : S43)] (-1) = some ([], 0) := by
  obtain ⟨K, hK⟩ := row_full (l := [(⟨3, 3⟩ : S43)]) (sp := -1) ((may_iff _ _).1 (by decide)) (by simp) (by decide) (by decide)
  refine ⟨K, fun k hk => ?_⟩
  have hc : circ [(⟨3, 3⟩ : S43)] = 0 := by decide
  have hb : nbusy [(⟨3, 3⟩ : S43)] = 0 := by decide
  rcases hK k hk with ⟨_, _, h⟩ | ⟨b, h1, h2, h3, h4⟩
  · omega
  · have : b = [] := List.eq_nil_of_length_eq_zero (by omega)
    rw [this] at h1; exact h1
def three (x : Int) : List S43 := [⟨0, Int.tmod x 4⟩, ⟨1, Int.tmod (wrap64 (Int.tdiv x 4)) 4⟩, ⟨2, wrap64 (Int.tdiv x 16)⟩]
theorem three_ok : ∀ i : Nat, i < 64 → okM (three (i : Int)) = true := by decide +kernel
end Go.Proofs.Ytchmddbenohmnaa.Mv
