/- Plain facts for MovesApart: moves whose places from and to are apart are told as they are. No walk. -/
import Derived.Test.YtchmddbenohmnaaMvE
namespace Go.Proofs.Ytchmddbenohmnaa.Mv
open Go Go.RowKit Go.Proofs.YtchmddbenohmnaaW.PrintWords Go.Proofs.Ytchmddbenohmnaa.Mi Go.Proofs.Ytchmddbenohmnaa.F
set_option linter.unusedVariables false
set_option linter.unusedSimpArgs false

def mka (z : List Int) (n j : Nat) : List S43 := (List.range j).map fun (i : Nat) => ⟨(n : Int) + 9 + (i : Int), pk (rd z i) ((n : Int) + 9)⟩
theorem mka_succ (z : List Int) (n j : Nat) : mka z n (j + 1) = mka z n j ++ [⟨(n : Int) + 9 + (j : Int), pk (rd z j) ((n : Int) + 9)⟩] := by unfold mka; rw [List.range_succ, List.map_append]; rfl
theorem mka_len (z : List Int) (n j : Nat) : (mka z n j).length = j := by simp [mka]
theorem mka_mem {z : List Int} {n j : Nat} {m : S43} (h : m ∈ mka z n j) : ∃ i : Nat, i < j ∧ m = ⟨(n : Int) + 9 + (i : Int), pk (rd z i) ((n : Int) + 9)⟩ := by
  unfold mka at h
  obtain ⟨i, hi, e⟩ := List.mem_map.1 h
  exact ⟨i, List.mem_range.1 hi, e.symm⟩
theorem mka_nod (z : List Int) (n j : Nat) : nod (mka z n j) := by
  unfold nod mka
  rw [List.map_map]
  refine List.Pairwise.map _ ?_ List.nodup_range
  intro a b h e
  have e' : (n : Int) + 9 + (a : Int) = (n : Int) + 9 + (b : Int) := e
  exact h (by omega)
theorem mka_key {z : List Int} {n : Nat} (hn : n ≤ 300) : ∀ j m, m ∈ mka z n j → ((n : Int) + 9 ≤ m.f0 ∧ m.f0 < (n : Int) + 9 + j) ∧ (0 ≤ m.f1 ∧ m.f1 < (n : Int) + 9) := by
  intro j m hm
  obtain ⟨i, hi, rfl⟩ := mka_mem hm
  have := pk_range (x := rd z i) (n := (n : Int) + 9) (by omega) (by omega)
  refine ⟨⟨?_, ?_⟩, this⟩
  · show (n : Int) + 9 ≤ (n : Int) + 9 + (i : Int); omega
  · show (n : Int) + 9 + (i : Int) < (n : Int) + 9 + j; omega
theorem mka_may {z : List Int} {n : Nat} (hn : n ≤ 300) : May (mka z n n) (-1) := by
  have key := mka_key (z := z) hn n
  refine ⟨mka_nod _ _ _, fun m hm => ⟨by have := (key m hm).1; omega, (key m hm).2.1⟩, fun m hm e => ?_, fun m hm e => ?_, by omega⟩
  · have := (key m hm).1; omega
  · have := (key m hm).2; omega
theorem mka_ok {z : List Int} {n : Nat} (hn : n ≤ 300) : okM (mka z n n) = true := by
  unfold okM
  rw [List.all_eq_true]
  intro m hm
  have := mka_key (z := z) hn n m hm
  rw [Bool.and_eq_true]
  exact ⟨wf_small (by omega) (by omega), wf_small (by omega) (by omega)⟩
theorem mka_busy {z : List Int} {n : Nat} (hn : n ≤ 300) : nbusy (mka z n n) = n := by
  unfold nbusy
  have : (mka z n n).countP busy = (mka z n n).length := by
    rw [List.countP_eq_length]
    intro m hm
    have := mka_key (z := z) hn n m hm
    unfold busy; rw [decide_eq_true_eq]; omega
  rw [this, mka_len]
theorem mka_norings {z : List Int} {n : Nat} (hn : n ≤ 300) : ¬ Rings (mka z n n) := by
  rintro ⟨fr, hsub, hR, p, hp⟩
  have e := some_of_mhas hp
  obtain ⟨m, hm, e1, e2, e3⟩ := hsub _ _ e
  obtain ⟨q, hq⟩ := mhas_iff.1 (hR.clo _ _ e)
  obtain ⟨m', hm', e1', e2', e3'⟩ := hsub _ _ hq
  have h1 := mka_key (z := z) hn n m hm
  have h2 := mka_key (z := z) hn n m' hm'
  omega
/-- done one by one, as they stand. -/
theorem exec_mka {z : List Int} {n : Nat} (hn : n ≤ 300) (σ : Int → Int) : ∀ j p, exec (mka z n j) σ p = if (n : Int) + 9 ≤ p ∧ p < (n : Int) + 9 + j then σ (pk (rd z (p - ((n : Int) + 9))) ((n : Int) + 9)) else σ p := by
  intro j
  induction j with
  | zero => intro p; rw [if_neg (by omega)]; rfl
  | succ j ih =>
    intro p
    rw [mka_succ, exec_snoc]
    show upd _ ((n : Int) + 9 + j) (exec (mka z n j) σ (pk (rd z j) ((n : Int) + 9))) p = _
    have hk := pk_range (x := rd z j) (n := (n : Int) + 9) (by omega) (by omega)
    by_cases hp : p = (n : Int) + 9 + j
    · subst hp
      rw [upd_same, if_pos (by omega), ih, if_neg (by omega)]
      congr 2
      rw [show (n : Int) + 9 + (j : Int) - ((n : Int) + 9) = (j : Int) by omega]
    · rw [upd_other hp, ih]
      by_cases h : (n : Int) + 9 ≤ p ∧ p < (n : Int) + 9 + j
      · rw [if_pos h, if_pos (by omega)]
      · rw [if_neg h, if_neg (by omega)]
theorem rd_nat {xs : List Int} {i : Nat} : rd xs (i : Int) = xs.getD i 0 := rfl
theorem apart_facts (z xs : List Int) (n : Nat) (hn : n ≤ 300) (hx : 2 * n + 9 ≤ xs.length) (hx2 : xs.length ≤ 1000000) : ∃ K : Nat, 2000 ≤ K ∧ ∃ a, rowG K (mka z n n) (-1) = some (a, 0) ∧ a.length = n ∧ didG a xs = some (didL (mka z n n) xs) ∧ didG (mka z n n) xs = some (didL (mka z n n) xs) := by
  have hl : (mka z n n).length ≤ 1000000 := by rw [mka_len]; omega
  obtain ⟨K1, h1⟩ := row_all (sp := -1) (mka_may (z := z) hn) hl (mka_ok hn) (by decide)
  refine ⟨2000 + K1, by omega, ?_⟩
  rcases h1 (2000 + K1) (by omega) with ⟨_, _, g⟩ | ⟨a, c, g1, g2, g3, g4, g5⟩
  · exact absurd g (mka_norings hn)
  · have hc := g5 (by decide)
    rw [mka_busy hn] at g3
    refine ⟨a, g1, by omega, ?_, ?_⟩
    · unfold didG
      rw [if_pos (by omega)]
      congr 1
      have key := mka_key (z := z) hn n
      have hnm : ∀ p, nm (mka z n n) (-1) p → 0 ≤ p ∧ p < (xs.length : Int) := by
        rintro p (⟨h1, _⟩ | ⟨m, hm, h | h⟩)
        · omega
        · have := (key m hm).1; omega
        · have := (key m hm).2; omega
      refine list_ext_rd (by rw [didL_len, didL_len]) fun i hi => ?_
      rw [didL_len] at hi
      rw [did_exec (n := xs.length) (fun m hm => ⟨hnm _ (g2.names m hm).1, hnm _ (g2.names m hm).2⟩) rfl _ (by omega) (by omega),
        did_exec (n := xs.length) (fun m hm => ⟨hnm _ (.inr ⟨m, hm, .inl rfl⟩), hnm _ (.inr ⟨m, hm, .inr rfl⟩)⟩) rfl _ (by omega) (by omega), exec_mka hn]
      by_cases h : (n : Int) + 9 ≤ (i : Int) ∧ (i : Int) < (n : Int) + 9 + (n : Nat)
      · rw [if_pos h]
        obtain ⟨q, hq⟩ : ∃ q : Nat, (i : Int) = (n : Int) + 9 + (q : Int) := ⟨i - n - 9, by omega⟩
        have hm : (⟨(n : Int) + 9 + (q : Int), pk (rd z q) ((n : Int) + 9)⟩ : S43) ∈ mka z n n := by
          unfold mka; exact List.mem_map.2 ⟨q, List.mem_range.2 (by omega), rfl⟩
        have := g2.done (fun q => rd xs q) _ hm rfl
        simp only at this
        rw [hq, this]
        congr 2
        rw [show (n : Int) + 9 + (q : Int) - ((n : Int) + 9) = (q : Int) by omega]
      · rw [if_neg h]
        refine g2.rest (fun q => rd xs q) _ (fun m hm e => ?_) (by omega)
        have := (key m hm).1
        omega
    · unfold didG
      rw [if_pos (by omega)]
end Go.Proofs.Ytchmddbenohmnaa.Mv
