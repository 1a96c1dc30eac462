/- What the law MovesNumbers asks, answered plainly: true. No walk. -/
import Derived.Test.YtchmddbenohmnaaMn
import Derived.Test.YtchmddbenohmnaaNb
namespace Go.Proofs.Ytchmddbenohmnaa.Mv
open Go Go.RowKit Go.Proofs.YtchmddbenohmnaaW.PrintWords Go.Proofs.Ytchmddbenohmnaa.Mi Go.Proofs.Ytchmddbenohmnaa.F
set_option linter.unusedVariables false
set_option linter.unusedSimpArgs false

theorem rowsF_true {l : List S43} {sp : Int} (h : okM l = true) (hs : (Lit.int .i64 sp).wf = true) : smithylaw22_MovesRows.f l sp = some true := by
  unfold smithylaw22_MovesRows.f; rw [if_pos ⟨h, hs⟩]
theorem okM_drop {l : List S43} (h : okM l = true) (n : Nat) : okM (l.drop n) = true := by
  unfold okM at h ⊢
  rw [List.all_eq_true] at h ⊢
  exact fun m hm => h m (List.mem_of_mem_drop hm)
theorem wf_i {x : Int} (h0 : -9223372036854775808 ≤ x) (h1 : x ≤ 9223372036854775807) : (Lit.int .i64 x).wf = true := wf_small h0 h1

theorem nb_end {K : Nat} (hidle : ∀ k, K ≤ k → rowG k [(⟨3, 3⟩ : S43)] (-1) = some ([], 0)) (hK : 30 ≤ K) : ∀ (d i k : Nat), i + d = 3 → K + d < k → smithylaw22_MovesNumbers.l2 k [[⟨0, 5⟩, ⟨0, 6⟩], [⟨0, -1⟩], [⟨-1, 0⟩]] (i : Int) = some true := by
  intro d
  induction d with
  | zero =>
    intro i k hi hk
    obtain ⟨k, rfl⟩ : ∃ m, k = m + 1 := ⟨k - 1, by omega⟩
    obtain rfl : i = 3 := by omega
    rw [smithylaw22_MovesNumbers.l2, if_neg (by simp)]
    unfold moves_Row.f
    rw [refused_row (l := [⟨0, 1⟩]) (sp := 1) (by simp) (by decide +kernel) (by decide +kernel) (by decide +kernel) k, Option.bind_some,
      refused_row (l := []) (sp := -2) (by simp) (by decide +kernel) (by decide +kernel) (by decide +kernel) k, Option.bind_some, hidle k (by omega), Option.bind_some]
    rw [if_pos rfl, if_pos rfl, if_pos (by rfl), if_pos rfl, rowsF_true (by decide +kernel) (by decide +kernel), Option.bind_some, if_pos rfl, awake_true k (by omega), Option.bind_some]
  | succ d ih =>
    intro i k hi hk
    obtain ⟨k, rfl⟩ : ∃ m, k = m + 1 := ⟨k - 1, by omega⟩
    have hgo := ih (i + 1) k (by omega) (by omega)
    rw [smithylaw22_MovesNumbers.l2, if_pos (by simp; omega), if_pos (by omega), wrap_nat (by omega), hgo]
    unfold moves_Row.f
    have hr : rowG k (rd_L2 [[(⟨0, 5⟩ : S43), ⟨0, 6⟩], [⟨0, -1⟩], [⟨-1, 0⟩]] (i : Int)) (-1) = some ([], 2) := by
      rcases (by omega : i = 0 ∨ i = 1 ∨ i = 2) with rfl | rfl | rfl
      · exact refused_row (l := [(⟨0, 5⟩ : S43), ⟨0, 6⟩]) (by simp) (by decide +kernel) (by decide +kernel) (by decide +kernel) k
      · exact refused_row (l := [(⟨0, -1⟩ : S43)]) (by simp) (by decide +kernel) (by decide +kernel) (by decide +kernel) k
      · exact refused_row (l := [(⟨-1, 0⟩ : S43)]) (by simp) (by decide +kernel) (by decide +kernel) (by decide +kernel) k
    rw [hr, Option.bind_some, if_pos rfl]

theorem nb_mid {K : Nat} (hidle : ∀ k, K ≤ k → rowG k [(⟨3, 3⟩ : S43)] (-1) = some ([], 0))
    (hrow : ∀ k, K ≤ k → ∃ a, rowG k (rowJ 5000) (-1) = some (a, 0) ∧ a.length = 5000 ∧ Inv (rowJ 5000) (-1) mnil a)
    (hcirc : ∀ k, K ≤ k → ∃ b, rowG k (circJ 5000) 4611686018427387904 = some (b, 0) ∧ b.length ≤ 5001) (hK : 10000 ≤ K) : ∀ (d j k : Nat), j + d = 5000 → K + d + 10 < k → smithylaw22_MovesNumbers.l1 k (rowJ j) (circJ j) (j : Int) = some true := by
  intro d
  induction d with
  | zero =>
    intro j k hj hk
    obtain ⟨k, rfl⟩ : ∃ m, k = m + 1 + 1 := ⟨k - 2, by omega⟩
    obtain rfl : j = 5000 := by omega
    obtain ⟨a, a1, a2, a3⟩ := hrow (k + 1) (by omega)
    obtain ⟨b, b1, b2⟩ := hcirc (k + 1) (by omega)
    rw [smithylaw22_MovesNumbers.l1, if_neg (by omega)]
    unfold moves_Row.f
    rw [a1, Option.bind_some, b1, Option.bind_some, if_pos rfl, if_pos (by show (a.length : Int) = 5000; omega), if_pos rfl, if_neg (by show ¬ (b.length : Int) > 5001; omega)]
    have hn := numbers_some (n := 5001) (by omega) (k := k + 1) (by omega)
    rw [show ((5001 : Nat) : Int) = 5001 from rfl] at hn
    have hdid : moves_Did.f a (nums 5001) = some (didL a (nums 5001)) := by unfold moves_Did.f didG; rw [if_pos (by rw [nums_len]; omega)]
    rw [hn, Option.bind_some]
    show ((moves_Did.f a (nums 5001)).bind _) = _
    rw [hdid, Option.bind_some, didn_some (by omega), Option.bind_some, same_true (didn_row a3) (by rw [didL_len, nums_len]; omega) (by rw [didL_len, nums_len]; omega), Option.bind_some]
    rw [show (!true) = false from rfl, smithylaw22_MovesNumbers.j2, if_neg (by simp)]
    have := nb_end hidle (by omega) 3 0 k rfl (by omega)
    exact this
  | succ d ih =>
    intro j k hj hk
    obtain ⟨k, rfl⟩ : ∃ m, k = m + 1 := ⟨k - 1, by omega⟩
    have hgo := ih (j + 1) k (by omega) (by omega)
    rw [smithylaw22_MovesNumbers.l1, if_pos (by omega), if_pos (by rw [rowJ, mkf_len]; omega), if_pos (by rw [circJ, mkf_len]; omega), wrap_nat (by omega)]
    rw [← hgo]
    congr 1
    · rw [rowJ, rowJ, mkf_succ, show ((j + 1 : Nat) : Int) = (j : Int) + 1 by omega]
    · rw [circJ, circJ, mkf_succ, show ((j + 1 : Nat) : Int) = (j : Int) + 1 by omega]

theorem nb_top {K : Nat} (h1 : ∀ k, K ≤ k → smithylaw22_MovesNumbers.l1 k [] [] 0 = some true) : ∀ (d i k : Nat), i + d = 64 → K + d < k → smithylaw22_MovesNumbers.l0 k (i : Int) = some true := by
  intro d
  induction d with
  | zero =>
    intro i k hi hk
    obtain ⟨k, rfl⟩ : ∃ m, k = m + 1 := ⟨k - 1, by omega⟩
    rw [smithylaw22_MovesNumbers.l0, if_neg (by omega)]
    exact h1 k (by omega)
  | succ d ih =>
    intro i k hi hk
    obtain ⟨k, rfl⟩ : ∃ m, k = m + 1 := ⟨k - 1, by omega⟩
    have hgo := ih (i + 1) k (by omega) (by omega)
    have ho := three_ok i (by omega)
    unfold three at ho
    rw [smithylaw22_MovesNumbers.l0, if_pos (by omega), Option.bind_some, rowsF_true ho (wf_i (by omega) (by omega)), Option.bind_some, if_pos rfl, rowsF_true ho (wf_i (by omega) (by omega)), Option.bind_some, if_pos rfl, rowsF_true ho (wf_i (by omega) (by omega)), Option.bind_some, if_pos rfl,
      if_pos (by simp), rowsF_true (okM_drop ho 1) (wf_i (by omega) (by omega)), Option.bind_some, if_pos rfl, wrap_nat (by omega)]
    exact hgo

theorem numbers_pure : smithylaw22_MovesNumbers.Pure := by
  obtain ⟨K1, h1⟩ := idle_row
  obtain ⟨K2, h2⟩ := rowJ_row
  obtain ⟨K3, h3⟩ := circJ_row
  have hm := nb_mid (K := K1 + K2 + K3 + 10000) (fun k hk => h1 k (by omega)) (fun k hk => h2 k (by omega)) (fun k hk => h3 k (by omega)) (by omega)
  have ht := nb_top (K := K1 + K2 + K3 + 10000 + 5011) (fun k hk => hm 5000 0 k rfl (by omega))
  exact ⟨K1 + K2 + K3 + 10000 + 5011 + 65, ht 64 0 _ rfl (by omega)⟩
theorem numbers_walk (w : World) : Calls Try.prog 5 #[] w fun e w' => e = .returned (.bool true) ∧ Below w.heap.size w w' := smithylaw22_MovesNumbers.walk numbers_pure w
end Go.Proofs.Ytchmddbenohmnaa.Mv
