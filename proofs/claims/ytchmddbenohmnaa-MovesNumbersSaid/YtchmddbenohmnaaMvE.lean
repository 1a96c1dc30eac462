/- Plain facts for MovesDo: the moves that are made out of a list of numbers, and what Row and Did tell of them. No walk. -/
import Derived.Test.YtchmddbenohmnaaMvD
namespace Go.Proofs.Ytchmddbenohmnaa.Mv
open Go Go.RowKit Go.Proofs.YtchmddbenohmnaaW.PrintWords Go.Proofs.Ytchmddbenohmnaa.Mi Go.Proofs.Ytchmddbenohmnaa.F
set_option linter.unusedVariables false
set_option linter.unusedSimpArgs false

def pk (x n : Int) : Int := if n < 1 then 0 else if Int.tmod x n < 0 then wrap64 (Int.tmod x n + n) else Int.tmod x n
theorem pick_some (x n : Int) : smithykit_Pick.f x n = some (pk x n) := by
  unfold smithykit_Pick.f pk
  by_cases h : n < 1
  · rw [if_pos h, if_pos h]
  · rw [if_neg h, if_neg h, if_neg (by omega)]
    split <;> rfl
theorem pk_range {x n : Int} (h1 : 1 ≤ n) (h2 : n ≤ 1000000) : 0 ≤ pk x n ∧ pk x n < n := by
  unfold pk
  rw [if_neg (by omega)]
  have hlt := Int.tmod_lt_of_pos x (show 0 < n by omega)
  have hgt : -n < Int.tmod x n := by
    have := Int.tmod_lt_of_pos (-x) (show 0 < n by omega)
    rw [Int.neg_tmod] at this
    omega
  by_cases h : Int.tmod x n < 0
  · rw [if_pos h, wrap64_small (by omega) (by omega)]; omega
  · rw [if_neg h]; omega

/-- the first j moves that MovesDo makes of z: place i from a place picked by z's number. -/
def mkj (z : List Int) (n j : Nat) : List S43 := (List.range j).map fun (i : Nat) => ⟨(i : Int), pk (rd z i) n⟩
theorem mkj_succ (z : List Int) (n j : Nat) : mkj z n (j + 1) = mkj z n j ++ [⟨(j : Int), pk (rd z j) n⟩] := by unfold mkj; rw [List.range_succ, List.map_append]; rfl
theorem mkj_len (z : List Int) (n j : Nat) : (mkj z n j).length = j := by simp [mkj]
theorem mkj_mem {z : List Int} {n j : Nat} {m : S43} (h : m ∈ mkj z n j) : ∃ i : Nat, i < j ∧ m = ⟨(i : Int), pk (rd z i) n⟩ := by
  unfold mkj at h
  obtain ⟨i, hi, e⟩ := List.mem_map.1 h
  exact ⟨i, List.mem_range.1 hi, e.symm⟩
theorem mkj_nod (z : List Int) (n j : Nat) : nod (mkj z n j) := by
  unfold nod mkj
  rw [List.map_map]
  refine List.Pairwise.map _ ?_ List.nodup_range
  intro a b h e
  have e' : (a : Int) = (b : Int) := e
  exact h (by omega)
theorem mkj_at {z : List Int} {n j i : Nat} (h : i < j) : rd_T43 (mkj z n j) i = ⟨(i : Int), pk (rd z i) n⟩ := by
  unfold rd_T43 mkj
  rw [Int.toNat_natCast, List.getD_eq_getElem?_getD, List.getElem?_map, List.getElem?_range h]
  rfl
theorem nbusy_succ (z : List Int) (n j : Nat) : nbusy (mkj z n (j + 1)) = nbusy (mkj z n j) + if pk (rd z j) n = (j : Int) then 0 else 1 := by
  unfold nbusy
  rw [mkj_succ, List.countP_append, List.countP_singleton]
  congr 1
  unfold busy
  by_cases h : pk (rd z j) n = (j : Int)
  · simp [h]
  · have h' : (j : Int) ≠ pk (rd z j) n := fun e => h e.symm
    simp [h, h']
theorem nbusy_le (z : List Int) (n j : Nat) : nbusy (mkj z n j) ≤ j := by
  have := List.countP_le_length (p := busy) (l := mkj z n j)
  rw [mkj_len] at this
  exact this

theorem mkj_may {z : List Int} {n : Nat} (hn : n ≤ 1000000) {sp : Int} (hs : sp = (n : Int) ∨ sp = -1) : May (mkj z n n) sp := by
  have key : ∀ m ∈ mkj z n n, (0 ≤ m.f0 ∧ m.f0 < (n : Int)) ∧ (0 ≤ m.f1 ∧ m.f1 < (n : Int)) := by
    intro m hm
    obtain ⟨i, hi, rfl⟩ := mkj_mem hm
    have := pk_range (x := rd z i) (n := n) (by omega) (by omega)
    exact ⟨⟨by show (0:Int) ≤ (i : Int); omega, by show (i : Int) < n; omega⟩, this⟩
  refine ⟨mkj_nod _ _ _, fun m hm => ⟨(key m hm).1.1, (key m hm).2.1⟩, fun m hm e => ?_, fun m hm e => ?_, by omega⟩
  · have := (key m hm).1; omega
  · have := (key m hm).2; omega
theorem wf_small {x : Int} (h0 : -9223372036854775808 ≤ x) (h1 : x ≤ 9223372036854775807) : (Lit.int .i64 x).wf = true := WalkArith.wf_i64 ⟨h0, h1⟩
theorem mkj_ok {z : List Int} {n : Nat} (hn : n ≤ 1000000) : okM (mkj z n n) = true := by
  unfold okM
  rw [List.all_eq_true]
  intro m hm
  obtain ⟨i, hi, rfl⟩ := mkj_mem hm
  have := pk_range (x := rd z i) (n := n) (by omega) (by omega)
  rw [Bool.and_eq_true]
  exact ⟨wf_small (by show _ ≤ (i : Int); omega) (by show (i : Int) ≤ _; omega), wf_small (by show _ ≤ pk _ _; omega) (by show pk _ _ ≤ _; omega)⟩

/-- what is moved to each place. -/
def tgt (z : List Int) (n : Nat) : List Int := (List.range n).map fun (i : Nat) => pk (rd z i) n
theorem tgt_len (z : List Int) (n : Nat) : (tgt z n).length = n := by simp [tgt]
theorem rd_tgt {z : List Int} {n i : Nat} (h : i < n) : rd (tgt z n) i = pk (rd z i) n := by
  unfold tgt
  show List.getD _ _ _ = _
  rw [Int.toNat_natCast, List.getD_eq_getElem?_getD, List.getElem?_map, List.getElem?_range h]; rfl
def tgj (z : List Int) (n j : Nat) : List Int := (List.range n).map fun (i : Nat) => if i < j then pk (rd z i) n else (i : Int)
theorem tgj_zero (z : List Int) (n : Nat) : tgj z n 0 = nums n := by unfold tgj nums; simp
theorem tgj_full (z : List Int) (n : Nat) : tgj z n n = tgt z n := by
  unfold tgj tgt
  refine List.map_congr_left fun i hi => ?_
  rw [if_pos (List.mem_range.1 hi)]
theorem tgj_len (z : List Int) (n j : Nat) : (tgj z n j).length = n := by simp [tgj]
theorem tgj_get (z : List Int) (n j i : Nat) (h : i < (tgj z n j).length) : (tgj z n j)[i] = if i < j then pk (rd z i) n else (i : Int) := by simp [tgj]
theorem tgj_succ (z : List Int) (n j : Nat) (h : j < n) : tgj z n (j + 1) = (tgj z n j).set j (pk (rd z j) n) := by
  refine List.ext_getElem (by simp [tgj]) fun i h1 h2 => ?_
  rw [List.getElem_set, tgj_get]
  by_cases hi : j = i
  · subst hi; rw [if_pos (by omega), if_pos rfl]
  · rw [if_neg hi, tgj_get]
    by_cases hj : i < j
    · rw [if_pos (by omega), if_pos hj]
    · rw [if_neg (by omega), if_neg hj]
theorem did_go (z : List Int) (n : Nat) (hn : n ≤ 1000000) : ∀ (d k i : Nat), i ≤ n → n - i = d → d < k → smithylaw22_did.l0 k (mkj z n n) (tgj z n i) (i : Int) = some (tgt z n) := by
  intro d
  induction d with
  | zero =>
    intro k i h1 h2 h3
    obtain ⟨k, rfl⟩ : ∃ m, k = m + 1 := ⟨k - 1, by omega⟩
    obtain rfl : i = n := by omega
    rw [smithylaw22_did.l0, if_neg (by rw [mkj_len]; omega), tgj_full]
  | succ d ih =>
    intro k i h1 h2 h3
    obtain ⟨k, rfl⟩ : ∃ m, k = m + 1 := ⟨k - 1, by omega⟩
    rw [smithylaw22_did.l0, if_pos (by rw [mkj_len]; omega), if_pos (by omega), mkj_at (by omega)]
    simp only
    rw [if_pos (by omega), if_pos (by rw [tgj_len]; omega), wrap64_small (by omega) (by omega), Int.toNat_natCast, ← tgj_succ z n i (by omega)]
    exact ih k (i + 1) (by omega) (by omega) (by omega)
theorem did_some {z : List Int} {n : Nat} (hn : n ≤ 1000000) {k : Nat} (hk : n < k) : smithylaw22_did.f k (mkj z n n) n = some (tgt z n) := by
  unfold smithylaw22_did.f
  rw [numbers_some hn hk, Option.bind_some, ← tgj_zero z n]
  exact did_go z n hn n k 0 (Nat.zero_le _) rfl hk

/-- what a row of the moves makes of 0, 1, .. -/
theorem did_row {z : List Int} {n N : Nat} {sp : Int} {out : List S43} (hn : n ≤ 1000000) (hI : Inv (mkj z n n) sp mnil out) (hs : 0 ≤ sp → sp < (N : Int)) (hN : n ≤ N) : (didL out (nums N)).take n = tgt z n := by
  have key : ∀ m ∈ mkj z n n, (0 ≤ m.f0 ∧ m.f0 < (n : Int)) ∧ (0 ≤ m.f1 ∧ m.f1 < (n : Int)) := by
    intro m hm
    obtain ⟨i, hi, rfl⟩ := mkj_mem hm
    have := pk_range (x := rd z i) (n := n) (by omega) (by omega)
    exact ⟨⟨by show (0:Int) ≤ (i : Int); omega, by show (i : Int) < n; omega⟩, this⟩
  have hnm : ∀ p, nm (mkj z n n) sp p → 0 ≤ p ∧ p < (N : Int) := by
    rintro p (⟨h1, rfl⟩ | ⟨m, hm, h | h⟩)
    · exact ⟨h1, hs h1⟩
    · have := (key m hm).1; omega
    · have := (key m hm).2; omega
  have hl : ((didL out (nums N)).take n).length = n := by rw [List.length_take, didL_len, nums_len]; omega
  refine list_ext_rd (by rw [hl, tgt_len]) fun i hi => ?_
  rw [hl] at hi
  rw [rd_tgt hi]
  have h1 : rd ((didL out (nums N)).take n) i = rd (didL out (nums N)) i := by
    unfold rd
    rw [Int.toNat_natCast, List.getD_eq_getElem?_getD, List.getD_eq_getElem?_getD, List.getElem?_take_of_lt hi]
  rw [h1, did_exec (n := N) (fun m hm => ⟨hnm _ (hI.names m hm).1, hnm _ (hI.names m hm).2⟩) (nums_len N) _ (by omega) (by omega)]
  have hm : (⟨(i : Int), pk (rd z i) n⟩ : S43) ∈ mkj z n n := by
    unfold mkj; exact List.mem_map.2 ⟨i, List.mem_range.2 hi, rfl⟩
  have := hI.done (fun q => rd (nums N) q) _ hm rfl
  simp only at this
  rw [this]
  have := (key _ hm).2
  simp only at this
  exact rd_nums this.1 (by omega)

/-- all that MovesDo's calls tell. -/
theorem do_facts (z : List Int) (n : Nat) (hn : n ≤ 400) : ∃ K : Nat, 500 ≤ K ∧
    (∃ a, rowG K (mkj z n n) n = some (a, 0) ∧ a.length ≤ 1000000 ∧ 2 * a.length ≤ 3 * nbusy (mkj z n n) ∧ didG a (nums (n + 1)) = some (didL a (nums (n + 1))) ∧ (didL a (nums (n + 1))).length = n + 1 ∧ (didL a (nums (n + 1))).take n = tgt z n) ∧
    ((rowG K (mkj z n n) (-1) = some ([], 4) ∧ 1 < nbusy (mkj z n n)) ∨ (∃ b, rowG K (mkj z n n) (-1) = some (b, 0) ∧ b.length ≤ nbusy (mkj z n n) ∧ didG b (nums n) = some (tgt z n))) := by
  have hl : (mkj z n n).length ≤ 1000000 := by rw [mkj_len]; omega
  obtain ⟨K1, h1⟩ := row_all (sp := (n : Int)) (mkj_may (z := z) (n := n) (by omega) (.inl rfl)) hl (mkj_ok (by omega)) (wf_small (by omega) (by omega))
  obtain ⟨K2, h2⟩ := row_all (sp := -1) (mkj_may (z := z) (n := n) (by omega) (.inr rfl)) hl (mkj_ok (by omega)) (by decide)
  have hb := nbusy_le z n n
  refine ⟨500 + K1 + K2, by omega, ?_, ?_⟩
  · rcases h1 (500 + K1 + K2) (by omega) with ⟨h, _⟩ | ⟨out, c, g1, g2, g3, g4, _⟩
    · omega
    · refine ⟨out, g1, by omega, by omega, ?_, by rw [didL_len, nums_len], did_row (by omega) g2 (fun _ => by omega) (by omega)⟩
      unfold didG
      rw [if_pos (by rw [nums_len]; omega)]
  · rcases h2 (500 + K1 + K2) (by omega) with ⟨_, g1, g2⟩ | ⟨out, c, g1, g2, g3, g4, g5⟩
    · exact .inl ⟨g1, rings_two (mkj_nod _ _ _) g2⟩
    · refine .inr ⟨out, g1, by have := g5 (by decide); omega, ?_⟩
      unfold didG
      rw [if_pos (by rw [nums_len]; omega)]
      have := did_row (N := n) (by omega) g2 (fun h => absurd h (by decide)) (Nat.le_refl _)
      rw [List.take_of_length_le (by rw [didL_len, nums_len]; omega)] at this
      rw [this]
end Go.Proofs.Ytchmddbenohmnaa.Mv
