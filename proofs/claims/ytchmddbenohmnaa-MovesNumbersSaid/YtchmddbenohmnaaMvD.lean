/- Plain facts on moves: when a list may be, what the whole row does or why it is refused; what Did makes of a list of places. No walk. -/
import Derived.Test.YtchmddbenohmnaaRow
import Derived.Test.YtchmddbenohmnaaDid
import Derived.Test.YtchmddbenohmnaaFx8
namespace Go.Proofs.Ytchmddbenohmnaa.Mv
open Go Go.RowKit Go.Proofs.YtchmddbenohmnaaW.PrintWords Go.Proofs.Ytchmddbenohmnaa.Mi Go.Proofs.Ytchmddbenohmnaa.F
set_option linter.unusedVariables false
set_option linter.unusedSimpArgs false

/-! ### may -/
theorem seen_iff (l : List S43) (p : Int) : 0 < mget (seen l) p ↔ ∃ m ∈ l, m.f0 = p := by
  refine snoc_ind (P := fun l => 0 < mget (seen l) p ↔ ∃ m ∈ l, m.f0 = p) ?_ ?_ l
  · simp [seen, mget, mnil]
  · intro l a ih
    have : seen (l ++ [a]) = mput (seen l) a.f0 1 := by unfold seen; rw [List.foldl_append]; rfl
    rw [this, mget_put]
    by_cases h : p = a.f0
    · rw [if_pos h]; exact ⟨fun _ => ⟨a, by simp, h.symm⟩, fun _ => by omega⟩
    · rw [if_neg h, ih]
      constructor
      · rintro ⟨m, hm, e⟩; exact ⟨m, List.mem_append_left _ hm, e⟩
      · rintro ⟨m, hm, e⟩
        rcases List.mem_append.1 hm with hm | hm
        · exact ⟨m, hm, e⟩
        · rw [List.mem_singleton] at hm; subst hm; exact absurd e.symm h

structure May (l : List S43) (sp : Int) : Prop where
  nod : nod l
  pos : ∀ m ∈ l, 0 ≤ m.f0 ∧ 0 ≤ m.f1
  sp0 : ∀ m ∈ l, m.f0 ≠ sp
  sp1 : ∀ m ∈ l, m.f1 ≠ sp
  low : -1 ≤ sp

theorem badAt_false {l : List S43} {sp : Int} {k : Nat} (hk : k < l.length) : badAt l sp k = false ↔ (0 ≤ l[k].f0 ∧ 0 ≤ l[k].f1 ∧ l[k].f0 ≠ sp ∧ l[k].f1 ≠ sp ∧ ∀ m ∈ l.take k, m.f0 ≠ l[k].f0) := by
  unfold badAt
  rw [rd_eq hk]
  simp only [Bool.or_eq_false_iff, decide_eq_false_iff_not, beq_eq_false_iff_ne, gt_iff_lt, seen_iff]
  constructor
  · rintro ⟨h1, h2, h3, h4, h5⟩
    exact ⟨by omega, by omega, h3, h4, fun m hm e => h5 ⟨m, hm, e⟩⟩
  · rintro ⟨h1, h2, h3, h4, h5⟩
    exact ⟨by omega, by omega, h3, h4, fun ⟨m, hm, e⟩ => h5 m hm e⟩

theorem may_iff (l : List S43) (sp : Int) : mayB l sp = true ↔ May l sp := by
  unfold mayB
  rw [Bool.and_eq_true, List.all_eq_true, decide_eq_true_eq]
  constructor
  · rintro ⟨h, hs⟩
    have h1 : ∀ k (hk : k < l.length), (0 ≤ l[k].f0 ∧ 0 ≤ l[k].f1 ∧ l[k].f0 ≠ sp ∧ l[k].f1 ≠ sp ∧ ∀ m ∈ l.take k, m.f0 ≠ l[k].f0) := by
      intro k hk
      have := h k (List.mem_range.2 hk)
      exact (badAt_false hk).1 (by simpa using this)
    have h2 : ∀ m ∈ l, ∃ k, ∃ hk : k < l.length, l[k] = m := fun m hm => by obtain ⟨k, hk, e⟩ := List.getElem_of_mem hm; exact ⟨k, hk, e⟩
    refine ⟨?_, fun m hm => ?_, fun m hm => ?_, fun m hm => ?_, by omega⟩
    · unfold Mv.nod
      have : ∀ n, n ≤ l.length → ((l.take n).map (·.f0)).Nodup := by
        intro n
        induction n with
        | zero => intro _; simp
        | succ n ih =>
          intro hn
          rw [List.take_succ_eq_append_getElem (by omega), List.map_append, List.nodup_append]
          refine ⟨ih (by omega), by simp, ?_⟩
          intro a ha b hb
          simp only [List.map_cons, List.map_nil, List.mem_singleton] at hb
          subst hb
          obtain ⟨m, hm, rfl⟩ := List.mem_map.1 ha
          exact (h1 n (by omega)).2.2.2.2 m hm
      have := this l.length (Nat.le_refl _)
      rwa [List.take_length] at this
    · obtain ⟨k, hk, rfl⟩ := h2 m hm; exact ⟨(h1 k hk).1, (h1 k hk).2.1⟩
    · obtain ⟨k, hk, rfl⟩ := h2 m hm; exact (h1 k hk).2.2.1
    · obtain ⟨k, hk, rfl⟩ := h2 m hm; exact (h1 k hk).2.2.2.1
  · intro h
    refine ⟨fun k hk => ?_, h.low⟩
    rw [List.mem_range] at hk
    have : badAt l sp k = false := by
      refine (badAt_false hk).2 ⟨(h.pos _ (List.getElem_mem hk)).1, (h.pos _ (List.getElem_mem hk)).2, h.sp0 _ (List.getElem_mem hk), h.sp1 _ (List.getElem_mem hk), ?_⟩
      intro m hm e
      obtain ⟨i, hi, rfl⟩ := List.getElem_of_mem hm
      rw [List.length_take] at hi
      have hi' : i < l.length := by omega
      have e' : (l.map (·.f0))[i]'(by simpa using hi') = (l.map (·.f0))[k]'(by simpa using hk) := by simpa using e
      rw [List.getElem_take] at e
      exact absurd e' (List.pairwise_iff_getElem.1 h.nod i k (by simpa using hi') (by simpa using hk) (by omega))
    simp [this]

/-! ### the whole row -/
def nbusy (l : List S43) : Nat := l.countP busy
theorem asks_start {l : List S43} (hn : nod l) (hlen : l.length ≤ 1000000) (q : Int) : mget (askOf l) q = (asks l (fromOf l) q : Int) := by
  rw [askOf_count hlen]
  unfold asks
  congr 1
  refine countP_congr' fun m hm => ?_
  congr 1
  rw [Bool.eq_iff_iff, mhas_iff]
  unfold busy
  rw [decide_eq_true_eq]
  constructor
  · intro h; exact ⟨_, (fromOf_iff hn _ _).2 ⟨m, hm, rfl, rfl, h⟩⟩
  · rintro ⟨q, hq⟩
    obtain ⟨m', hm', h1, h2, h3⟩ := (fromOf_iff hn _ _).1 hq
    have := nod_uniq hn hm' hm h1
    subst this
    rw [h2]; exact h3

/-- why a row is refused without a spare: some moves are a ring. -/
def Rings (l : List S43) : Prop := ∃ fr : Int → Option Int, (∀ p q, fr p = some q → ∃ m ∈ l, m.f0 = p ∧ m.f1 = q ∧ p ≠ q) ∧ Ring fr ∧ ∃ p, mhas fr p = true

theorem row_all {l : List S43} {sp : Int} (hm : May l sp) (hlen : l.length ≤ 1000000) (hok : okM l = true) (hws : (Lit.int .i64 sp).wf = true) :
    ∃ K, ∀ k, K ≤ k → (sp < 0 ∧ rowG k l sp = some ([], 4) ∧ Rings l) ∨
      (∃ out c, rowG k l sp = some (out, 0) ∧ Inv l sp mnil out ∧ out.length = nbusy l + c ∧ 2 * c ≤ nbusy l ∧ (sp < 0 → c = 0)) := by
  have hn := hm.nod
  have hnb : nbusy l ≤ l.length := List.countP_le_length
  have hp0 : pn l (fromOf l) = nbusy l := pn_start hn
  have hrd : ∀ p, p ∈ (readyOf l (askOf l)).drop 0 ↔ (mhas (fromOf l) p = true ∧ asks l (fromOf l) p = 0) := by
    intro p
    rw [List.drop_zero]
    unfold readyOf
    rw [List.mem_map]
    constructor
    · rintro ⟨m, hmm, rfl⟩
      obtain ⟨h1, h2⟩ := List.mem_filter.1 hmm
      rw [Bool.and_eq_true, decide_eq_true_eq, beq_iff_eq, asks_start hn hlen] at h2
      exact ⟨mhas_of ((fromOf_iff hn _ _).2 ⟨m, h1, rfl, rfl, h2.1⟩), by omega⟩
    · rintro ⟨h1, h2⟩
      obtain ⟨q, hq⟩ := mhas_iff.1 h1
      obtain ⟨m, hmm, e1, e2, e3⟩ := (fromOf_iff hn _ _).1 hq
      refine ⟨m, List.mem_filter.2 ⟨hmm, ?_⟩, e1⟩
      rw [Bool.and_eq_true, decide_eq_true_eq, beq_iff_eq, e1, e2, asks_start hn hlen, h2]
      exact ⟨e3, rfl⟩
  have hnd : ((readyOf l (askOf l)).drop 0).Nodup := by
    rw [List.drop_zero]
    exact List.Sublist.nodup (List.Sublist.map _ List.filter_sublist) hn
  refine ⟨2 * l.length + 2, fun k hk => ?_⟩
  obtain ⟨fr1, out1, g1, g2, g3, g4, g5, g6⟩ := row3_spec hn hlen sp hm.sp0 _ (fromOf l) (askOf l) (readyOf l (askOf l)) 0 [] rfl (by rw [hp0]; omega) (by rw [hp0]; simp; omega) (inv_start hn sp) (asks_start hn hlen) hnd hrd k (by rw [hp0]; omega)
  have hR := ring_of hn g2 g3
  rw [hp0] at g4
  simp only [List.length_nil, Nat.zero_add] at g4
  have hgo : rowG k l sp = row4 k l sp 0 fr1 out1 := by
    unfold rowG
    rw [if_pos ⟨hlen, hok, hws⟩]
    unfold rowF
    rw [if_pos ((may_iff l sp).2 hm), g1]
    rfl
  rw [hgo]
  rcases row4_spec hn sp hm.sp0 hm.sp1 l.length 0 fr1 out1 rfl (by omega) g2 hR (fun i hi _ => absurd hi (by omega)) k (by omega) with ⟨h1, h2, h3⟩ | ⟨out2, c, h1, h2, h3, h4, h5⟩
  · exact .inl ⟨h1, h2, fr1, g2.sub, hR, h3⟩
  · refine .inr ⟨out2, c, h1, h2, by omega, by omega, fun hs => ?_⟩
    have : pn l fr1 = 0 := by unfold pn; rw [List.countP_eq_zero]; intro m hmm; rw [h5 hs]; simp
    omega

theorem rings_two {l : List S43} (hn : nod l) (h : Rings l) : 2 ≤ nbusy l := by
  obtain ⟨fr, hsub, hR, p, hp⟩ := h
  have e := some_of_mhas hp
  obtain ⟨m, hm, e1, e2, e3⟩ := hsub _ _ e
  obtain ⟨q, hq⟩ := mhas_iff.1 (hR.clo _ _ e)
  obtain ⟨m', hm', e1', e2', e3'⟩ := hsub _ _ hq
  unfold nbusy
  have hb : busy m = true := by unfold busy; rw [decide_eq_true_eq, e1, e2]; exact e3
  have hb' : busy m' = true := by unfold busy; rw [decide_eq_true_eq, e1', e2']; exact e3'
  rw [count_drop hn hm hb]
  have : 0 < l.countP (fun x => busy x && decide (x.f0 ≠ m.f0)) := by
    rw [List.countP_pos_iff]
    exact ⟨m', hm', by rw [hb', e1', e1]; simp; exact fun h => e3 h.symm⟩
  omega

/-! ### what Did makes of a list of places -/
theorem rd_set {xs : List Int} {i : Nat} {v p : Int} (hp : 0 ≤ p) (hi : i < xs.length) : rd (xs.set i v) p = if p = (i : Int) then v else rd xs p := by
  unfold rd
  rw [List.getD_eq_getElem?_getD, List.getElem?_set, List.getD_eq_getElem?_getD]
  by_cases h : p = (i : Int)
  · rw [if_pos h, if_pos (by omega), if_pos hi]; rfl
  · rw [if_neg h, if_neg (by omega)]
theorem did_exec {out : List S43} {n : Nat} (hin : ∀ m ∈ out, (0 ≤ m.f0 ∧ m.f0 < (n : Int)) ∧ (0 ≤ m.f1 ∧ m.f1 < (n : Int))) {xs : List Int} (hx : xs.length = n) :
    ∀ p, 0 ≤ p → p < (n : Int) → rd (didL out xs) p = exec out (fun q => rd xs q) p := by
  revert hin
  refine snoc_ind (P := fun out => (∀ m ∈ out, (0 ≤ m.f0 ∧ m.f0 < (n : Int)) ∧ (0 ≤ m.f1 ∧ m.f1 < (n : Int))) → ∀ p, 0 ≤ p → p < (n : Int) → rd (didL out xs) p = exec out (fun q => rd xs q) p) ?_ ?_ out
  · intro _ p _ _; rfl
  · intro out a ih hin p hp hp2
    have ih := ih (fun m hm => hin m (List.mem_append_left _ hm))
    obtain ⟨⟨a1, a2⟩, a3, a4⟩ := hin a (by simp)
    have hl : (didL out xs).length = n := by rw [didL_len, hx]
    rw [didL_snoc, exec_snoc]
    unfold stepD inB
    rw [hl, if_pos ⟨by simp [a1, a2], by simp [a3, a4]⟩, rd_set hp (by omega)]
    by_cases h : p = a.f0
    · rw [if_pos (by omega), h, upd_same]; exact ih _ a3 a4
    · rw [if_neg (by omega), upd_other h]; exact ih _ hp hp2
theorem list_ext_rd {xs ys : List Int} (hl : xs.length = ys.length) (h : ∀ i : Nat, i < xs.length → rd xs i = rd ys i) : xs = ys := by
  refine List.ext_getElem hl fun i h1 h2 => ?_
  have := h i h1
  unfold rd at this
  rw [Int.toNat_natCast, List.getD_eq_getElem?_getD, List.getD_eq_getElem?_getD, List.getElem?_eq_getElem h1, List.getElem?_eq_getElem h2] at this
  exact this
/-- 0 to n - 1. -/
def nums (n : Nat) : List Int := (List.range n).map fun (i : Nat) => (i : Int)
theorem nums_len (n : Nat) : (nums n).length = n := by simp [nums]
theorem rd_nums {n : Nat} {p : Int} (h0 : 0 ≤ p) (h1 : p < (n : Int)) : rd (nums n) p = p := by
  unfold rd nums
  rw [List.getD_eq_getElem?_getD, List.getElem?_map, List.getElem?_range (by omega)]
  simp; omega
theorem nums_snoc (n : Nat) : nums (n + 1) = nums n ++ [(n : Int)] := by unfold nums; rw [List.range_succ, List.map_append]; rfl

/-! ### the printed helpers -/
theorem same_go (xs : List Int) (hlen : xs.length ≤ 1000000000) : ∀ (d k : Nat) (i : Nat), i ≤ xs.length → xs.length - i = d → d < k → smithykit_SameInts.l0 k xs xs (i : Int) = some true := by
  intro d
  induction d with
  | zero =>
    intro k i h1 h2 h3
    obtain ⟨k, rfl⟩ : ∃ m, k = m + 1 := ⟨k - 1, by omega⟩
    rw [smithykit_SameInts.l0, if_neg (by omega)]
  | succ d ih =>
    intro k i h1 h2 h3
    obtain ⟨k, rfl⟩ : ∃ m, k = m + 1 := ⟨k - 1, by omega⟩
    rw [smithykit_SameInts.l0, if_pos (by omega), if_pos (by omega), if_pos (by omega), if_pos rfl, wrap64_small (by omega) (by omega)]
    exact ih k (i + 1) (by omega) (by omega) (by omega)
theorem same_true {xs ys : List Int} (h : xs = ys) (hlen : xs.length ≤ 1000000000) {k : Nat} (hk : xs.length < k) : smithykit_SameInts.f k xs ys = some true := by
  subst h
  unfold smithykit_SameInts.f
  rw [if_pos rfl]
  exact same_go xs hlen _ k 0 (Nat.zero_le _) rfl hk
theorem numbers_go (n : Nat) (hn : n ≤ 1000000) : ∀ (d k i : Nat), i ≤ n → n - i = d → d < k → smithylaw22_numbers.l0 k (n : Int) (nums i) (i : Int) = some (nums n) := by
  intro d
  induction d with
  | zero =>
    intro k i h1 h2 h3
    obtain ⟨k, rfl⟩ : ∃ m, k = m + 1 := ⟨k - 1, by omega⟩
    obtain rfl : i = n := by omega
    rw [smithylaw22_numbers.l0, if_neg (by omega)]
  | succ d ih =>
    intro k i h1 h2 h3
    obtain ⟨k, rfl⟩ : ∃ m, k = m + 1 := ⟨k - 1, by omega⟩
    rw [smithylaw22_numbers.l0, if_pos (by omega), if_pos (by rw [nums_len]; omega), wrap64_small (by omega) (by omega), ← nums_snoc]
    exact ih k (i + 1) (by omega) (by omega) (by omega)
theorem numbers_some {n : Nat} (hn : n ≤ 1000000) {k : Nat} (hk : n < k) : smithylaw22_numbers.f k (n : Int) = some (nums n) := numbers_go n hn n k 0 (Nat.zero_le _) rfl hk

theorem awake_true : ∀ k, 30 ≤ k → smithylaw22_awake.f k = some true := by
  have h : smithylaw22_awake.f 30 = some true := by decide +kernel
  intro k hk
  obtain ⟨d, rfl⟩ : ∃ d, k = 30 + d := ⟨k - 30, by omega⟩
  clear hk
  induction d with
  | zero => exact h
  | succ d ih => exact smithylaw22_awake.mono (30 + d) _ ih
end Go.Proofs.Ytchmddbenohmnaa.Mv
