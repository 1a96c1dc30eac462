/- Texts of this proof, joined in build order: Ed, Ro. -/
import Derived.Test.YtanhnfhpajaolaaDoorJ09
import Derived.Test.YtanhnfhpajaolaaDoorJ10
/- What live.Live's sets are in the end: each is what it is asked to be. -/
namespace Go.Proofs.YtanhnfhpajaolaaDoor.Fo
open Go Go.RowKit Go.Proofs.YtanhnfhpajaolaaDoorW.PrintWords Go.Proofs.YtanhnfhpajaolaaDoorW.PrintLast Go.Proofs.YtanhnfhpajaolaaDoorW.PrintMore Go.Proofs.YtanhnfhpajaolaaDoor.F Go.Proofs.YtanhnfhpajaolaaDoor.Cf Go.Proofs.YtanhnfhpajaolaaDoor.Sc
set_option linter.unusedVariables false
set_option linter.unusedSimpArgs false
theorem rd_set (o : List (List Int)) (a i : Nat) (s : List Int) (ha : a < o.length) : rd_L2 (o.set a s) (i : Int) = if i = a then s else rd_L2 o (i : Int) := by
  unfold rd_L2
  rw [Int.toNat_natCast, List.getD_eq_getElem?_getD, List.getD_eq_getElem?_getD]
  by_cases e : i = a
  · subst e
    rw [if_pos rfl, List.getElem?_set_self ha]; rfl
  · rw [if_neg e, List.getElem?_set_ne (fun h => e h.symm)]
theorem putI_in {n : Nat} {s : List Int} (h : setOk n s) (v : Int) (h0 : 0 ≤ v) (hv : v < 64 * (n : Int)) (u : Nat) : inS (putG s v) u = (decide ((u : Int) = v) || inS s u) := by
  obtain ⟨k, rfl⟩ := Int.eq_ofNat_of_zero_le h0
  rw [put_in h k (by omega) u]
  congr 1
  exact decide_eq_decide.2 ⟨fun h => by omega, fun h => by omega⟩
def big (n : Nat) (l : List Int) : Prop := ∀ v ∈ l, 0 ≤ v ∧ v < 64 * (n : Int)
theorem phiA_in {n N : Nat} {row : List Int} (hr : okRow N row) (i u : Nat) : ∀ (args : List Int) (k : Nat) (o : List (List Int)), big n args → args.length + k ≤ row.length → okL n N o →
    (inS (rd_L2 (phiA row k args o) i) u = true ↔ inS (rd_L2 o i) u = true ∨ ∃ j, ∃ h : j < args.length, args[j] = (u : Int) ∧ rd row ((k + j : Nat) : Int) = (i : Int))
  | [], k, o, _, _, h => by
    rw [phiA]
    simp
  | v :: t, k, o, hv, hk, h => by
    rw [phiA]
    have hk1 : t.length + 1 + k ≤ row.length := by simpa using hk
    obtain ⟨a, b⟩ := rd_row hr k (by omega)
    obtain ⟨v0, v1⟩ := hv v (by simp)
    have hso := okL_rd h _ a b
    rw [phiA_in hr i u t (k + 1) _ (fun x hx => hv x (by simp [hx])) (by omega) (okL_set h _ (putG_okI hso v v0))]
    rw [rd_set _ _ _ _ (by rw [h.1]; omega)]
    have hx : (inS (if i = (rd row (k : Int)).toNat then putG (rd_L2 o (rd row k)) v else rd_L2 o i) u = true) ↔ (inS (rd_L2 o i) u = true ∨ v = (u : Int) ∧ rd row (k : Int) = (i : Int)) := by
      by_cases e : i = (rd row (k : Int)).toNat
      · have e2 : rd row (k : Int) = (i : Int) := by omega
        rw [if_pos e, putI_in hso v v0 v1 u, e2]
        simp only [Bool.or_eq_true, decide_eq_true_eq, and_true]
        constructor
        · rintro (h | h)
          · exact .inr h.symm
          · exact .inl h
        · rintro (h | h)
          · exact .inr h
          · exact .inl h.symm
      · rw [if_neg e]
        have e2 : ¬ rd row (k : Int) = (i : Int) := by omega
        simp [e2]
    rw [hx]
    constructor
    · rintro ((h | ⟨h1, h2⟩) | ⟨j, hj, h1, h2⟩)
      · exact .inl h
      · exact .inr ⟨0, by simp, h1, h2⟩
      · exact .inr ⟨j + 1, by simpa using hj, h1, by rw [← h2]; congr 1; omega⟩
    · rintro (h | ⟨j, hj, h1, h2⟩)
      · exact .inl (.inl h)
      · cases j with
        | zero => exact .inl (.inr ⟨h1, h2⟩)
        | succ j => exact .inr ⟨j, by simpa using hj, h1, by rw [← h2]; congr 1; omega⟩
/-- A phi of these instructions asks u for the block i. -/
def asksPhi (row : List Int) (ins : List S49) (i u : Nat) : Prop := ∃ x ∈ ins, x.f0 = 1 ∧ ∃ j, ∃ h : j < x.f3.length, x.f3[j] = (u : Int) ∧ rd row (j : Int) = (i : Int)
def okPhi2 (n : Nat) (row : List Int) (ins : List S49) : Prop := ∀ x ∈ ins, x.f0 = 1 → x.f3.length = row.length ∧ big n x.f3
theorem phiB_in {n N : Nat} {row : List Int} (hr : okRow N row) (i u : Nat) : ∀ (ins : List S49) (o : List (List Int)), okPhi2 n row ins → okL n N o → (inS (rd_L2 (phiB row ins o) i) u = true ↔ inS (rd_L2 o i) u = true ∨ asksPhi row ins i u)
  | [], o, _, h => by
    rw [phiB]
    simp [asksPhi]
  | x :: xs, o, hx, h => by
    rw [phiB]
    have hok : okL n N (if x.f0 = 1 then phiA row 0 x.f3 o else o) := by
      split
      · rename_i e
        obtain ⟨h1, h2⟩ := hx x (by simp) e
        exact phiA_ok hr _ 0 _ (fun v hv => (h2 v hv).1) (by omega) h
      · exact h
    rw [phiB_in hr i u xs _ (fun y hy => hx y (by simp [hy])) hok]
    have e : (inS (rd_L2 (if x.f0 = 1 then phiA row 0 x.f3 o else o) i) u = true) ↔ (inS (rd_L2 o i) u = true ∨ x.f0 = 1 ∧ ∃ j, ∃ h : j < x.f3.length, x.f3[j] = (u : Int) ∧ rd row (j : Int) = (i : Int)) := by
      by_cases e : x.f0 = 1
      · obtain ⟨h1, h2⟩ := hx x (by simp) e
        rw [if_pos e, phiA_in hr i u x.f3 0 o h2 (by omega) h]
        simp only [Nat.zero_add, e, true_and]
      · rw [if_neg e]
        simp [e]
    rw [e]
    unfold asksPhi
    constructor
    · rintro ((h | h) | ⟨y, hy, h⟩)
      · exact .inl h
      · exact .inr ⟨x, by simp, h⟩
      · exact .inr ⟨y, by simp [hy], h⟩
    · rintro (h | ⟨y, hy, h⟩)
      · exact .inl (.inl h)
      · rcases List.mem_cons.1 hy with rfl | hy
        · exact .inl (.inr h)
        · exact .inr ⟨y, hy, h⟩
theorem phiAll_in {n N : Nat} (i u : Nat) : ∀ (rs : List (List Int)) (bs : List S43) (o : List (List Int)), (∀ (k : Nat) (h1 : k < rs.length) (h2 : k < bs.length), okRow N rs[k] ∧ okPhi2 n rs[k] bs[k].f0) → okL n N o →
    (inS (rd_L2 (phiAll rs bs o) i) u = true ↔ inS (rd_L2 o i) u = true ∨ ∃ k, ∃ h1 : k < rs.length, ∃ h2 : k < bs.length, asksPhi rs[k] bs[k].f0 i u)
  | [], _, o, _, h => by rw [phiAll]; simp; simp
  | r :: rs, [], o, _, h => by rw [phiAll]; simp; simp
  | r :: rs, b :: bs, o, hx, h => by
    rw [phiAll]
    have h0 : okRow N r ∧ okPhi2 n r b.f0 := hx 0 (by simp) (by simp)
    have hok : okL n N (phiB r b.f0 o) := phiB_ok h0.1 b.f0 o (fun x hx1 e => ⟨(h0.2 x hx1 e).1, fun v hv => ((h0.2 x hx1 e).2 v hv).1⟩) h
    rw [phiAll_in i u rs bs _ (fun k h1 h2 => hx (k + 1) (by simpa using h1) (by simpa using h2)) hok, phiB_in h0.1 i u b.f0 o h0.2 h]
    constructor
    · rintro ((h | h) | ⟨k, h1, h2, h⟩)
      · exact .inl h
      · exact .inr ⟨0, by simp, by simp, h⟩
      · exact .inr ⟨k + 1, by simpa using h1, by simpa using h2, h⟩
    · rintro (h | ⟨k, h1, h2, h⟩)
      · exact .inl (.inl h)
      · cases k with
        | zero => exact .inl (.inr h)
        | succ k => exact .inr ⟨k, by simpa using h1, by simpa using h2, h⟩
theorem nextJ_in {n N : Nat} {into : List (List Int)} (hi : okL n N into) (u : Nat) (hu : u < 64 * n) : ∀ (ks : List Int) (p : List Int × Bool), (∀ k ∈ ks, 0 ≤ k ∧ k < (N : Int)) → setOk n p.1 →
    (inS (nextJ into (zerosG n) ks p).1 u = true ↔ inS p.1 u = true ∨ ∃ k ∈ ks, inS (rd_L2 into k) u = true)
  | [], p, _, _ => by rw [nextJ]; simp
  | k :: ks, p, hk, hp => by
    rw [nextJ, hp.1]
    have hr := okL_rd hi k (hk k (by simp)).1 (hk k (by simp)).2
    rw [nextJ_in hi u hu ks _ (fun z hz => hk z (by simp [hz])) (joinP_ok hp hr (zeros_ok n)), join_in hp hr (zeros_ok n) u hu, zeros_in]
    simp [or_assoc]
/-- Nothing new: the set stays. -/
theorem join_same {n : Nat} {s a l : List Int} (hs : setOk n s) (ha : setOk n a) (hl : setOk n l) (h : joinQ s a l n = false) : joinP s a l n = s := by
  have hlen := hs.1
  subst hlen
  apply List.ext_getElem
  · rw [joinP_len]
  · intro i h1 h2
    have hz : jw (rd a i) (rd l i) (rd s i) = 0 := by
      unfold joinQ at h
      rw [List.any_eq_false] at h
      have := h i (List.mem_range.2 h2)
      simpa using this
    simp only [joinP, List.getElem_mapIdx, h2, if_true]
    unfold jo
    rw [← rd_get _ h2, hz]
    obtain ⟨x, hx, hxl⟩ := word_nat (getD_ok hs i)
    rw [rd_getD, hx]
    have := or_u64 x 0 hxl (by decide)
    simpa using this
theorem nextJ_false {n N : Nat} {into : List (List Int)} (hi : okL n N into) : ∀ (ks : List Int) (p : List Int × Bool), (∀ k ∈ ks, 0 ≤ k ∧ k < (N : Int)) → setOk n p.1 → (nextJ into (zerosG n) ks p).2 = false →
    p.2 = false ∧ (nextJ into (zerosG n) ks p).1 = p.1 ∧ ∀ k ∈ ks, leS n (rd_L2 into k) p.1
  | [], p, _, _, h => ⟨h, rfl, by simp⟩
  | k :: ks, p, hk, hp, h => by
    rw [nextJ, hp.1] at h ⊢
    have hr := okL_rd hi k (hk k (by simp)).1 (hk k (by simp)).2
    obtain ⟨h1, h2, h3⟩ := nextJ_false hi ks _ (fun z hz => hk z (by simp [hz])) (joinP_ok hp hr (zeros_ok n)) h
    simp only [Bool.or_eq_false_iff] at h1
    have hs := join_same hp hr (zeros_ok n) h1.1
    refine ⟨h1.2, by rw [h2]; exact hs, fun z hz => ?_⟩
    simp only [hs] at h3
    rcases List.mem_cons.1 hz with rfl | hz
    · intro u hu hin
      cases e : inS p.1 u with
      | true => rfl
      | false =>
        have := (joinQ_in hp hr (zeros_ok n)).2 ⟨u, hu, hin, zeros_in n u, e⟩
        rw [h1.1] at this
        cases this
    · exact h3 z hz
section
variable {bs : List S43} {does i0 o0 : List (List Int)} {n : Nat}
/-- What holds all the while. -/
structure InvE (bs : List S43) (n : Nat) (i0 o0 : List (List Int)) (s : List (List Int) × List (List Int) × Bool) : Prop where
  ok : okS n bs.length s
  ins : ∀ i u : Nat, i < bs.length → u < 64 * n → inS (rd_L2 s.1 i) u = true → inS (rd_L2 i0 i) u = true ∨ inS (rd_L2 s.2.1 i) u = true
  outs : ∀ i u : Nat, i < bs.length → u < 64 * n → inS (rd_L2 s.2.1 i) u = true → inS (rd_L2 o0 i) u = true ∨ ∃ k ∈ nextOf bs i, inS (rd_L2 s.1 k) u = true
  ge : ∀ i u : Nat, i < bs.length → u < 64 * n → inS (rd_L2 o0 i) u = true → inS (rd_L2 s.2.1 i) u = true
  ge2 : ∀ i u : Nat, i < bs.length → u < 64 * n → inS (rd_L2 i0 i) u = true → inS (rd_L2 s.1 i) u = true
  src : ∀ i u : Nat, i < bs.length → u < 64 * n → inS (rd_L2 s.1 i) u = true ∨ inS (rd_L2 s.2.1 i) u = true → ∃ j, j < bs.length ∧ (inS (rd_L2 i0 j) u = true ∨ inS (rd_L2 o0 j) u = true)
theorem inv_start (h1 : okL n bs.length i0) (h2 : okL n bs.length o0) (c : Bool) : InvE bs n i0 o0 (i0, o0, c) where
  ok := ⟨h1, h2⟩
  ins _ _ _ _ h := .inl h
  outs _ _ _ _ h := .inl h
  ge _ _ _ _ h := h
  ge2 _ _ _ _ h := h
  src i u hi _ h := ⟨i, hi, h⟩
theorem inv_flag {s : List (List Int) × List (List Int) × Bool} (h : InvE bs n i0 o0 s) (c : Bool) : InvE bs n i0 o0 (s.1, s.2.1, c) := ⟨h.ok, h.ins, h.outs, h.ge, h.ge2, h.src⟩
theorem inv_step (hb : okN bs) (hd : okL n bs.length does) (i : Nat) (hi : i < bs.length) {s : List (List Int) × List (List Int) × Bool} (h : InvE bs n i0 o0 s) : InvE bs n i0 o0 (stepJ bs does (zerosG n) i s) := by
  have hok := (step_cnt hb hd (zeros_ok n) i hi s h.ok).1
  obtain ⟨h1, h2⟩ := h.ok
  have hi1 : i < s.1.length := by rw [h1.1]; exact hi
  have hi2 : i < s.2.1.length := by rw [h2.1]; exact hi
  have ho := okL_rd h2 (i : Int) (by omega) (by omega)
  have hin := okL_rd h1 (i : Int) (by omega) (by omega)
  have hdo := okL_rd hd (i : Int) (by omega) (by omega)
  have hp := (next_cnt h1 (zeros_ok n) (nextOf bs i) (rd_L2 s.2.1 i, s.2.2) (hb i hi) ho).1
  have hx := fun u hu => nextJ_in h1 u hu (nextOf bs i) (rd_L2 s.2.1 i, s.2.2) (hb i hi) ho
  unfold stepJ at hok ⊢
  simp only [hin.1] at hok ⊢
  generalize hpe : nextJ s.1 (zerosG n) (nextOf bs i) (rd_L2 s.2.1 i, s.2.2) = p at hok hp hx ⊢
  have hO : ∀ j u : Nat, u < 64 * n → (inS (rd_L2 (s.2.1.set i p.1) j) u = true ↔ inS (rd_L2 s.2.1 j) u = true ∨ j = i ∧ ∃ k ∈ nextOf bs i, inS (rd_L2 s.1 k) u = true) := by
    intro j u hu
    rw [rd_set _ _ _ _ hi2]
    by_cases e : j = i
    · subst e
      rw [if_pos rfl, hx u hu]
      simp
    · rw [if_neg e]
      simp [e]
  have hI : ∀ j u : Nat, u < 64 * n → (inS (rd_L2 (s.1.set i (joinP (rd_L2 s.1 i) p.1 (rd_L2 does i) n)) j) u = true ↔ inS (rd_L2 s.1 j) u = true ∨ j = i ∧ (inS p.1 u = true ∧ inS (rd_L2 does i) u = false)) := by
    intro j u hu
    rw [rd_set _ _ _ _ hi1]
    by_cases e : j = i
    · subst e
      rw [if_pos rfl, join_in hin hp hdo u hu]
      simp
    · rw [if_neg e]
      simp [e]
  have hIk : ∀ (k : Int) (u : Nat), 0 ≤ k → u < 64 * n → inS (rd_L2 s.1 k) u = true → inS (rd_L2 (s.1.set i (joinP (rd_L2 s.1 i) p.1 (rd_L2 does i) n)) k) u = true := by
    intro k u hk hu hh
    obtain ⟨m, rfl⟩ := Int.eq_ofNat_of_zero_le hk
    exact (hI m u hu).2 (.inl hh)
  constructor
  · exact hok
  · intro j u hj hu hh
    rcases (hI j u hu).1 hh with h3 | ⟨rfl, h3, _⟩
    · rcases h.ins j u hj hu h3 with h4 | h4
      · exact .inl h4
      · exact .inr ((hO j u hu).2 (.inl h4))
    · right
      simp only
      rw [rd_set _ _ _ _ hi2, if_pos rfl]
      exact h3
  · intro j u hj hu hh
    rcases (hO j u hu).1 hh with h3 | ⟨rfl, k, hk, h3⟩
    · rcases h.outs j u hj hu h3 with h4 | ⟨k, hk, h4⟩
      · exact .inl h4
      · exact .inr ⟨k, hk, hIk k u (hb j hj k hk).1 hu h4⟩
    · exact .inr ⟨k, hk, hIk k u (hb j hj k hk).1 hu h3⟩
  · intro j u hj hu hh
    exact (hO j u hu).2 (.inl (h.ge j u hj hu hh))
  · intro j u hj hu hh
    exact (hI j u hu).2 (.inl (h.ge2 j u hj hu hh))
  · intro j u hj hu hh
    have hs : ∀ k : Int, 0 ≤ k → k < (bs.length : Int) → inS (rd_L2 s.1 k) u = true → ∃ j, j < bs.length ∧ (inS (rd_L2 i0 j) u = true ∨ inS (rd_L2 o0 j) u = true) := by
      intro k h0 h1 h3
      obtain ⟨m, rfl⟩ := Int.eq_ofNat_of_zero_le h0
      exact h.src m u (by omega) hu (.inl h3)
    rcases hh with hh | hh
    · rcases (hI j u hu).1 hh with h3 | ⟨rfl, h3, _⟩
      · exact h.src j u hj hu (.inl h3)
      · rcases (hx u hu).1 h3 with h4 | ⟨k, hk, h4⟩
        · exact h.src j u hj hu (.inr h4)
        · exact hs k (hb j hj k hk).1 (hb j hj k hk).2 h4
    · rcases (hO j u hu).1 hh with h3 | ⟨rfl, k, hk, h3⟩
      · exact h.src j u hj hu (.inr h3)
      · exact hs k (hb j hj k hk).1 (hb j hj k hk).2 h3
theorem inv_pass (hb : okN bs) (hd : okL n bs.length does) : ∀ (i : Nat) (s : List (List Int) × List (List Int) × Bool), i ≤ bs.length → InvE bs n i0 o0 s → InvE bs n i0 o0 (passJ bs does (zerosG n) i s)
  | 0, s, _, h => h
  | i + 1, s, hi, h => by
    rw [passJ]
    exact inv_pass hb hd i _ (by omega) (inv_step hb hd i (by omega) h)
theorem set_rd (l : List (List Int)) (i : Nat) (h : i < l.length) : l.set i (rd_L2 l i) = l := by
  rw [rdL2_get h]
  exact List.set_getElem_self h
/-- A pass that changes nothing: all is closed. -/
theorem pass_false (hb : okN bs) (hd : okL n bs.length does) : ∀ (i : Nat) (s : List (List Int) × List (List Int) × Bool), i ≤ bs.length → okS n bs.length s → (passJ bs does (zerosG n) i s).2.2 = false →
    s.2.2 = false ∧ passJ bs does (zerosG n) i s = s ∧ ∀ j, j < i → ∀ k ∈ nextOf bs j, leS n (rd_L2 s.1 k) (rd_L2 s.2.1 j)
  | 0, s, _, _, h => ⟨h, rfl, fun j hj => absurd hj (Nat.not_lt_zero j)⟩
  | i + 1, s, hi, hs, h => by
    rw [passJ] at h ⊢
    have hok := (step_cnt hb hd (zeros_ok n) i (by omega) s hs).1
    obtain ⟨k1, k2, k3⟩ := pass_false hb hd i _ (by omega) hok h
    obtain ⟨h1, h2⟩ := hs
    have hi1 : i < s.1.length := by rw [h1.1]; omega
    have hi2 : i < s.2.1.length := by rw [h2.1]; omega
    have ho := okL_rd h2 (i : Int) (by omega) (by omega)
    have hin := okL_rd h1 (i : Int) (by omega) (by omega)
    have hdo := okL_rd hd (i : Int) (by omega) (by omega)
    have hp := (next_cnt h1 (zeros_ok n) (nextOf bs i) (rd_L2 s.2.1 i, s.2.2) (hb i (by omega)) ho).1
    have hf := nextJ_false h1 (nextOf bs i) (rd_L2 s.2.1 i, s.2.2) (hb i (by omega)) ho
    have hse : stepJ bs does (zerosG n) i s = (s.1, s.2.1, false) ∧ s.2.2 = false ∧ ∀ k ∈ nextOf bs i, leS n (rd_L2 s.1 k) (rd_L2 s.2.1 i) := by
      unfold stepJ at k1 ⊢
      simp only [hin.1] at k1 ⊢
      generalize hpe : nextJ s.1 (zerosG n) (nextOf bs i) (rd_L2 s.2.1 i, s.2.2) = p at k1 hp hf ⊢
      simp only [Bool.or_eq_false_iff] at k1
      obtain ⟨f1, f2, f3⟩ := hf k1.2
      rw [f2] at k1 ⊢
      rw [join_same hin ho hdo k1.1, k1.1, k1.2, set_rd _ _ hi1, set_rd _ _ hi2]
      exact ⟨rfl, f1, f3⟩
    obtain ⟨e1, e2, e3⟩ := hse
    rw [e1] at k2 k3 ⊢
    refine ⟨e2, ?_, fun j hj => ?_⟩
    · rw [k2]
      obtain ⟨a, b, c⟩ := s
      simp only at e2
      rw [e2]
    · by_cases hji : j = i
      · subst hji
        exact e3
      · exact k3 j (by omega)
theorem loop_end (hb : okN bs) (hd : okL n bs.length does) : ∀ (f : Nat) (s r : List (List Int) × List (List Int)), InvE bs n i0 o0 (s.1, s.2, false) → loopJ bs does (zerosG n) f s = some r →
    InvE bs n i0 o0 (r.1, r.2, false) ∧ ∀ j, j < bs.length → ∀ k ∈ nextOf bs j, leS n (rd_L2 r.1 k) (rd_L2 r.2 j)
  | 0, s, r, _, h => by rw [loopJ] at h; cases h
  | f + 1, s, r, hi, h => by
    rw [loopJ] at h
    have hp := inv_pass (i0 := i0) (o0 := o0) hb hd bs.length (s.1, s.2, false) (Nat.le_refl _) hi
    split at h
    · exact loop_end hb hd f _ r (inv_flag hp false) h
    · rename_i hc
      obtain rfl := Option.some.inj h
      have hc : (passJ bs does (zerosG n) bs.length (s.1, s.2, false)).2.2 = false := by simpa using hc
      obtain ⟨_, e, h3⟩ := pass_false hb hd bs.length (s.1, s.2, false) (Nat.le_refl _) hi.ok hc
      rw [e]
      exact ⟨hi, h3⟩
end
end Go.Proofs.YtanhnfhpajaolaaDoor.Fo
/- live.Live: the rows that it hands back. -/
namespace Go.Proofs.YtanhnfhpajaolaaDoor.Fo
open Go Go.RowKit Go.Proofs.YtanhnfhpajaolaaDoorW.PrintWords Go.Proofs.YtanhnfhpajaolaaDoorW.PrintLast Go.Proofs.YtanhnfhpajaolaaDoorW.PrintMore Go.Proofs.YtanhnfhpajaolaaDoor.F Go.Proofs.YtanhnfhpajaolaaDoor.Cf Go.Proofs.YtanhnfhpajaolaaDoor.Sc
set_option linter.unusedVariables false
set_option linter.unusedSimpArgs false
/-- k rows of these are told in the made row at g, each of its own, below nb. -/
def Rst (base : Nat) (w : World) (g : Nat) (xs : List (List Int)) (N k nb : Nat) : Prop := ∃ cs : Array Value, w.heap[g]? = some (.cells cs 22 (0, 0)) ∧ cs.size = N ∧ (∀ i, i < k → ∃ v, cs[i]? = some v ∧ Kd.R (Kd.int .i64) 3 w base (fun _ => True) v (xs.getD i []) ∧ ∀ b, v.ownBlock = some b → b < nb) ∧ ∀ i j vi vj b, i < k → j < k → cs[i]? = some vi → cs[j]? = some vj → vi.ownBlock = some b → vj.ownBlock = some b → i = j
theorem hty3 : ∀ q, q ∈ 3 :: (Kd.int .i64).E → q ≠ 22 := by
  intro q hq
  have : q = 3 := by simpa [Kd.int, Kd.scalar] using hq
  omega
theorem Rst.zero {base nb : Nat} {w : World} {g N : Nat} (xs : List (List Int)) (h : w.heap[g]? = some (.cells (nils N) 22 (0, 0))) : Rst base w g xs N 0 nb := ⟨nils N, h, nils_size N, fun i hi => absurd hi (Nat.not_lt_zero i), fun i _ _ _ _ hi => absurd hi (Nat.not_lt_zero i)⟩
theorem Rst.below {base nb : Nat} {w W : World} {g : Nat} {xs : List (List Int)} {N k : Nat} (h : Rst base w g xs N k nb) (hb : Below w.heap.size w W) : Rst base W g xs N k nb := by
  obtain ⟨cs, h1, h2, h3, h6⟩ := h
  exact ⟨cs, blk_below h1 hb, h2, fun i hi => by
    obtain ⟨v, h4, h5, h7⟩ := h3 i hi
    exact ⟨v, h4, Kd.R_below h5 hb, h7⟩, h6⟩
theorem Rst.fresh {base nb : Nat} {w : World} {g : Nat} {xs : List (List Int)} {N k : Nat} (h : Rst base w g xs N k nb) : Rst base w g xs N k w.heap.size := by
  obtain ⟨cs, h1, h2, h3, h6⟩ := h
  exact ⟨cs, h1, h2, fun i hi => by
    obtain ⟨v, h4, h5, h7⟩ := h3 i hi
    exact ⟨v, h4, h5, Kd.R_lt h5⟩, h6⟩
theorem Rst.put {base nb nb' : Nat} {w : World} {g : Nat} {xs : List (List Int)} {N k : Nat} (h : Rst base w g xs N k nb) (hk : k < N) {v : Value} (hr : Kd.R (Kd.int .i64) 3 w base (fun _ => True) v (xs.getD k [])) (h0 : ∀ b, v.ownBlock = some b → nb ≤ b) (h1' : ∀ b, v.ownBlock = some b → b < nb') (hnb : nb ≤ nb') : Rst base (w.setCell ⟨g, k, none⟩ v) g xs N (k + 1) nb' := by
  obtain ⟨cs, h1, h2, h3, h6⟩ := h
  have hat : ∀ i, i < k + 1 → (cs.setIfInBounds k v)[i]? = if i = k then some v else cs[i]? := fun i hi => by
    by_cases e : i = k
    · subst e
      rw [Array.getElem?_setIfInBounds_self, if_pos (by rw [h2]; exact hk), if_pos rfl]
    · rw [Array.getElem?_setIfInBounds_ne (fun h => e h.symm), if_neg e]
  refine ⟨_, blk_put h1 k v rfl, by simpa using h2, fun i hi => ?_, fun i j vi vj b hi hj hvi hvj hbi hbj => ?_⟩
  · rw [hat i hi]
    by_cases e : i = k
    · subst e
      exact ⟨v, if_pos rfl, Kd.R_set hr h1 hty3 _ _, h1'⟩
    · obtain ⟨u, h4, h5, h7⟩ := h3 i (by omega)
      exact ⟨u, by rw [if_neg e]; exact h4, Kd.R_set h5 h1 hty3 _ _, fun b hb => Nat.lt_of_lt_of_le (h7 b hb) hnb⟩
  · rw [hat i hi] at hvi
    rw [hat j hj] at hvj
    have old : ∀ m u, m < k + 1 → m ≠ k → cs[m]? = some u → u.ownBlock = some b → b < nb := fun m u hm hne hu hbu => by
      obtain ⟨u', h4, _, h7⟩ := h3 m (by omega)
      rw [hu] at h4
      injection h4 with h4
      subst h4
      exact h7 b hbu
    by_cases e : i = k
    · rw [if_pos e] at hvi
      injection hvi with hvi
      subst hvi
      by_cases e2 : j = k
      · omega
      · rw [if_neg e2] at hvj
        have := old j vj hj e2 hvj hbj
        have := h0 b hbi
        omega
    · rw [if_neg e] at hvi
      by_cases e2 : j = k
      · rw [if_pos e2] at hvj
        injection hvj with hvj
        subst hvj
        have := old i vi hi e hvi hbi
        have := h0 b hbj
        omega
      · rw [if_neg e2] at hvj
        exact h6 i j vi vj b (by omega) (by omega) hvi hvj hbi hbj
theorem Rst.other {base nb : Nat} {w : World} {g g' : Nat} {xs : List (List Int)} {N k : Nat} (h : Rst base w g xs N k nb) {cs' : Array Value} (hg : w.heap[g']? = some (.cells cs' 22 (0, 0))) (hne : g ≠ g') (j : Nat) (v : Value) : Rst base (w.setCell ⟨g', j, none⟩ v) g xs N k nb := by
  obtain ⟨cs, h1, h2, h3, h6⟩ := h
  refine ⟨cs, (Below.heap_setCell w _ _ _ hne).trans h1, h2, fun i hi => ?_, h6⟩
  obtain ⟨u, h4, h5, h7⟩ := h3 i hi
  exact ⟨u, h4, Kd.R_set h5 hg hty3 _ _, h7⟩
theorem Rst.done {base nb : Nat} {w : World} {g : Nat} {xs : List (List Int)} {N : Nat} (h : Rst base w g xs N N nb) (hN : xs.length = N) (hl : N ≤ 1099511627776) (hb : base ≤ g) {g' : Nat} {cs' : Array Value} (hg' : w.heap[g']? = some (.cells cs' 22 (0, 0))) (hne : g ≠ g') : Kd.S (Kd.slice 3 (Kd.int .i64)) 22 w base (fun k => some k ≠ (Value.slice (some ⟨g', 0, none⟩) N N).ownBlock) (.slice (some ⟨g, 0, none⟩) N N) xs := by
  classical
  obtain ⟨cs, h1, h2, h3, h6⟩ := h
  subst hN
  have hz : (Kd.slice 3 (Kd.int .i64)).sz = 1 := rfl
  obtain ⟨f, hf⟩ : ∃ f : Nat → Nat, ∀ i v b, i < xs.length → cs[i]? = some v → v.ownBlock = some b → f b = i := by
    refine ⟨fun b => if h : ∃ i, i < xs.length ∧ ∃ v, cs[i]? = some v ∧ v.ownBlock = some b then Classical.choose h else 0, fun i v b hi hv hbv => ?_⟩
    have hx : ∃ i, i < xs.length ∧ ∃ v, cs[i]? = some v ∧ v.ownBlock = some b := ⟨i, hi, v, hv, hbv⟩
    simp only [dif_pos hx]
    obtain ⟨hi2, v2, hv2, hb2⟩ := Classical.choose_spec hx
    exact h6 _ _ v2 v b hi2 hi hv2 hv hb2 hbv
  have hcl : cs.toList.length = xs.zipIdx.length * 1 := by rw [Nat.mul_one, List.length_zipIdx, Array.length_toList]; exact h2
  refine ⟨f, fun k hk => ?_, cs.toList, ⟨hcl, .inr ⟨g, xs.length, cs, by rw [List.length_zipIdx], hb, h1, by rw [List.length_zipIdx]; exact Nat.le_refl _, by simp [maxLen]; omega, by rw [show (Kd.tag f (Kd.slice 3 (Kd.int .i64))).sz = 1 from rfl, Nat.mul_one]; exact h2, ?_⟩⟩, hcl, fun j p hj => ?_⟩
  · have hk : g = k := by simpa [Value.ownBlock] using hk
    subst hk
    simpa [Value.ownBlock] using hne
  · rw [show xs.zipIdx.length * (Kd.tag f (Kd.slice 3 (Kd.int .i64))).sz = cs.toList.length from hcl.symm]
    exact List.take_length
  · obtain ⟨x, i⟩ := p
    have hjl : j < xs.length := by
      have := (List.getElem?_eq_some_iff.1 hj).1
      simpa using this
    have hxi : xs[j] = x ∧ j = i := by
      rw [List.getElem?_zipIdx, List.getElem?_eq_getElem hjl] at hj
      simpa using hj
    obtain ⟨rfl, rfl⟩ := hxi
    obtain ⟨v, h4, h5, h7⟩ := h3 j hjl
    have hp : xs.getD j [] = xs[j] := by rw [List.getD_eq_getElem?_getD, List.getElem?_eq_getElem hjl]; rfl
    rw [hp] at h5
    refine ⟨v, ?_, ?_⟩
    · rw [show (Kd.tag f (Kd.slice 3 (Kd.int .i64))).sz = 1 from rfl, Nat.mul_one]
      apply List.ext_getElem?
      intro i
      cases i with
      | zero => simpa using h4
      | succ i => simp [List.getElem?_take]
    · have e1 : ∀ k, some k = v.ownBlock → k ≠ g := fun k hk e => Kd.R_ne h5 h1 (by decide) (by rw [← e]; exact hk)
      have e2 : ∀ k, some k = v.ownBlock → k ≠ g' := fun k hk e => Kd.R_ne h5 hg' (by decide) (by rw [← e]; exact hk)
      refine Kd.R_mono (Kd.R_tight rfl h5) (fun k hk => ?_)
      have hk' : some k = v.ownBlock := hk
      exact ⟨⟨by simpa [Value.ownBlock] using e2 k hk', by simpa [Value.ownBlock] using e1 k hk'⟩, hf j v k hjl h4 hk'.symm⟩
theorem list_l0 (s : List Int) (n nv : Nat) (hs : s.length = n) (hn : n ≤ 35184372088832) (hv : nv < 64 * n) (hv2 : nv ≤ 281474976710656) (d : Nat) : ∀ (k i : Nat) (acc : List Int), i + d = nv → acc.length ≤ i → d < k → nv < 17592186044416 →
    live_set_list.l0 k s acc (nv : Int) (i : Int) = some (acc ++ ((List.range' i d).filter fun v : Nat => hasG s (v : Int)).map fun v : Nat => (v : Int)) := by
  induction d with
  | zero =>
    intro k i acc hi ha hk hl
    obtain ⟨k, rfl⟩ : ∃ m, k = m + 1 := ⟨k - 1, by omega⟩
    rw [live_set_list.l0, if_neg (by omega)]
    simp
  | succ d ih =>
    intro k i acc hi ha hk hl
    obtain ⟨k, rfl⟩ : ∃ m, k = m + 1 := ⟨k - 1, by omega⟩
    rw [live_set_list.l0, if_pos (by omega), has_some s (i : Int) (by omega) (by rw [hs]; omega) (by rw [hs]; omega), Option.bind_some, wrap_small (by omega) (by omega), List.range'_succ]
    have e : ((i : Int) + 1) = ((i + 1 : Nat) : Int) := by omega
    cases hb : hasG s (i : Int) with
    | true =>
      rw [if_pos rfl, if_pos (by omega), e, ih k (i + 1) _ (by omega) (by simp; omega) (by omega) hl]
      simp [hb]
    | false =>
      rw [if_neg (by decide), e, ih k (i + 1) _ (by omega) (by omega) (by omega) hl]
      simp [hb]
theorem list_calls (n nv : Nat) (A : Option Addr) (c : Nat) (s : List Int) (w : World) (hs : s.length = n) (hn : n ≤ 35184372088832) (hv : nv < 64 * n) (hl : nv < 17592186044416) (hr : Kd.C (Kd.int .u64) w A s.length s) (hc : s.length ≤ c) :
    Calls Tryd.prog 51 #[.slice A n c, .int .i64 (nv : Int)] w fun e w' => ∃ v, e = .returned v ∧ Kd.R (Kd.int .i64) 3 w' w.heap.size (fun _ => True) v (listG nv s) ∧ Below w.heap.size w w' := by
  have h0 := list_l0 s n nv hs hn hv (by omega) nv (nv + 1) 0 [] (by omega) (by simp) (by omega) hl
  have e : (List.range' 0 nv) = List.range nv := List.range_eq_range'.symm
  rw [e, List.nil_append] at h0
  have := live_set_list.calls (nv + 1) A c s (nv : Int) (listG nv s) w hr hc h0
  rw [hs] at this
  exact this
theorem dl2 (W : World) (o1 o2 : Obj) : ((W.alloc o1).alloc o2).drew.heap[W.heap.size + 1]? = some o2 := by
  have := blk_new (W.alloc o1) o2
  rw [size_al] at this
  exact this
theorem dl1 (W : World) (o1 o2 : Obj) : ((W.alloc o1).alloc o2).drew.heap[W.heap.size]? = some o1 := by
  have := blk_below (blk_new W o1) (below_alloc (Below.refl _ _) o2)
  exact this
theorem below2_ (W : World) (o1 o2 : Obj) : Below W.heap.size W ((W.alloc o1).alloc o2).drew := below_drew (below_alloc (below_alloc (Below.refl _ _) _) _)
theorem getD_map {f : List Int → List Int} {l : List (List Int)} {N k : Nat} (hl : l.length = N) (hk : k < N) : (l.map f).getD k [] = f (rd_L2 l (k : Int)) := by
  rw [rdL2_get (by omega), List.getD_eq_getElem?_getD, List.getElem?_map, List.getElem?_eq_getElem (by omega)]
  rfl
/-- Two rows of rows of the call's own are written: the sets stay. -/
theorem Sta.write2 {w0 w : World} {bx : Array Value} {G : Nat → Nat} {B : Nat → Nat → Nat} {gN : Nat} {I O D : List (List Int)} {N n : Nat} (h : Sta w0 w bx G B gN I O D N n) (h0 : w0.heap.size ≤ w.heap.size) {ga gb : Nat} (hla : w0.heap.size ≤ ga) (hlb : w0.heap.size ≤ gb) {ca cb : Array Value} (hga : w.heap[ga]? = some (.cells ca 22 (0, 0))) (k : Nat) (u v : Value) (hgb : (w.setCell ⟨ga, k, none⟩ u).heap[gb]? = some (.cells cb 22 (0, 0))) :
    Sta w0 ((w.setCell ⟨ga, k, none⟩ u).setCell ⟨gb, k, none⟩ v) bx G B gN I O D N n := by
  have one : ∀ {w : World} {g : Nat} {c : Array Value} (u : Value), Sta w0 w bx G B gN I O D N n → w0.heap.size ≤ g → w.heap[g]? = some (.cells c 22 (0, 0)) → Sta w0 (w.setCell ⟨g, k, none⟩ u) bx G B gN I O D N n := by
    intro w g c u h hl hg
    have hk : Kept w (w.setCell ⟨g, k, none⟩ u) (fun b => b = g) := Kept.setCell (p := ⟨g, k, none⟩) (Kept.refl w (fun b => b = g)) (.inl rfl) u
    have hbx := h.b.box
    refine ⟨⟨h.b.st.kept hk (fun a ha e => ?_) (fun a i ha hi e => ?_), h.b.low.setCell hl u, blk_kept hbx hk (fun e => ?_)⟩, Kd.R_kept h.none_ hk (fun b e1 e2 => ?_), h.apart⟩
    · obtain ⟨cs, hc, _⟩ := h.b.st.outer a ha
      rw [e, hg] at hc
      injection hc with h1
      injection h1 with _ h2
      exact absurd h2 (by decide)
    · exact Kd.R_ne (h.b.st.own a i ha hi) hg (by decide) (by rw [← e]; rfl)
    · rw [e, hg] at hbx
      injection hbx with h1
      injection h1 with _ h2
      exact absurd h2 (by decide)
    · exact Kd.R_ne h.none_ hg (by decide) (by rw [← e2, e1]; rfl)
  exact one v (one u h hla hga) hlb hgb
end Go.Proofs.YtanhnfhpajaolaaDoor.Fo
