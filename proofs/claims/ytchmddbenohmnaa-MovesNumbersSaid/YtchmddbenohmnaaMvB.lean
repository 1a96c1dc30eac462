/- Plain facts on moves: the first loop (what nobody asks any more is moved to), its invariant and what it leaves. No program. -/
import Derived.Test.YtchmddbenohmnaaMvA
namespace Go.Proofs.Ytchmddbenohmnaa.Mv
open Go.RowKit Go.Proofs.Ytchmddbenohmnaa.Mi Go.Proofs.Ytchmddbenohmnaa.F
set_option linter.unusedVariables false
set_option linter.unusedSimpArgs false

/-! ### pigeons -/
theorem perm_of_subset {P : List Int} : ∀ {Q : List Int}, P.Nodup → (∀ x ∈ P, x ∈ Q) → Q.length ≤ P.length → Q.Perm P := by
  induction P with
  | nil => intro Q _ _ h; have : Q = [] := List.eq_nil_of_length_eq_zero (by simpa using h); rw [this]
  | cons a r ih =>
    intro Q hn hs hl
    rw [List.nodup_cons] at hn
    have ha : a ∈ Q := hs a List.mem_cons_self
    have h1 : Q.Perm (a :: Q.erase a) := List.perm_cons_erase ha
    refine h1.trans (List.Perm.cons a (ih hn.2 ?_ ?_))
    · intro x hx
      have hne : x ≠ a := fun e => hn.1 (e ▸ hx)
      exact (List.mem_erase_of_ne hne).2 (hs x (List.mem_cons_of_mem _ hx))
    · have := h1.length_eq
      simp only [List.length_cons] at this hl
      omega
theorem length_le_of_subset {P : List Int} : ∀ {Q : List Int}, P.Nodup → (∀ x ∈ P, x ∈ Q) → P.length ≤ Q.length := by
  induction P with
  | nil => intro Q _ _; simp
  | cons a r ih =>
    intro Q hn hs
    rw [List.nodup_cons] at hn
    have ha : a ∈ Q := hs a List.mem_cons_self
    have h1 : Q.Perm (a :: Q.erase a) := List.perm_cons_erase ha
    have := ih (Q := Q.erase a) hn.2 (fun x hx => (List.mem_erase_of_ne (fun (e : x = a) => hn.1 (by rw [← e]; exact hx))).2 (hs x (List.mem_cons_of_mem _ hx)))
    have h2 := h1.length_eq
    simp only [List.length_cons] at h2 ⊢
    omega

/-- a place that a list or the spare names. -/
def nm (l : List S43) (sp p : Int) : Prop := (0 ≤ sp ∧ p = sp) ∨ ∃ m ∈ l, m.f0 = p ∨ m.f1 = p
/-- how many moves are pending. -/
def pn (l : List S43) (fr : Int → Option Int) : Nat := l.countP (fun m => mhas fr m.f0)

structure Inv (l : List S43) (sp : Int) (fr : Int → Option Int) (out : List S43) : Prop where
  sub : ∀ p q, fr p = some q → ∃ m ∈ l, m.f0 = p ∧ m.f1 = q ∧ p ≠ q
  keep : ∀ (σ : Int → Int) p q, fr p = some q → exec out σ p = σ p
  src : ∀ (σ : Int → Int) p q, fr p = some q → exec out σ q = σ q
  done : ∀ (σ : Int → Int) m, m ∈ l → mhas fr m.f0 = false → exec out σ m.f0 = σ m.f1
  rest : ∀ (σ : Int → Int) p, (∀ m ∈ l, m.f0 ≠ p) → p ≠ sp → exec out σ p = σ p
  names : ∀ m ∈ out, nm l sp m.f0 ∧ nm l sp m.f1

theorem Inv.mem {l : List S43} {sp : Int} {fr : Int → Option Int} {out : List S43} (h : Inv l sp fr out) (hn : nod l) {m : S43} (hm : m ∈ l) {q : Int} (e : fr m.f0 = some q) : m.f1 = q ∧ m.f0 ≠ m.f1 := by
  obtain ⟨m', hm', h1, h2, h3⟩ := h.sub _ _ e
  have := nod_uniq hn hm' hm h1
  subst this
  exact ⟨h2, by rw [h2]; exact h3⟩

theorem inv_start {l : List S43} (hn : nod l) (sp : Int) : Inv l sp (fromOf l) [] where
  sub := fun p q h => (fromOf_iff hn p q).1 h
  keep := fun σ p q _ => rfl
  src := fun σ p q _ => rfl
  done := fun σ m hm h => by
    by_cases e : m.f0 = m.f1
    · show σ m.f0 = σ m.f1; rw [e]
    · have : mhas (fromOf l) m.f0 = true := mhas_of ((fromOf_iff hn _ _).2 ⟨m, hm, rfl, rfl, e⟩)
      rw [h] at this; cases this
  rest := fun σ p _ _ => rfl
  names := fun m hm => by cases hm

theorem pn_start {l : List S43} (hn : nod l) : pn l (fromOf l) = l.countP busy := by
  refine countP_congr' fun m hm => ?_
  rw [Bool.eq_iff_iff, mhas_iff]
  constructor
  · rintro ⟨q, hq⟩
    obtain ⟨m', hm', h1, h2, h3⟩ := (fromOf_iff hn _ _).1 hq
    have := nod_uniq hn hm' hm h1
    subst this
    unfold busy; rw [decide_eq_true_eq, h2]; exact h3
  · intro h
    unfold busy at h; rw [decide_eq_true_eq] at h
    exact ⟨_, (fromOf_iff hn _ _).2 ⟨m, hm, rfl, rfl, h⟩⟩

theorem pn_del {l : List S43} (hn : nod l) {fr : Int → Option Int} {tp : Int} {m : S43} (hm : m ∈ l) (e : m.f0 = tp) (h : mhas fr tp = true) : pn l fr = pn l (mdel fr tp) + 1 := by
  subst e
  unfold pn
  rw [count_drop hn hm (P := fun m => mhas fr m.f0) h]
  congr 1
  exact countP_congr' fun x _ => (mhas_del _ _ _).symm

/-- a move to a pending place, out of a place that still is as it was. -/
theorem Inv.step {l : List S43} {sp : Int} {fr : Int → Option Int} {out : List S43} (h : Inv l sp fr out) (hn : nod l) {tp at_ : Int} (e : fr tp = some at_) (hno : ∀ p, fr p ≠ some tp) (hsp : ∀ m ∈ l, m.f0 ≠ sp) : Inv l sp (mdel fr tp) (out ++ [⟨tp, at_⟩]) where
  sub := fun p q hp => h.sub p q (mdel_some.1 hp).1
  keep := fun σ p q hp => by
    obtain ⟨h1, h2⟩ := mdel_some.1 hp
    rw [exec_snoc, upd_other h2]; exact h.keep σ p q h1
  src := fun σ p q hp => by
    obtain ⟨h1, h2⟩ := mdel_some.1 hp
    have : q ≠ tp := fun e => hno p (by rw [← e]; exact h1)
    rw [exec_snoc, upd_other this]; exact h.src σ p q h1
  done := fun σ m hm hp => by
    rw [exec_snoc]
    by_cases hto : m.f0 = tp
    · show upd _ tp _ m.f0 = _
      rw [hto, upd_same]
      show exec out σ at_ = σ m.f1
      rw [h.src σ tp at_ e, (h.mem hn hm (by rw [hto]; exact e)).1]
    · rw [upd_other hto]
      rw [mhas_del] at hp
      have : mhas fr m.f0 = false := by simpa [hto] using hp
      exact h.done σ m hm this
  rest := fun σ p hp hs => by
    obtain ⟨m, hm, h1, _⟩ := h.sub _ _ e
    have : p ≠ tp := fun e' => hp m hm (by rw [h1, e'])
    rw [exec_snoc, upd_other this]; exact h.rest σ p hp hs
  names := fun m hm => by
    rcases List.mem_append.1 hm with hm | hm
    · exact h.names m hm
    · rw [List.mem_singleton] at hm; subst hm
      obtain ⟨m, hm, h1, h2, _⟩ := h.sub _ _ e
      exact ⟨.inr ⟨m, hm, .inl h1⟩, .inr ⟨m, hm, .inr h2⟩⟩

def row3 : Nat → (Int → Option Int) → (Int → Option Int) → List Int → Nat → List S43 → Option ((Int → Option Int) × List S43)
  | 0, _, _, _, _, _ => none
  | k + 1, fr, am, rd, i, out =>
    if i < rd.length then if rd.length < 10000000 ∧ out.length < 10000000 then
      let tp := rd.getD i 0
      let at_ := mget fr tp
      let fr1 := mdel fr tp
      let as1 := mput am at_ (wrap64 (mget am at_ - 1))
      row3 k fr1 as1 (if mhas fr1 at_ = true ∧ mget as1 at_ = 0 then rd ++ [at_] else rd) (i + 1) (out ++ [⟨tp, at_⟩])
    else none else some (fr, out)

/-- how often a place is asked by what is pending. -/
def asks (l : List S43) (fr : Int → Option Int) (q : Int) : Nat := l.countP (fun m => mhas fr m.f0 && decide (m.f1 = q))
theorem asks_zero {l : List S43} {sp : Int} {fr : Int → Option Int} {out : List S43} (h : Inv l sp fr out) (hn : nod l) {q : Int} : asks l fr q = 0 ↔ ∀ p, fr p ≠ some q := by
  unfold asks
  rw [List.countP_eq_zero]
  constructor
  · intro h1 p e
    obtain ⟨m, hm, e1, e2, _⟩ := h.sub _ _ e
    exact h1 m hm (by simp [e1, mhas_of e, e2])
  · intro h1 m hm e
    rw [Bool.and_eq_true, decide_eq_true_eq] at e
    have h2 := some_of_mhas e.1
    rw [← (h.mem hn hm h2).1, e.2] at h2
    exact h1 _ h2
theorem asks_del {l : List S43} {sp : Int} {fr : Int → Option Int} {out : List S43} (h : Inv l sp fr out) (hn : nod l) {tp at_ : Int} (e : fr tp = some at_) (q : Int) : asks l fr q = asks l (mdel fr tp) q + if q = at_ then 1 else 0 := by
  obtain ⟨m, hm, e1, e2, _⟩ := h.sub _ _ e
  have hc : ∀ x : S43, (mhas (mdel fr tp) x.f0 && decide (x.f1 = q)) = ((mhas fr x.f0 && decide (x.f1 = q)) && decide (x.f0 ≠ m.f0)) := by
    intro x
    rw [mhas_del, e1]
    cases mhas fr x.f0 <;> cases decide (x.f1 = q) <;> simp
  unfold asks
  simp only [hc]
  by_cases hq : q = at_
  · rw [if_pos hq]
    exact count_drop hn hm (by rw [e1, mhas_of e, e2, hq]; simp)
  · rw [if_neg hq, Nat.add_zero]
    refine countP_congr' fun x hx => ?_
    by_cases hx0 : x.f0 = m.f0
    · have := nod_uniq hn hx hm hx0
      subst this
      have : decide (x.f1 = q) = false := by rw [decide_eq_false_iff_not, e2]; exact fun e => hq e.symm
      simp [this]
    · simp [hx0]

theorem row3_spec {l : List S43} (hn : nod l) (hlen : l.length ≤ 1000000) (sp : Int) (hsp : ∀ m ∈ l, m.f0 ≠ sp) : ∀ (n : Nat) (fr am : Int → Option Int) (rd : List Int) (i : Nat) (out : List S43),
    pn l fr = n → i + pn l fr ≤ 1000000 → out.length + pn l fr ≤ 1000000 → Inv l sp fr out → (∀ q, mget am q = (asks l fr q : Int)) → (rd.drop i).Nodup → (∀ p, p ∈ rd.drop i ↔ (mhas fr p = true ∧ asks l fr p = 0)) →
    ∀ k, n < k → ∃ fr1 out1, row3 k fr am rd i out = some (fr1, out1) ∧ Inv l sp fr1 out1 ∧ (∀ p, mhas fr1 p = true → ∃ p', fr1 p' = some p) ∧ out1.length + pn l fr1 = out.length + pn l fr ∧
      (∀ C : Int → Prop, (∀ p, C p → mhas fr p = true ∧ ∃ p', C p' ∧ fr p' = some p) → ∀ p, C p → fr1 p = fr p) ∧ (∀ p q, fr1 p = some q → fr p = some q) := by
  intro n
  induction n with
  | zero =>
    intro fr am rd i out hpn hb1 hb2 hI has hnd hrd k hk
    obtain ⟨k, rfl⟩ : ∃ m, k = m + 1 := ⟨k - 1, by omega⟩
    have hnone : ∀ p, mhas fr p = false := by
      intro p
      by_cases h : mhas fr p = true
      · obtain ⟨m, hm, e1, _⟩ := hI.sub _ _ (some_of_mhas h)
        unfold pn at hpn
        rw [List.countP_eq_zero] at hpn
        exact absurd (by rw [e1]; exact h) (hpn m hm)
      · simpa using h
    have hi : ¬ i < rd.length := by
      intro hi
      have : rd[i] ∈ rd.drop i := by rw [List.mem_drop_iff_getElem]; exact ⟨0, by omega, by simp⟩
      rw [hrd, hnone] at this; simp at this
    refine ⟨fr, out, ?_, hI, fun p hp => (by rw [hnone] at hp; cases hp), rfl, fun C _ p _ => rfl, fun p q h => h⟩
    rw [row3, if_neg hi]
  | succ n ih =>
    intro fr am rd i out hpn hb1 hb2 hI has hnd hrd k hk
    obtain ⟨k, rfl⟩ : ∃ m, k = m + 1 := ⟨k - 1, by omega⟩
    by_cases hi : i < rd.length
    · have hdrop : rd.drop i = rd[i] :: rd.drop (i + 1) := List.drop_eq_getElem_cons hi
      have hget : rd.getD i 0 = rd[i] := by rw [List.getD_eq_getElem?_getD, List.getElem?_eq_getElem hi]; rfl
      generalize hto : rd[i] = tp at hdrop hget
      have hmem : tp ∈ rd.drop i := by rw [hdrop]; exact List.mem_cons_self
      obtain ⟨hto1, hto2⟩ := (hrd tp).1 hmem
      have e := some_of_mhas hto1
      generalize hat : mget fr tp = at_ at e
      have hno := (asks_zero hI hn).1 hto2
      have hI1 := hI.step hn e hno hsp
      obtain ⟨m, hm, e1, e2, e3⟩ := hI.sub _ _ e
      have hpn1 := pn_del hn hm e1 hto1
      have hask := asks_del hI hn e
      have has1 : ∀ q, mget (mput am at_ (wrap64 (mget am at_ - 1))) q = (asks l (mdel fr tp) q : Int) := by
        intro q
        rw [mget_put]
        have h1 := hask q
        by_cases hq : q = at_
        · rw [if_pos hq] at h1 ⊢
          subst hq
          have h2 := has q
          have h3 : asks l fr q ≤ l.length := List.countP_le_length
          rw [wrap64_small (by omega) (by omega)]; omega
        · rw [if_neg hq] at h1 ⊢
          rw [has q]; omega
      have hnd1 : (rd.drop (i + 1)).Nodup := by rw [hdrop] at hnd; exact (List.nodup_cons.1 hnd).2
      have hto3 : tp ∉ rd.drop (i + 1) := by rw [hdrop] at hnd; exact (List.nodup_cons.1 hnd).1
      have hin : ∀ p, p ∈ rd.drop (i + 1) ↔ (p ≠ tp ∧ mhas fr p = true ∧ asks l fr p = 0) := by
        intro p
        have h1 := hrd p
        rw [hdrop, List.mem_cons] at h1
        constructor
        · intro h; have hne : p ≠ tp := fun e => hto3 (e ▸ h); exact ⟨hne, h1.1 (.inr h)⟩
        · rintro ⟨h2, h3⟩
          rcases h1.2 h3 with h | h
          · exact absurd h h2
          · exact h
      -- at_ is none of those that are ready: it is asked by tp
      have hat0 : asks l fr at_ ≠ 0 := by have := hask at_; rw [if_pos rfl] at this; omega
      have hlim : rd.length < 10000000 ∧ out.length < 10000000 := by
        have h1 : (rd.drop i).length ≤ ((l.filter (fun m => mhas fr m.f0)).map (·.f0)).length := by
          refine length_le_of_subset hnd fun x hx => ?_
          obtain ⟨hx1, _⟩ := (hrd x).1 hx
          obtain ⟨m, hm, e1, _⟩ := hI.sub _ _ (some_of_mhas hx1)
          exact List.mem_map.2 ⟨m, List.mem_filter.2 ⟨hm, by rw [e1]; exact hx1⟩, e1⟩
        rw [List.length_map, ← List.countP_eq_length_filter, List.length_drop] at h1
        have h2 : rd.length - i ≤ pn l fr := h1
        omega
      have hstep : row3 (k + 1) fr am rd i out = row3 k (mdel fr tp) (mput am at_ (wrap64 (mget am at_ - 1))) (if mhas (mdel fr tp) at_ = true ∧ mget (mput am at_ (wrap64 (mget am at_ - 1))) at_ = 0 then rd ++ [at_] else rd) (i + 1) (out ++ [⟨tp, at_⟩]) := by
        rw [row3, if_pos hi, if_pos hlim]
        simp only [hget, hat]
      rw [hstep]
      have hfin : ∀ rd1 : List Int, (rd1.drop (i + 1)).Nodup → (∀ p, p ∈ rd1.drop (i + 1) ↔ (mhas (mdel fr tp) p = true ∧ asks l (mdel fr tp) p = 0)) →
          ∃ fr1 out1, row3 k (mdel fr tp) (mput am at_ (wrap64 (mget am at_ - 1))) rd1 (i + 1) (out ++ [⟨tp, at_⟩]) = some (fr1, out1) ∧ Inv l sp fr1 out1 ∧ (∀ p, mhas fr1 p = true → ∃ p', fr1 p' = some p) ∧ out1.length + pn l fr1 = out.length + pn l fr ∧
          (∀ C : Int → Prop, (∀ p, C p → mhas fr p = true ∧ ∃ p', C p' ∧ fr p' = some p) → ∀ p, C p → fr1 p = fr p) ∧ (∀ p q, fr1 p = some q → fr p = some q) := by
        intro rd1 h1 h2
        obtain ⟨fr1, out1, g1, g2, g3, g4, g5, g6⟩ := ih (mdel fr tp) (mput am at_ (wrap64 (mget am at_ - 1))) rd1 (i + 1) (out ++ [⟨tp, at_⟩]) (by omega) (by omega) (by rw [List.length_append, List.length_singleton]; omega) hI1 has1 h1 h2 k (by omega)
        refine ⟨fr1, out1, g1, g2, g3, by rw [List.length_append, List.length_singleton] at g4; omega, ?_, fun p q h => (mdel_some.1 (g6 p q h)).1⟩
        intro C hC p hp
        have hCto : ∀ p, C p → p ≠ tp := by
          rintro p hp rfl
          obtain ⟨_, p', _, h⟩ := hC p hp
          exact hno p' h
        rw [g5 C (fun p hp => by
          obtain ⟨h1, p', h2, h3⟩ := hC p hp
          exact ⟨by rw [mhas_del, h1]; simp [hCto p hp], p', h2, mdel_some.2 ⟨h3, hCto p' h2⟩⟩) p hp]
        unfold mdel; rw [if_neg (hCto p hp)]
      by_cases hc : mhas (mdel fr tp) at_ = true ∧ mget (mput am at_ (wrap64 (mget am at_ - 1))) at_ = 0
      · rw [if_pos hc]
        have hdr : (rd ++ [at_]).drop (i + 1) = rd.drop (i + 1) ++ [at_] := by rw [List.drop_append_of_le_length (by omega)]
        obtain ⟨hc1, hc2⟩ := hc
        rw [has1] at hc2
        have hnat : at_ ∉ rd.drop (i + 1) := fun h => hat0 ((hin at_).1 h).2.2
        refine hfin _ ?_ ?_
        · rw [hdr, List.nodup_append]
          refine ⟨hnd1, by simp, ?_⟩
          intro a ha b hb
          rw [List.mem_singleton] at hb; subst hb
          exact fun e => hnat (e ▸ ha)
        · intro p
          rw [hdr, List.mem_append, List.mem_singleton, hin]
          constructor
          · rintro (⟨h1, h2, h3⟩ | rfl)
            · refine ⟨by rw [mhas_del, h2]; simp [h1], ?_⟩
              have := hask p; omega
            · exact ⟨hc1, by omega⟩
          · rintro ⟨h1, h2⟩
            rw [mhas_del, Bool.and_eq_true, decide_eq_true_eq] at h1
            by_cases hp : p = at_
            · exact .inr hp
            · have := hask p
              rw [if_neg hp] at this
              exact .inl ⟨h1.2, h1.1, by omega⟩
      · rw [if_neg hc]
        refine hfin _ hnd1 ?_
        intro p
        rw [hin]
        constructor
        · rintro ⟨h1, h2, h3⟩
          exact ⟨by rw [mhas_del, h2]; simp [h1], by have := hask p; omega⟩
        · rintro ⟨h1, h2⟩
          by_cases hp : p = at_
          · subst hp
            exact absurd ⟨h1, by rw [has1, h2]; rfl⟩ hc
          · rw [mhas_del, Bool.and_eq_true, decide_eq_true_eq] at h1
            have := hask p
            rw [if_neg hp] at this
            exact ⟨h1.2, h1.1, by omega⟩
    · have hd : rd.drop i = [] := List.drop_eq_nil_of_le (by omega)
      refine ⟨fr, out, by rw [row3, if_neg hi], hI, ?_, rfl, fun C _ p _ => rfl, fun p q h => h⟩
      intro p hp
      by_cases h : asks l fr p = 0
      · have := (hrd p).2 ⟨hp, h⟩
        rw [hd] at this; cases this
      · rw [asks_zero hI hn] at h
        simpa using h
end Go.Proofs.Ytchmddbenohmnaa.Mv
