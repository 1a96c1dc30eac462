/- Plain facts on moves: what is left is circles; they are gone round by the spare; what the whole row does. No program. -/
import Derived.Test.YtchmddbenohmnaaMvB
namespace Go.Proofs.Ytchmddbenohmnaa.Mv
open Go.RowKit Go.Proofs.Ytchmddbenohmnaa.Mi Go.Proofs.Ytchmddbenohmnaa.F
set_option linter.unusedVariables false
set_option linter.unusedSimpArgs false

/-! ### what is left is circles -/
/-- each pending place is asked by just one pending one. -/
structure Ring (fr : Int → Option Int) : Prop where
  clo : ∀ p q, fr p = some q → mhas fr q = true
  inj : ∀ p p' q, fr p = some q → fr p' = some q → p = p'

def pend (l : List S43) (fr : Int → Option Int) : List S43 := l.filter (fun m => mhas fr m.f0)
theorem pend_len (l : List S43) (fr : Int → Option Int) : (pend l fr).length = pn l fr := by unfold pend pn; rw [List.countP_eq_length_filter]
theorem ring_of {l : List S43} {sp : Int} {fr : Int → Option Int} {out : List S43} (hn : nod l) (h : Inv l sp fr out) (hs : ∀ p, mhas fr p = true → ∃ p', fr p' = some p) : Ring fr := by
  have hmem : ∀ p, p ∈ (pend l fr).map (·.f0) ↔ mhas fr p = true := by
    intro p
    rw [List.mem_map]
    constructor
    · rintro ⟨m, hm, rfl⟩; exact (List.mem_filter.1 hm).2
    · intro hp
      obtain ⟨m, hm, e1, _⟩ := h.sub _ _ (some_of_mhas hp)
      exact ⟨m, List.mem_filter.2 ⟨hm, by rw [e1]; exact hp⟩, e1⟩
  have hval : ∀ m ∈ pend l fr, fr m.f0 = some m.f1 := by
    intro m hm
    obtain ⟨h1, h2⟩ := List.mem_filter.1 hm
    have := some_of_mhas h2
    rw [← (h.mem hn h1 this).1] at this
    exact this
  have hnd : ((pend l fr).map (·.f0)).Nodup := List.Sublist.nodup (List.Sublist.map _ List.filter_sublist) hn
  have hsub : ∀ x ∈ (pend l fr).map (·.f0), x ∈ (pend l fr).map (·.f1) := by
    intro x hx
    obtain ⟨p', hp'⟩ := hs x ((hmem x).1 hx)
    obtain ⟨m, hm, e1, e2, _⟩ := h.sub _ _ hp'
    exact List.mem_map.2 ⟨m, List.mem_filter.2 ⟨hm, by rw [e1]; exact mhas_of hp'⟩, e2⟩
  have hperm := perm_of_subset hnd hsub (by simp)
  have hnd1 : ((pend l fr).map (·.f1)).Nodup := hperm.nodup_iff.2 hnd
  have hof : ∀ p q, fr p = some q → ∃ m ∈ pend l fr, m.f0 = p ∧ m.f1 = q := by
    intro p q e
    obtain ⟨m, hm, e1, e2, _⟩ := h.sub _ _ e
    exact ⟨m, List.mem_filter.2 ⟨hm, by rw [e1]; exact mhas_of e⟩, e1, e2⟩
  refine ⟨fun p q e => ?_, fun p p' q e e' => ?_⟩
  · obtain ⟨m, hm, e1, e2⟩ := hof p q e
    exact (hmem q).1 (hperm.mem_iff.1 (List.mem_map.2 ⟨m, hm, e2⟩))
  · obtain ⟨m, hm, e1, e2⟩ := hof p q e
    obtain ⟨m', hm', e1', e2'⟩ := hof p' q e'
    have key : ∀ (L : List S43), (L.map (·.f1)).Nodup → m ∈ L → m' ∈ L → m = m' := by
      intro L
      induction L with
      | nil => intro _ h1; cases h1
      | cons a r ih =>
        intro h1 h2 h3
        rw [List.map_cons, List.nodup_cons] at h1
        rcases List.mem_cons.1 h2 with g2 | g2
        · rcases List.mem_cons.1 h3 with g3 | g3
          · rw [g2, g3]
          · rw [← g2] at h1; exact absurd (List.mem_map.2 ⟨m', g3, e2'.trans e2.symm⟩) h1.1
        · rcases List.mem_cons.1 h3 with g3 | g3
          · rw [← g3] at h1; exact absurd (List.mem_map.2 ⟨m, g2, e2.trans e2'.symm⟩) h1.1
          · exact ih h1.2 g2 g3
    rw [← e1, ← e1', key _ hnd1 hm hm']

/-! ### a circle is gone round -/
def row5 : Nat → Int → Int → Int → (Int → Option Int) → List S43 → Option ((Int → Option Int) × List S43)
  | 0, _, _, _, _, _ => none
  | k + 1, c0, sp, tp, fr, out =>
    if ¬ out.length < 10000000 then none else if mget fr tp = c0 then some (mdel fr tp, out ++ [⟨tp, sp⟩])
    else row5 k c0 sp (mget fr tp) (mdel fr tp) (out ++ [⟨tp, mget fr tp⟩])

structure Go5 (l : List S43) (sp c0 tp : Int) (fr : Int → Option Int) (out : List S43) : Prop where
  sub : ∀ p q, fr p = some q → ∃ m ∈ l, m.f0 = p ∧ m.f1 = q ∧ p ≠ q
  keep : ∀ (σ : Int → Int) p q, fr p = some q → exec out σ p = σ p
  spv : ∀ σ : Int → Int, exec out σ sp = σ c0
  done : ∀ (σ : Int → Int) m, m ∈ l → mhas fr m.f0 = false → exec out σ m.f0 = σ m.f1
  rest : ∀ (σ : Int → Int) p, (∀ m ∈ l, m.f0 ≠ p) → p ≠ sp → exec out σ p = σ p
  names : ∀ m ∈ out, nm l sp m.f0 ∧ nm l sp m.f1
  inj : ∀ p p' q, fr p = some q → fr p' = some q → p = p'
  clo : ∀ p q, fr p = some q → mhas fr q = true ∨ q = c0
  pre : tp ≠ c0 → ∀ p, fr p ≠ some tp
  here : mhas fr tp = true

theorem Go5.inv {l : List S43} {sp c0 tp : Int} {fr : Int → Option Int} {out : List S43} (h : Go5 l sp c0 tp fr out) (hn : nod l) (hsp : ∀ m ∈ l, m.f0 ≠ sp) : Inv l sp fr out → True := fun _ => trivial

theorem row5_spec {l : List S43} (hn : nod l) (sp c0 : Int) (h0 : 0 ≤ sp) (hsp : ∀ m ∈ l, m.f0 ≠ sp) : ∀ (n : Nat) (tp : Int) (fr : Int → Option Int) (out : List S43),
    pn l fr = n → out.length + pn l fr ≤ 5000000 → Go5 l sp c0 tp fr out → ∀ k, n < k → ∃ fr1 out1, row5 k c0 sp tp fr out = some (fr1, out1) ∧ Inv l sp fr1 out1 ∧ Ring fr1 ∧ out1.length + pn l fr1 = out.length + pn l fr ∧
      pn l fr1 + 1 ≤ pn l fr ∧ (∀ p q, fr1 p = some q → fr p = some q) ∧ mhas fr1 tp = false := by
  intro n
  induction n with
  | zero =>
    intro tp fr out hpn hb hG k hk
    obtain ⟨m, hm, e1, _⟩ := hG.sub _ _ (some_of_mhas hG.here)
    unfold pn at hpn
    rw [List.countP_eq_zero] at hpn
    exact absurd (by rw [e1]; exact hG.here) (hpn m hm)
  | succ n ih =>
    intro tp fr out hpn hb hG k hk
    obtain ⟨k, rfl⟩ : ∃ m, k = m + 1 := ⟨k - 1, by omega⟩
    have e := some_of_mhas hG.here
    generalize hat : mget fr tp = at_ at e
    obtain ⟨m, hm, e1, e2, e3⟩ := hG.sub _ _ e
    have hpn1 := pn_del hn hm e1 hG.here
    have hdone : ∀ (v : Int), (∀ σ : Int → Int, exec out σ v = σ at_) → ∀ (σ : Int → Int) x, x ∈ l → mhas (mdel fr tp) x.f0 = false → exec (out ++ [⟨tp, v⟩]) σ x.f0 = σ x.f1 := by
      intro v hv σ x hx hp
      rw [exec_snoc]
      by_cases hto : x.f0 = tp
      · have : x = m := nod_uniq hn hx hm (hto.trans e1.symm)
        subst this
        show upd _ tp _ x.f0 = _
        rw [hto, upd_same, e2]
        exact hv σ
      · rw [upd_other hto]
        rw [mhas_del] at hp
        exact hG.done σ x hx (by simpa [hto] using hp)
    have hkeep : ∀ (v : Int) (σ : Int → Int) p q, mdel fr tp p = some q → exec (out ++ [⟨tp, v⟩]) σ p = σ p := by
      intro v σ p q hp
      obtain ⟨h1, h2⟩ := mdel_some.1 hp
      rw [exec_snoc, upd_other h2]; exact hG.keep σ p q h1
    have hrest : ∀ (v : Int) (σ : Int → Int) p, (∀ m ∈ l, m.f0 ≠ p) → p ≠ sp → exec (out ++ [⟨tp, v⟩]) σ p = σ p := by
      intro v σ p hp hs
      have : p ≠ tp := fun e' => hp m hm (by rw [e1, e'])
      rw [exec_snoc, upd_other this]; exact hG.rest σ p hp hs
    have hnames : ∀ v, nm l sp v → ∀ x ∈ out ++ [(⟨tp, v⟩ : S43)], nm l sp x.f0 ∧ nm l sp x.f1 := by
      intro v hv x hx
      rcases List.mem_append.1 hx with hx | hx
      · exact hG.names x hx
      · rw [List.mem_singleton] at hx; subst hx
        exact ⟨.inr ⟨m, hm, .inl e1⟩, hv⟩
    have hsub : ∀ p q, mdel fr tp p = some q → ∃ m ∈ l, m.f0 = p ∧ m.f1 = q ∧ p ≠ q := fun p q hp => hG.sub p q (mdel_some.1 hp).1
    have hinj : ∀ p p' q, mdel fr tp p = some q → mdel fr tp p' = some q → p = p' := fun p p' q h h' => hG.inj p p' q (mdel_some.1 h).1 (mdel_some.1 h').1
    by_cases hc : at_ = c0
    · refine ⟨mdel fr tp, out ++ [⟨tp, sp⟩], ?_, ?_, ?_, ?_, by omega, fun p q h => (mdel_some.1 h).1, by rw [mhas_del]; simp⟩
      · rw [row5, hat, if_neg (by omega), if_pos hc]
      · have hk2 : ∀ p q, mdel fr tp p = some q → mhas (mdel fr tp) q = true := by
          intro p q hp
          obtain ⟨h1, h2⟩ := mdel_some.1 hp
          have hqc : q ≠ c0 := by
            rintro rfl
            exact h2 (hG.inj p tp q h1 (by rw [e, hc]))
          have hq : mhas fr q = true := (hG.clo p q h1).resolve_right hqc
          have hqt : q ≠ tp := by
            intro e'
            by_cases ht : tp = c0
            · exact hqc (e'.trans ht)
            · exact hG.pre ht p (by rw [← e']; exact h1)
          rw [mhas_del, hq]; simp [hqt]
        exact ⟨hsub, hkeep sp, fun σ p q hp => hkeep sp σ q _ (some_of_mhas (hk2 p q hp)), hdone sp (fun σ => by rw [hG.spv, hc]), hrest sp, hnames sp (.inl ⟨h0, rfl⟩)⟩
      · refine ⟨fun p q hp => ?_, hinj⟩
        obtain ⟨h1, h2⟩ := mdel_some.1 hp
        have hqc : q ≠ c0 := by
          rintro rfl
          exact h2 (hG.inj p tp q h1 (by rw [e, hc]))
        have hq : mhas fr q = true := (hG.clo p q h1).resolve_right hqc
        have hqt : q ≠ tp := by
          intro e'
          by_cases ht : tp = c0
          · exact hqc (e'.trans ht)
          · exact hG.pre ht p (by rw [← e']; exact h1)
        rw [mhas_del, hq]; simp [hqt]
      · rw [List.length_append, List.length_singleton]; omega
    · have hath : mhas fr at_ = true := (hG.clo tp at_ e).resolve_right hc
      have hG1 : Go5 l sp c0 at_ (mdel fr tp) (out ++ [⟨tp, at_⟩]) := by
        refine ⟨hsub, hkeep at_, ?_, hdone at_ (fun σ => hG.keep σ at_ _ (some_of_mhas hath)), hrest at_, hnames at_ (.inr ⟨m, hm, .inr e2⟩), hinj, ?_, ?_, ?_⟩
        · intro σ
          have : sp ≠ tp := fun e' => hsp m hm (by rw [e1, e'])
          rw [exec_snoc, upd_other this]; exact hG.spv σ
        · intro p q hp
          obtain ⟨h1, h2⟩ := mdel_some.1 hp
          rcases hG.clo p q h1 with h | h
          · by_cases hqt : q = tp
            · right
              by_cases ht : tp = c0
              · exact hqt.trans ht
              · exact absurd (by rw [← hqt]; exact h1) (hG.pre ht p)
            · left; rw [mhas_del, h]; simp [hqt]
          · exact .inr h
        · intro _ p hp
          obtain ⟨h1, h2⟩ := mdel_some.1 hp
          exact h2 (hG.inj p tp at_ h1 e)
        · rw [mhas_del, hath]; simp; exact fun e' => e3 e'.symm
      obtain ⟨fr1, out1, g1, g2, g3, g4, g5, g6, g7⟩ := ih at_ (mdel fr tp) _ (by omega) (by rw [List.length_append, List.length_singleton]; omega) hG1 k (by omega)
      refine ⟨fr1, out1, ?_, g2, g3, by rw [List.length_append, List.length_singleton] at g4; omega, by omega, fun p q h => (mdel_some.1 (g6 p q h)).1, ?_⟩
      · rw [row5, hat, if_neg (by omega), if_neg hc]; exact g1
      · by_cases h : mhas fr1 tp = true
        · have := g6 _ _ (some_of_mhas h)
          exact absurd rfl (mdel_some.1 this).2
        · simpa using h

/-! ### all circles -/
def row4 : Nat → List S43 → Int → Nat → (Int → Option Int) → List S43 → Option (List S43 × Int)
  | 0, _, _, _, _, _ => none
  | k + 1, l, sp, j, fr, out =>
    if j < l.length then
      let m := rd_T43 l j
      if mhas fr m.f0 = true then
        if sp < 0 then some ([], 4)
        else if ¬ out.length < 10000000 then none else (row5 k m.f0 sp m.f0 fr (out ++ [⟨sp, m.f0⟩])).bind fun r => row4 k l sp (j + 1) r.1 r.2
      else row4 k l sp (j + 1) fr out
    else some (out, 0)

def rowF (k : Nat) (l : List S43) (sp : Int) : Option (List S43 × Int) :=
  if mayB l sp = true then (row3 k (fromOf l) (askOf l) (readyOf l (askOf l)) 0 []).bind fun r => row4 k l sp 0 r.1 r.2
  else some ([], 2)

theorem rd_mem {l : List S43} {j : Nat} (h : j < l.length) : rd_T43 l j ∈ l := by
  unfold rd_T43; rw [Int.toNat_natCast, List.getD_eq_getElem?_getD, List.getElem?_eq_getElem h]; exact List.getElem_mem h
theorem rd_eq {l : List S43} {j : Nat} (h : j < l.length) : rd_T43 l j = l[j] := by
  unfold rd_T43; rw [Int.toNat_natCast, List.getD_eq_getElem?_getD, List.getElem?_eq_getElem h]; rfl

theorem go5_start {l : List S43} (hn : nod l) {sp : Int} (h0 : 0 ≤ sp) (hsp : ∀ m ∈ l, m.f0 ≠ sp) (hsp1 : ∀ m ∈ l, m.f1 ≠ sp) {fr : Int → Option Int} {out : List S43} (h : Inv l sp fr out) (hR : Ring fr) {c0 : Int} (hc : mhas fr c0 = true) : Go5 l sp c0 c0 fr (out ++ [⟨sp, c0⟩]) := by
  have hne : ∀ p q, fr p = some q → p ≠ sp := by
    intro p q e
    obtain ⟨m, hm, e1, _⟩ := h.sub _ _ e
    rw [← e1]; exact hsp m hm
  refine ⟨h.sub, fun σ p q e => ?_, fun σ => ?_, fun σ m hm hp => ?_, fun σ p hp hs => ?_, fun m hm => ?_, hR.inj, fun p q e => .inl (hR.clo p q e), fun h => absurd rfl h, hc⟩
  · rw [exec_snoc, upd_other (hne p q e)]; exact h.keep σ p q e
  · rw [exec_snoc]; show upd _ sp _ sp = _; rw [upd_same]; exact h.keep σ c0 _ (some_of_mhas hc)
  · rw [exec_snoc, upd_other (hsp m hm)]; exact h.done σ m hm hp
  · rw [exec_snoc, upd_other hs]; exact h.rest σ p hp hs
  · rcases List.mem_append.1 hm with hm | hm
    · exact h.names m hm
    · rw [List.mem_singleton] at hm; subst hm
      obtain ⟨m, hm, e1, _⟩ := h.sub _ _ (some_of_mhas hc)
      exact ⟨.inl ⟨h0, rfl⟩, .inr ⟨m, hm, .inl e1⟩⟩

theorem row4_spec {l : List S43} (hn : nod l) (sp : Int) (hsp : ∀ m ∈ l, m.f0 ≠ sp) (hsp1 : ∀ m ∈ l, m.f1 ≠ sp) : ∀ (d j : Nat) (fr : Int → Option Int) (out : List S43), l.length - j = d → out.length + 2 * pn l fr ≤ 4000000 →
    Inv l sp fr out → Ring fr → (∀ i, i < j → i < l.length → mhas fr (rd_T43 l i).f0 = false) → ∀ k, l.length + d < k →
    (sp < 0 ∧ row4 k l sp j fr out = some ([], 4) ∧ ∃ p, mhas fr p = true) ∨
    (∃ out1 c, row4 k l sp j fr out = some (out1, 0) ∧ Inv l sp mnil out1 ∧ out1.length = out.length + pn l fr + c ∧ 2 * c ≤ pn l fr ∧ (sp < 0 → ∀ p, mhas fr p = false)) := by
  intro d
  induction d with
  | zero =>
    intro j fr out hd hb hI hR hpast k hk
    obtain ⟨k, rfl⟩ : ∃ m, k = m + 1 := ⟨k - 1, by omega⟩
    right
    have hnone : ∀ p, mhas fr p = false := by
      intro p
      by_cases h : mhas fr p = true
      · obtain ⟨m, hm, e1, _⟩ := hI.sub _ _ (some_of_mhas h)
        obtain ⟨i, hi, rfl⟩ := List.getElem_of_mem hm
        have := hpast i (by omega) hi
        rw [rd_eq hi, e1] at this; exact this
      · simpa using h
    have hfr : fr = mnil := by
      funext p
      have := hnone p
      unfold mhas at this
      unfold mnil
      cases hp : fr p with
      | none => rfl
      | some q => rw [hp] at this; simp at this
    have hp0 : pn l fr = 0 := by unfold pn; rw [List.countP_eq_zero]; intro m hm; rw [hnone]; simp
    refine ⟨out, 0, by rw [row4, if_neg (by omega)], hfr ▸ hI, by omega, by omega, fun _ => hnone⟩
  | succ d ih =>
    intro j fr out hd hb hI hR hpast k hk
    obtain ⟨k, rfl⟩ : ∃ m, k = m + 1 := ⟨k - 1, by omega⟩
    have hj : j < l.length := by omega
    by_cases hc : mhas fr (rd_T43 l j).f0 = true
    · by_cases hs : sp < 0
      · left
        exact ⟨hs, by rw [row4, if_pos hj]; simp only [hc, if_true, hs], _, hc⟩
      · right
        have hG := go5_start hn (by omega) hsp hsp1 hI hR hc
        have hle : pn l fr ≤ l.length := List.countP_le_length
        -- the first step by hand: a circle has two places at least
        obtain ⟨fr1, out1, g1, g2, g3, g4, g5, g6, g7⟩ := row5_spec hn sp _ (by omega) hsp _ _ fr _ rfl (by rw [List.length_append, List.length_singleton]; omega) hG k (by omega)
        have h2 : pn l fr1 + 2 ≤ pn l fr := by
          have e := some_of_mhas hc
          obtain ⟨m, hm, e1, e2, e3⟩ := hI.sub _ _ e
          have hq := hR.clo _ _ e
          obtain ⟨m', hm', e1', _⟩ := hI.sub _ _ (some_of_mhas hq)
          have a1 := pn_del hn hm e1 hc
          have a2 : mhas (mdel fr (rd_T43 l j).f0) (mget fr (rd_T43 l j).f0) = true := by rw [mhas_del, hq]; simp; exact fun e' => e3 e'.symm
          have a3 := pn_del hn hm' e1' a2
          have hnq : mhas fr1 (mget fr (rd_T43 l j).f0) = false := by
            by_cases h : mhas fr1 (mget fr (rd_T43 l j).f0) = true
            · obtain ⟨p', hp'⟩ : ∃ p', fr1 p' = some (mget fr (rd_T43 l j).f0) := by
                -- Ring fr1 has each pending one asked
                have hs1 : ∀ p, mhas fr1 p = true → ∃ p', fr1 p' = some p := by
                  intro p hp
                  have hmem : ∀ p, p ∈ (pend l fr1).map (·.f0) ↔ mhas fr1 p = true := by
                    intro p
                    rw [List.mem_map]
                    constructor
                    · rintro ⟨m, hm, rfl⟩; exact (List.mem_filter.1 hm).2
                    · intro hp
                      obtain ⟨m, hm, e1, _⟩ := g2.sub _ _ (some_of_mhas hp)
                      exact ⟨m, List.mem_filter.2 ⟨hm, by rw [e1]; exact hp⟩, e1⟩
                  have hval : ∀ m ∈ pend l fr1, fr1 m.f0 = some m.f1 := by
                    intro m hm
                    obtain ⟨h1, h2⟩ := List.mem_filter.1 hm
                    have := some_of_mhas h2
                    rw [← (g2.mem hn h1 this).1] at this
                    exact this
                  have hnd1 : ((pend l fr1).map (·.f1)).Nodup := by
                    have hnd0 : ((pend l fr1).map (·.f0)).Nodup := List.Sublist.nodup (List.Sublist.map _ List.filter_sublist) hn
                    have : ∀ L : List S43, (∀ m ∈ L, fr1 m.f0 = some m.f1) → (L.map (·.f0)).Nodup → (L.map (·.f1)).Nodup := by
                      intro L
                      induction L with
                      | nil => intro _ _; simp
                      | cons a r ih2 =>
                        intro h1 h2
                        rw [List.map_cons, List.nodup_cons] at h2 ⊢
                        refine ⟨?_, ih2 (fun m hm => h1 m (List.mem_cons_of_mem _ hm)) h2.2⟩
                        intro hx
                        obtain ⟨b, hb, eb⟩ := List.mem_map.1 hx
                        have := g3.inj a.f0 b.f0 a.f1 (h1 a List.mem_cons_self) (by rw [h1 b (List.mem_cons_of_mem _ hb)]; rw [show b.f1 = a.f1 from eb])
                        exact h2.1 (List.mem_map.2 ⟨b, hb, this.symm⟩)
                    exact this _ hval hnd0
                  have hsub : ∀ x ∈ (pend l fr1).map (·.f1), x ∈ (pend l fr1).map (·.f0) := by
                    intro x hx
                    obtain ⟨m, hm, rfl⟩ := List.mem_map.1 hx
                    exact (hmem _).2 (g3.clo _ _ (hval m hm))
                  have hperm := perm_of_subset hnd1 hsub (by simp)
                  obtain ⟨m, hm, e⟩ := List.mem_map.1 (hperm.mem_iff.1 ((hmem p).2 hp))
                  exact ⟨m.f0, by rw [hval m hm]; rw [show m.f1 = p from e]⟩
                exact hs1 _ h
              have hp2 := g6 _ _ hp'
              have := hR.inj _ _ _ hp2 e
              rw [this] at hp'
              rw [mhas_of hp'] at g7; cases g7
            · simpa using h
          have : pn l fr1 ≤ pn l (mdel (mdel fr (rd_T43 l j).f0) (mget fr (rd_T43 l j).f0)) := by
            refine countP_le' fun x hx h => ?_
            rw [mhas_del, mhas_del]
            have hx1 := g6 _ _ (some_of_mhas h)
            have n1 : x.f0 ≠ (rd_T43 l j).f0 := fun e' => by rw [e', g7] at h; cases h
            have n2 : x.f0 ≠ mget fr (rd_T43 l j).f0 := fun e' => by rw [e', hnq] at h; cases h
            rw [mhas_of hx1]; simp [n1, n2]
          omega
        have hpast1 : ∀ i, i < j + 1 → i < l.length → mhas fr1 (rd_T43 l i).f0 = false := by
          intro i hi hil
          by_cases h : mhas fr1 (rd_T43 l i).f0 = true
          · have h1 := mhas_of (g6 _ _ (some_of_mhas h))
            by_cases hij : i = j
            · subst hij; rw [g7] at h; cases h
            · rw [hpast i (by omega) hil] at h1; cases h1
          · simpa using h
        rw [List.length_append, List.length_singleton] at g4
        rcases ih (j + 1) fr1 out1 (by omega) (by omega) g2 g3 hpast1 k (by omega) with ⟨h1, _⟩ | ⟨out2, c, r1, r2, r3, r4, r5⟩
        · exact absurd h1 hs
        · refine ⟨out2, c + 1, ?_, r2, ?_, by omega, fun h => absurd h hs⟩
          · rw [row4, if_pos hj]
            simp only [hc, if_true, hs, if_false, g1, Option.bind_some]
            rw [if_neg (by omega)]
            exact r1
          · omega
    · have hc' : mhas fr (rd_T43 l j).f0 = false := by simpa using hc
      have hstep : row4 (k + 1) l sp j fr out = row4 k l sp (j + 1) fr out := by
        rw [row4, if_pos hj]; simp [hc']
      rw [hstep]
      refine ih (j + 1) fr out (by omega) hb hI hR ?_ k (by omega)
      intro i hi hil
      by_cases hij : i = j
      · subst hij; exact hc'
      · exact hpast i (by omega) hil
end Go.Proofs.Ytchmddbenohmnaa.Mv
