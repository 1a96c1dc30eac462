/- Texts of this proof, joined in build order: Tj. -/
import Derived.Lib.SlicesCompact
set_option linter.unusedVariables false
set_option linter.unusedSimpArgs false
set_option linter.unusedSectionVars false
set_option maxHeartbeats 8000000
set_option maxRecDepth 100000
namespace Go.Proofs.YtligpleningglaaGreat.Tarjan
inductive Re (nx : Nat → List Nat) : Nat → Nat → Prop
  | refl (a : Nat) : Re nx a a
  | step {a b c : Nat} : Re nx a b → c ∈ nx b → Re nx a c
theorem Re.trans {nx : Nat → List Nat} {a b c : Nat} (h : Re nx a b) (k : Re nx b c) : Re nx a c := by
  induction k with
  | refl => exact h
  | step _ e ih => exact .step ih e
theorem Re.edge {nx : Nat → List Nat} {a b : Nat} (h : b ∈ nx a) : Re nx a b := .step (.refl a) h
def up (f : Nat → Nat) (i v : Nat) : Nat → Nat := fun j => if j = i then v else f j
theorem up_same (f : Nat → Nat) (i v : Nat) : up f i v i = v := by simp [up]
theorem up_other {f : Nat → Nat} {i v j : Nat} (h : j ≠ i) : up f i v j = f j := by simp [up, h]
structure T where
  wh : Nat → Nat
  lo : Nat → Nat
  row : List Nat
  way : List (Nat × Nat)
  parts : List (List Nat)
  n : Nat
def meetP (i : Nat) (s : T) : T := { s with n := s.n + 1, wh := up s.wh i (s.n + 1), lo := up s.lo i (s.n + 1), row := s.row ++ [i], way := (i, 0) :: s.way }
def lowQ (lo : Nat → Nat) (i : Nat) : List (Nat × Nat) → Nat → Nat
  | (u, _) :: _ => up lo u (min (lo u) (lo i))
  | [] => lo
def lowP (i : Nat) (s : T) : Nat → Nat := lowQ s.lo i s.way.tail
def leaveP (cmp : List Nat → List Nat) (i : Nat) (s : T) : T :=
  if lowP i s i ≠ s.wh i then { s with way := s.way.tail, lo := lowP i s }
  else { s with way := s.way.tail, lo := lowP i s, row := s.row.takeWhile (fun j => j != i), parts := s.parts ++ [cmp (s.row.dropWhile (fun j => j != i))] }
def roundP (cmp : List Nat → List Nat) (nx : Nat → List Nat) (s : T) : T := match s.way with
  | [] => s
  | (v, k) :: r =>
    if k = (nx v).length then leaveP cmp v s
    else
      let to := (nx v).getD k 0
      let s1 : T := { s with way := (v, k + 1) :: r }
      if s.wh to = 0 then meetP to s1 else if to ∈ s.row then { s1 with lo := up s.lo v (min (s.lo v) (s.wh to)) } else s1
def prog (nx : Nat → List Nat) (s : T) (y : Nat) : Nat := match s.way.find? (fun p => p.1 == y) with
  | some p => p.2
  | none => (nx y).length
def Ex (nx : Nat → List Nat) (s : T) (y x : Nat) : Prop := x ∈ (nx y).take (prog nx s y)
def Hd (s : T) (y w : Nat) : Prop := (∃ k, (w, k) ∈ s.way) ∧ s.wh w ≤ s.wh y ∧ ∀ w' k, (w', k) ∈ s.way → s.wh w' ≤ s.wh y → s.wh w' ≤ s.wh w
structure Inv (nx : Nat → List Nat) (N : Nat) (s : T) : Prop where
  dom : ∀ v, s.wh v ≠ 0 → v < N
  top : ∀ v, s.wh v ≤ s.n
  rw_ : s.row.Pairwise (fun a b => s.wh a < s.wh b)
  met : ∀ v, s.wh v ≠ 0 ↔ v ∈ s.row ∨ ∃ l ∈ s.parts, v ∈ l
  dis : ∀ v, v ∈ s.row → ∀ l ∈ s.parts, v ∉ l
  wy : s.way.Pairwise (fun a b => s.wh b.1 < s.wh a.1)
  wr : ∀ p ∈ s.way, p.1 ∈ s.row ∧ p.2 ≤ (nx p.1).length
  ch : s.way.Pairwise (fun a b => Re nx b.1 a.1)
  ex : ∀ y, s.wh y ≠ 0 → ∀ x, Ex nx s y x → s.wh x ≠ 0
  le : ∀ v ∈ s.row, s.lo v ≤ s.wh v
  snd : ∀ v ∈ s.row, ∃ x ∈ s.row, s.wh x = s.lo v ∧ Re nx v x
  fin : ∀ v ∈ s.row, (∀ k, (v, k) ∉ s.way) → s.lo v < s.wh v
  hd : ∀ y ∈ s.row, ∃ w, Hd s y w ∧ Re nx w y
  cm : ∀ y ∈ s.row, ∀ x ∈ s.row, Ex nx s y x → ∀ w, Hd s y w → s.lo w ≤ s.wh x
  cl : ∀ (i : Nat) (l : List Nat) (v x : Nat), s.parts[i]? = some l → v ∈ l → x ∈ nx v → ∃ (j : Nat) (m : List Nat), j ≤ i ∧ s.parts[j]? = some m ∧ x ∈ m
  sc : ∀ l ∈ s.parts, l ≠ [] ∧ ∀ a ∈ l, ∀ b ∈ l, Re nx a b
  pd : ∀ (i j : Nat) (l m : List Nat), s.parts[i]? = some l → s.parts[j]? = some m → i ≠ j → ∀ v ∈ l, v ∉ m
section
variable {nx : Nat → List Nat} {N : Nat} {s : T}
def gray (s : T) (w : Nat) : Prop := ∃ k, (w, k) ∈ s.way
theorem Inv.inj (I : Inv nx N s) {a b : Nat} (ha : a ∈ s.row) (hb : b ∈ s.row) (h : s.wh a = s.wh b) : a = b := by
  obtain ⟨i, hi, rfl⟩ := List.getElem_of_mem ha
  obtain ⟨j, hj, rfl⟩ := List.getElem_of_mem hb
  have hp := List.pairwise_iff_getElem.1 I.rw_
  rcases Nat.lt_trichotomy i j with h1 | h1 | h1
  · have := hp i j hi hj h1; omega
  · subst h1; rfl
  · have := hp j i hj hi h1; omega
theorem Inv.gr (I : Inv nx N s) {w : Nat} (h : gray s w) : w ∈ s.row := by
  obtain ⟨k, hk⟩ := h
  exact (I.wr _ hk).1
theorem Inv.hd_one (I : Inv nx N s) {y w w' : Nat} (h : Hd s y w) (h' : Hd s y w') : w = w' := by
  obtain ⟨⟨k, hk⟩, h1, h2⟩ := h
  obtain ⟨⟨k', hk'⟩, h1', h2'⟩ := h'
  have a1 := h2 w' k' hk' h1'
  have a2 := h2' w k hk h1
  exact I.inj (I.gr ⟨k, hk⟩) (I.gr ⟨k', hk'⟩) (by omega)
theorem Inv.hd_self (I : Inv nx N s) {w : Nat} (h : gray s w) : Hd s w w := ⟨h, Nat.le_refl _, fun _ _ _ h => h⟩
theorem Inv.way_re (I : Inv nx N s) {a b : Nat} (ha : gray s a) (hb : gray s b) (h : s.wh a ≤ s.wh b) : Re nx a b := by
  obtain ⟨k, hk⟩ := ha
  obtain ⟨k', hk'⟩ := hb
  obtain ⟨i, hi, e⟩ := List.getElem_of_mem hk
  obtain ⟨j, hj, e'⟩ := List.getElem_of_mem hk'
  rcases Nat.lt_trichotomy i j with h1 | h1 | h1
  · have := List.pairwise_iff_getElem.1 I.wy i j hi hj h1
    rw [e, e'] at this
    have h2 : s.wh b < s.wh a := this
    omega
  · subst h1
    rw [e] at e'
    injection e' with e1 _
    subst e1
    exact .refl _
  · have := List.pairwise_iff_getElem.1 I.ch j i hj hi h1
    rw [e, e'] at this
    exact this
theorem Inv.to_head (I : Inv nx N s) : ∀ (m y : Nat), s.wh y ≤ m → y ∈ s.row → ∃ w, Hd s y w ∧ Re nx y w := by
  intro m
  induction m with
  | zero =>
    intro y h hy
    have := (I.met y).2 (.inl hy)
    omega
  | succ m ih =>
    intro y h hy
    by_cases g : gray s y
    · exact ⟨y, I.hd_self g, .refl _⟩
    · have hf := I.fin y hy (fun k hk => g ⟨k, hk⟩)
      obtain ⟨x, hx, hxw, hxr⟩ := I.snd y hy
      obtain ⟨w', hw', hr'⟩ := ih x (by omega) hx
      obtain ⟨w, hw, _⟩ := I.hd y hy
      refine ⟨w, hw, (hxr.trans hr').trans (I.way_re hw'.1 hw.1 ?_)⟩
      obtain ⟨k', hk'⟩ := hw'.1
      exact hw.2.2 w' k' hk' (by have := hw'.2.1; omega)
theorem find_head {v k : Nat} {r : List (Nat × Nat)} : ((v, k) :: r).find? (fun p => p.1 == v) = some (v, k) := by simp
theorem find_other {v k y : Nat} {r : List (Nat × Nat)} (h : y ≠ v) : ((v, k) :: r).find? (fun p => p.1 == y) = r.find? (fun p => p.1 == y) := by
  rw [List.find?_cons]
  have : (v == y) = false := by simp; exact fun e => h e.symm
  simp [this]
theorem prog_head {v k : Nat} {r : List (Nat × Nat)} (h : s.way = (v, k) :: r) : prog nx s v = k := by
  unfold prog; rw [h, find_head]
theorem prog_other {v k y : Nat} {r : List (Nat × Nat)} (h : s.way = (v, k) :: r) (hy : y ≠ v) : prog nx s y = match r.find? (fun p => p.1 == y) with | some p => p.2 | none => (nx y).length := by
  unfold prog; rw [h, find_other hy]
def adv (v k : Nat) (r : List (Nat × Nat)) (s : T) : T := { s with way := (v, k + 1) :: r }
theorem ex_adv {v k : Nat} {r : List (Nat × Nat)} (h : s.way = (v, k) :: r) (hk : k < (nx v).length) (y x : Nat) : Ex nx (adv v k r s) y x ↔ Ex nx s y x ∨ (y = v ∧ x = (nx v).getD k 0) := by
  unfold Ex
  by_cases e : y = v
  · subst e
    rw [prog_head h, prog_head (s := adv y k r s) rfl, List.take_succ_eq_append_getElem hk, List.mem_append, List.mem_singleton, List.getD_eq_getElem?_getD, List.getElem?_eq_getElem hk]
    simp
  · rw [prog_other h e, prog_other (s := adv v k r s) rfl e]
    simp [e]
theorem gray_adv {v k : Nat} {r : List (Nat × Nat)} (h : s.way = (v, k) :: r) (w : Nat) : gray (adv v k r s) w ↔ gray s w := by
  unfold gray adv
  rw [h]
  constructor
  · rintro ⟨q, hq⟩
    rcases List.mem_cons.1 hq with e | e
    · injection e with e _; exact ⟨k, by rw [e]; exact List.mem_cons_self⟩
    · exact ⟨q, List.mem_cons_of_mem _ e⟩
  · rintro ⟨q, hq⟩
    rcases List.mem_cons.1 hq with e | e
    · injection e with e _; exact ⟨k + 1, by rw [e]; exact List.mem_cons_self⟩
    · exact ⟨q, List.mem_cons_of_mem _ e⟩
theorem hd_adv {v k : Nat} {r : List (Nat × Nat)} (h : s.way = (v, k) :: r) (y w : Nat) : Hd (adv v k r s) y w ↔ Hd s y w := by
  have key : ∀ w, (∃ k', (w, k') ∈ (adv v k r s).way) ↔ ∃ k', (w, k') ∈ s.way := gray_adv h
  constructor
  · rintro ⟨h1, h2, h3⟩
    exact ⟨(key w).1 h1, h2, fun w' k' hk' hw => by
      obtain ⟨k2, hk2⟩ := (key w').2 ⟨k', hk'⟩
      exact h3 w' k2 hk2 hw⟩
  · rintro ⟨h1, h2, h3⟩
    exact ⟨(key w).2 h1, h2, fun w' k' hk' hw => by
      obtain ⟨k2, hk2⟩ := (key w').1 ⟨k', hk'⟩
      exact h3 w' k2 hk2 hw⟩
theorem adv_inv {v k : Nat} {r : List (Nat × Nat)} (I : Inv nx N s) (h : s.way = (v, k) :: r) (hk : k < (nx v).length) (hm : s.wh ((nx v).getD k 0) ≠ 0) :
    Inv nx N (if (nx v).getD k 0 ∈ s.row then { adv v k r s with lo := up s.lo v (min (s.lo v) (s.wh ((nx v).getD k 0))) } else adv v k r s) := by
  obtain ⟨to, eto⟩ : ∃ to, to = (nx v).getD k 0 := ⟨_, rfl⟩
  rw [← eto] at hm ⊢
  have hvto : to ∈ nx v := by rw [eto, List.getD_eq_getElem?_getD, List.getElem?_eq_getElem hk]; exact List.getElem_mem hk
  have hvg : gray s v := ⟨k, by rw [h]; exact List.mem_cons_self⟩
  have hvr : v ∈ s.row := I.gr hvg
  obtain ⟨lo', elo⟩ : ∃ lo', lo' = if to ∈ s.row then up s.lo v (min (s.lo v) (s.wh to)) else s.lo := ⟨_, rfl⟩
  have es : (if to ∈ s.row then { adv v k r s with lo := up s.lo v (min (s.lo v) (s.wh to)) } else adv v k r s) = { adv v k r s with lo := lo' } := by
    rw [elo]; split <;> rfl
  rw [es]
  have lle : ∀ w, lo' w ≤ s.lo w := fun w => by
    rw [elo]
    split
    · by_cases e : w = v
      · subst e; rw [up_same]; exact Nat.min_le_left _ _
      · rw [up_other e]; exact Nat.le_refl _
    · exact Nat.le_refl _
  have lne : ∀ w, w ≠ v → lo' w = s.lo w := fun w e => by
    rw [elo]
    split
    · exact up_other e
    · rfl
  have lv : lo' v = s.lo v ∨ (to ∈ s.row ∧ lo' v = s.wh to) := by
    rw [elo]
    by_cases ht : to ∈ s.row
    · rw [if_pos ht, up_same]
      by_cases e : s.lo v ≤ s.wh to
      · left; exact Nat.min_eq_left e
      · right; exact ⟨ht, Nat.min_eq_right (by omega)⟩
    · rw [if_neg ht]; exact .inl rfl
  have lto : to ∈ s.row → lo' v ≤ s.wh to := fun ht => by
    rw [elo, if_pos ht, up_same]; exact Nat.min_le_right _ _
  have hw := I.wy; have hc := I.ch; have hr := I.wr
  rw [h] at hw hc hr
  rw [List.pairwise_cons] at hw hc
  have ex1 : ∀ y x, Ex nx { adv v k r s with lo := lo' } y x ↔ Ex nx s y x ∨ (y = v ∧ x = to) := fun y x => by rw [eto]; exact ex_adv h hk y x
  have gr1 : ∀ w k', (w, k') ∈ (adv v k r s).way → gray s w := fun w k' hk' => (gray_adv h w).1 ⟨k', hk'⟩
  refine ⟨I.dom, I.top, I.rw_, I.met, I.dis, List.pairwise_cons.2 ⟨hw.1, hw.2⟩, ?_, List.pairwise_cons.2 ⟨hc.1, hc.2⟩, ?_, ?_, ?_, ?_, ?_, ?_, I.cl, I.sc, I.pd⟩
  · intro p hp
    rcases List.mem_cons.1 hp with rfl | hp
    · exact ⟨hvr, hk⟩
    · exact hr p (List.mem_cons_of_mem _ hp)
  · intro y hy x hx
    rcases (ex1 y x).1 hx with hx | ⟨rfl, rfl⟩
    · exact I.ex y hy x hx
    · exact hm
  · intro w hwr
    exact Nat.le_trans (lle w) (I.le w hwr)
  · intro w hwr
    by_cases e : w = v
    · subst e
      rcases lv with h1 | ⟨h1, h2⟩
      · obtain ⟨x, h3, h4, h5⟩ := I.snd w hwr
        exact ⟨x, h3, h4.trans h1.symm, h5⟩
      · exact ⟨to, h1, h2.symm, Re.edge hvto⟩
    · obtain ⟨x, h3, h4, h5⟩ := I.snd w hwr
      exact ⟨x, h3, h4.trans (lne w e).symm, h5⟩
  · intro w hwr hno
    have hno' : ∀ k', (w, k') ∉ s.way := fun k' hk' => by
      obtain ⟨k2, hk2⟩ := (gray_adv h w).2 ⟨k', hk'⟩
      exact hno k2 hk2
    exact Nat.lt_of_le_of_lt (lle w) (I.fin w hwr hno')
  · intro y hy
    obtain ⟨w, h1, h2⟩ := I.hd y hy
    exact ⟨w, (hd_adv h y w).2 h1, h2⟩
  · intro y hy x hx he w hwd
    have hwd' : Hd s y w := (hd_adv h y w).1 hwd
    rcases (ex1 y x).1 he with he | ⟨rfl, rfl⟩
    · exact Nat.le_trans (lle w) (I.cm y hy x hx he w hwd')
    · obtain rfl := I.hd_one hwd' (I.hd_self hvg)
      exact lto hx
theorem meet_inv {v k : Nat} {r : List (Nat × Nat)} (I : Inv nx N s) (h : s.way = (v, k) :: r) (hk : k < (nx v).length) (hm : s.wh ((nx v).getD k 0) = 0) (hN : (nx v).getD k 0 < N) :
    Inv nx N (meetP ((nx v).getD k 0) (adv v k r s)) := by
  obtain ⟨to, eto⟩ : ∃ to, to = (nx v).getD k 0 := ⟨_, rfl⟩
  rw [← eto] at hm hN ⊢
  have hvto : to ∈ nx v := by rw [eto, List.getD_eq_getElem?_getD, List.getElem?_eq_getElem hk]; exact List.getElem_mem hk
  have hvg : gray s v := ⟨k, by rw [h]; exact List.mem_cons_self⟩
  have hvr : v ∈ s.row := I.gr hvg
  have hnr : to ∉ s.row := fun h => (I.met to).2 (.inl h) hm
  have hnp : ∀ l ∈ s.parts, to ∉ l := fun l hl h => (I.met to).2 (.inr ⟨l, hl, h⟩) hm
  have hne : ∀ y ∈ s.row, y ≠ to := fun y hy e => hnr (e ▸ hy)
  have wsm : ∀ y ∈ s.row, up s.wh to (s.n + 1) y = s.wh y := fun y hy => up_other (hne y hy)
  have lsm : ∀ y ∈ s.row, up s.lo to (s.n + 1) y = s.lo y := fun y hy => up_other (hne y hy)
  have hw := I.wy; have hc := I.ch; have hr := I.wr
  rw [h] at hw hc hr
  have hgr : ∀ p ∈ (v, k) :: r, p.1 ∈ s.row := fun p hp => (hr p hp).1
  have hgr' : ∀ p ∈ (v, k + 1) :: r, p.1 ∈ s.row := fun p hp => by
    rcases List.mem_cons.1 hp with rfl | hp
    · exact hvr
    · exact hgr p (List.mem_cons_of_mem _ hp)
  rw [List.pairwise_cons] at hw hc
  have pr0 : prog nx (meetP to (adv v k r s)) to = 0 := prog_head (s := meetP to (adv v k r s)) rfl
  have prs : ∀ y, y ≠ to → prog nx (meetP to (adv v k r s)) y = prog nx (adv v k r s) y := fun y hy => by
    rw [prog_other (s := meetP to (adv v k r s)) rfl hy]; rfl
  have ex1 : ∀ y x, Ex nx (meetP to (adv v k r s)) y x → y ≠ to ∧ (Ex nx s y x ∨ (y = v ∧ x = to)) := fun y x hx => by
    by_cases e : y = to
    · subst e; unfold Ex at hx; rw [pr0] at hx; simp at hx
    · refine ⟨e, ?_⟩
      unfold Ex at hx
      rw [prs y e] at hx
      have := (ex_adv h hk y x).1 hx
      rwa [← eto] at this
  have gr1 : ∀ w, gray (meetP to (adv v k r s)) w ↔ w = to ∨ gray s w := fun w => by
    constructor
    · rintro ⟨q, hq⟩
      rcases List.mem_cons.1 hq with e | hq
      · injection e with e _; exact .inl e
      · exact .inr ((gray_adv h w).1 ⟨q, hq⟩)
    · rintro (rfl | hg)
      · exact ⟨0, List.mem_cons_self⟩
      · obtain ⟨q, hq⟩ := (gray_adv h w).2 hg
        exact ⟨q, List.mem_cons_of_mem _ hq⟩
  have hd1 : ∀ y ∈ s.row, ∀ w, Hd (meetP to (adv v k r s)) y w → Hd s y w := fun y hy w hwd => by
    obtain ⟨g, h1, h2⟩ := hwd
    have h1' : up s.wh to (s.n + 1) w ≤ up s.wh to (s.n + 1) y := h1
    rw [wsm y hy] at h1'
    have hty := I.top y
    rcases (gr1 w).1 g with rfl | g
    · rw [up_same] at h1'; omega
    · rw [wsm w (I.gr g)] at h1'
      refine ⟨g, h1', fun w' k' hk' hw' => ?_⟩
      obtain ⟨k2, hk2⟩ := (gr1 w').2 (.inr ⟨k', hk'⟩)
      have hwr := I.gr (w := w') ⟨k', hk'⟩
      have h3 : up s.wh to (s.n + 1) w' ≤ up s.wh to (s.n + 1) w := h2 w' k2 hk2 (by show up s.wh to (s.n + 1) w' ≤ up s.wh to (s.n + 1) y; rw [wsm w' hwr, wsm y hy]; exact hw')
      rwa [wsm w' hwr, wsm w (I.gr g)] at h3
  have hd2 : ∀ y ∈ s.row, ∀ w, Hd s y w → Hd (meetP to (adv v k r s)) y w := fun y hy w hwd => by
    obtain ⟨g, h1, h2⟩ := hwd
    refine ⟨(gr1 w).2 (.inr g), ?_, fun w' k' hk' hw' => ?_⟩
    · show up s.wh to (s.n + 1) w ≤ up s.wh to (s.n + 1) y
      rw [wsm w (I.gr g), wsm y hy]; exact h1
    · have hw2 : up s.wh to (s.n + 1) w' ≤ up s.wh to (s.n + 1) y := hw'
      rw [wsm y hy] at hw2
      have hty := I.top y
      rcases (gr1 w').1 ⟨k', hk'⟩ with rfl | ⟨k2, hk2⟩
      · rw [up_same] at hw2; omega
      · have hwr := I.gr (w := w') ⟨k2, hk2⟩
        rw [wsm w' hwr] at hw2
        show up s.wh to (s.n + 1) w' ≤ up s.wh to (s.n + 1) w
        rw [wsm w' hwr, wsm w (I.gr g)]
        exact h2 w' k2 hk2 hw2
  refine ⟨?_, ?_, ?_, ?_, ?_, ?_, ?_, ?_, ?_, ?_, ?_, ?_, ?_, ?_, I.cl, I.sc, I.pd⟩
  · intro y hy
    by_cases e : y = to
    · subst e; exact hN
    · have : up s.wh to (s.n + 1) y ≠ 0 := hy
      rw [up_other e] at this
      exact I.dom y this
  · intro y
    show up s.wh to (s.n + 1) y ≤ s.n + 1
    by_cases e : y = to
    · subst e; rw [up_same]; exact Nat.le_refl _
    · rw [up_other e]; have := I.top y; omega
  · show (s.row ++ [to]).Pairwise _
    rw [List.pairwise_append]
    refine ⟨?_, by simp, ?_⟩
    · refine List.Pairwise.imp_of_mem (fun {a b} ha hb hab => ?_) I.rw_
      show up s.wh to (s.n + 1) a < up s.wh to (s.n + 1) b
      rw [wsm a ha, wsm b hb]; exact hab
    · intro a ha b hb
      rw [List.mem_singleton] at hb
      subst hb
      show up s.wh b (s.n + 1) a < up s.wh b (s.n + 1) b
      rw [wsm a ha, up_same]
      have := I.top a; omega
  · intro y
    show up s.wh to (s.n + 1) y ≠ 0 ↔ y ∈ s.row ++ [to] ∨ ∃ l ∈ s.parts, y ∈ l
    rw [List.mem_append, List.mem_singleton]
    by_cases e : y = to
    · subst e; rw [up_same]; exact ⟨fun _ => .inl (.inr rfl), fun _ => by omega⟩
    · rw [up_other e, I.met y]
      exact ⟨fun h => h.elim (fun h => .inl (.inl h)) .inr, fun h => h.elim (fun h => h.elim .inl (fun h => absurd h e)) .inr⟩
  · intro y hy l hl
    have hy' : y ∈ s.row ++ [to] := hy
    rw [List.mem_append, List.mem_singleton] at hy'
    rcases hy' with hy' | rfl
    · exact I.dis y hy' l hl
    · exact hnp l hl
  · show ((to, 0) :: (v, k + 1) :: r).Pairwise _
    have keep : ((v, k + 1) :: r).Pairwise (fun a b => up s.wh to (s.n + 1) b.1 < up s.wh to (s.n + 1) a.1) :=
      List.Pairwise.imp_of_mem (fun {a b} ha hb hab => by rw [wsm _ (hgr' a ha), wsm _ (hgr' b hb)]; exact hab) (List.pairwise_cons.2 ⟨hw.1, hw.2⟩ : ((v, k + 1) :: r).Pairwise (fun a b => s.wh b.1 < s.wh a.1))
    refine List.pairwise_cons.2 ⟨fun p hp => ?_, keep⟩
    show up s.wh to (s.n + 1) p.1 < up s.wh to (s.n + 1) to
    rw [wsm _ (hgr' p hp), up_same]
    have := I.top p.1; omega
  · intro p hp
    rcases List.mem_cons.1 hp with rfl | hp
    · exact ⟨List.mem_append_right _ (by simp), Nat.zero_le _⟩
    · rcases List.mem_cons.1 hp with rfl | hp
      · exact ⟨List.mem_append_left _ hvr, hk⟩
      · exact ⟨List.mem_append_left _ (hgr p (List.mem_cons_of_mem _ hp)), (hr p (List.mem_cons_of_mem _ hp)).2⟩
  · show ((to, 0) :: (v, k + 1) :: r).Pairwise _
    refine List.pairwise_cons.2 ⟨fun p hp => ?_, List.pairwise_cons.2 ⟨hc.1, hc.2⟩⟩
    rcases List.mem_cons.1 hp with rfl | hp
    · exact Re.edge hvto
    · exact (hc.1 p hp).trans (Re.edge hvto)
  · intro y hy x hx
    obtain ⟨e, hx⟩ := ex1 y x hx
    have hy' : up s.wh to (s.n + 1) y ≠ 0 := hy
    rw [up_other e] at hy'
    show up s.wh to (s.n + 1) x ≠ 0
    by_cases ex : x = to
    · subst ex; rw [up_same]; omega
    · rw [up_other ex]
      rcases hx with hx | ⟨_, rfl⟩
      · exact I.ex y hy' x hx
      · exact absurd rfl ex
  · intro y hy
    have hy' : y ∈ s.row ++ [to] := hy
    rw [List.mem_append, List.mem_singleton] at hy'
    show up s.lo to (s.n + 1) y ≤ up s.wh to (s.n + 1) y
    rcases hy' with hy' | rfl
    · rw [wsm y hy', lsm y hy']; exact I.le y hy'
    · rw [up_same, up_same]; exact Nat.le_refl _
  · intro y hy
    have hy' : y ∈ s.row ++ [to] := hy
    rw [List.mem_append, List.mem_singleton] at hy'
    show ∃ x ∈ s.row ++ [to], up s.wh to (s.n + 1) x = up s.lo to (s.n + 1) y ∧ _
    rcases hy' with hy' | rfl
    · obtain ⟨x, h1, h2, h3⟩ := I.snd y hy'
      exact ⟨x, List.mem_append_left _ h1, by rw [wsm x h1, lsm y hy']; exact h2, h3⟩
    · exact ⟨y, List.mem_append_right _ (by simp), by rw [up_same, up_same], .refl _⟩
  · intro y hy hno
    have hy' : y ∈ s.row ++ [to] := hy
    rw [List.mem_append, List.mem_singleton] at hy'
    show up s.lo to (s.n + 1) y < up s.wh to (s.n + 1) y
    rcases hy' with hy' | rfl
    · rw [wsm y hy', lsm y hy']
      refine I.fin y hy' (fun k' hk' => ?_)
      obtain ⟨k2, hk2⟩ := (gr1 y).2 (.inr ⟨k', hk'⟩)
      exact hno k2 hk2
    · exact absurd List.mem_cons_self (hno 0)
  · intro y hy
    have hy' : y ∈ s.row ++ [to] := hy
    rw [List.mem_append, List.mem_singleton] at hy'
    rcases hy' with hy' | rfl
    · obtain ⟨w, h1, h2⟩ := I.hd y hy'
      exact ⟨w, hd2 y hy' w h1, h2⟩
    · exact ⟨y, ⟨(gr1 y).2 (.inl rfl), Nat.le_refl _, fun _ _ _ h => h⟩, .refl _⟩
  · intro y hy x hx he w hwd
    obtain ⟨e, he⟩ := ex1 y x he
    have hy' : y ∈ s.row ++ [to] := hy
    rw [List.mem_append, List.mem_singleton] at hy'
    have hyr : y ∈ s.row := hy'.elim id (fun h => absurd h e)
    have hwd' := hd1 y hyr w hwd
    have hwr := I.gr hwd'.1
    show up s.lo to (s.n + 1) w ≤ up s.wh to (s.n + 1) x
    rw [lsm w hwr]
    by_cases ex : x = to
    · subst ex
      rw [up_same]
      have h1 := I.le w hwr
      have h2 := I.top w
      omega
    · have hxr : x ∈ s.row := by
        have hx' : x ∈ s.row ++ [to] := hx
        rw [List.mem_append, List.mem_singleton] at hx'
        exact hx'.elim id (fun h => absurd h ex)
      rw [wsm x hxr]
      rcases he with he | ⟨_, rfl⟩
      · exact I.cm y hyr x hxr he w hwd'
      · exact absurd rfl ex
theorem row_split (I : Inv nx N s) {v : Nat} (hv : v ∈ s.row) : ∃ A B, s.row = A ++ v :: B ∧ s.row.takeWhile (fun j => j != v) = A ∧ s.row.dropWhile (fun j => j != v) = v :: B ∧ (∀ a ∈ A, s.wh a < s.wh v) ∧ (∀ b ∈ B, s.wh v < s.wh b) := by
  have hd : ∃ B, s.row.dropWhile (fun j => j != v) = v :: B := by
    cases hq : s.row.dropWhile (fun j => j != v) with
    | nil =>
      have : ∀ x ∈ s.row, (x != v) = true := by
        have h1 := List.takeWhile_append_dropWhile (p := fun j => j != v) (l := s.row)
        rw [hq, List.append_nil] at h1
        intro x hx
        rw [← h1] at hx
        exact List.all_eq_true.1 (List.all_takeWhile) x hx
      have := this v hv
      simp at this
    | cons x B =>
      have h1 := List.head?_dropWhile_not (fun j => j != v) s.row
      rw [hq] at h1
      have : x = v := by simpa using h1
      exact ⟨B, by rw [this]⟩
  obtain ⟨B, hB⟩ := hd
  have hs : s.row = s.row.takeWhile (fun j => j != v) ++ v :: B := by rw [← hB, List.takeWhile_append_dropWhile]
  have hp := I.rw_
  rw [hs, List.pairwise_append, List.pairwise_cons] at hp
  exact ⟨_, B, hs, rfl, hB, fun a ha => hp.2.2 a ha v List.mem_cons_self, fun b hb => hp.2.1.1 b hb⟩
theorem leave_inv {cmp : List Nat → List Nat} (hcm : ∀ l x, x ∈ cmp l ↔ x ∈ l) {v k : Nat} {r : List (Nat × Nat)} (I : Inv nx N s) (h : s.way = (v, k) :: r) (hk : k = (nx v).length) : Inv nx N (leaveP cmp v s) := by
  have hvg : gray s v := ⟨k, by rw [h]; exact List.mem_cons_self⟩
  have hvr : v ∈ s.row := I.gr hvg
  have hw := I.wy; have hc := I.ch; have hr := I.wr
  rw [h] at hw hc hr
  rw [List.pairwise_cons] at hw hc
  have rr : ∀ p ∈ r, p.1 ∈ s.row ∧ s.wh p.1 < s.wh v ∧ Re nx p.1 v := fun p hp => ⟨(hr p (List.mem_cons_of_mem _ hp)).1, hw.1 p hp, hc.1 p hp⟩
  have rne : ∀ p ∈ r, p.1 ≠ v := fun p hp e => by have := (rr p hp).2.1; rw [e] at this; omega
  have gsp : ∀ w, gray s w ↔ w = v ∨ ∃ q, (w, q) ∈ r := fun w => by
    unfold gray
    rw [h]
    constructor
    · rintro ⟨q, hq⟩
      rcases List.mem_cons.1 hq with e | hq
      · injection e with e _; exact .inl e
      · exact .inr ⟨q, hq⟩
    · rintro (rfl | ⟨q, hq⟩)
      · exact ⟨k, List.mem_cons_self⟩
      · exact ⟨q, List.mem_cons_of_mem _ hq⟩
  have gtop : ∀ w, gray s w → s.wh w ≤ s.wh v := fun w g => by
    rcases (gsp w).1 g with rfl | ⟨q, hq⟩
    · exact Nat.le_refl _
    · exact Nat.le_of_lt (rr _ hq).2.1
  obtain ⟨lo', elo⟩ : ∃ lo', lo' = lowP v s := ⟨_, rfl⟩
  have hlo : lo' = lowQ s.lo v r := by rw [elo]; unfold lowP; rw [h]; rfl
  have lle : ∀ w, lo' w ≤ s.lo w := fun w => by
    rw [hlo]
    cases r with
    | nil => exact Nat.le_refl _
    | cons p r =>
      obtain ⟨u, q⟩ := p
      show up s.lo u _ w ≤ _
      by_cases e : w = u
      · subst e; rw [up_same]; exact Nat.min_le_left _ _
      · rw [up_other e]; exact Nat.le_refl _
  have lv : lo' v = s.lo v := by
    rw [hlo]
    cases r with
    | nil => rfl
    | cons p r =>
      obtain ⟨u, q⟩ := p
      show up s.lo u _ v = _
      exact up_other (fun e => rne (u, q) List.mem_cons_self e.symm)
  have lno : ∀ w, (∀ q r', r ≠ (w, q) :: r') → lo' w = s.lo w := fun w hno => by
    rw [hlo]
    cases r with
    | nil => rfl
    | cons p r =>
      obtain ⟨u, q⟩ := p
      show up s.lo u _ w = _
      exact up_other (fun e => hno q r (by rw [e]))
  have lup : ∀ u q r', r = (u, q) :: r' → lo' u = min (s.lo u) (s.lo v) := fun u q r' e => by
    rw [hlo, e]; exact up_same _ _ _
  have lvw := I.le v hvr
  have rnil : r = [] → s.lo v = s.wh v := fun e => by
    obtain ⟨x, h1, h2, _⟩ := I.snd v hvr
    obtain ⟨w, h3, _⟩ := I.hd x h1
    have : w = v := by
      rcases (gsp w).1 h3.1 with h4 | ⟨q, hq⟩
      · exact h4
      · rw [e] at hq; cases hq
    have := h3.2.1
    subst_vars
    omega
  -- progress
  have prg : ∀ (st : T), st.way = r → ∀ y, prog nx st y = prog nx s y := fun st hst y => by
    by_cases e : y = v
    · subst e
      rw [prog_head h]
      unfold prog
      rw [hst]
      cases hf : r.find? (fun p => p.1 == y) with
      | none => exact hk.symm
      | some p =>
        have h1 := List.mem_of_find?_eq_some hf
        have h2 := List.find?_some hf
        exact absurd (by simpa using h2) (rne p h1)
    · rw [prog_other h e]
      unfold prog
      rw [hst]
  have exs : ∀ (st : T), st.way = r → ∀ y x, Ex nx st y x → Ex nx s y x := fun st hst y x hx => by
    unfold Ex at hx ⊢; rwa [prg st hst y] at hx
  unfold leaveP
  rw [← elo, lv]
  by_cases hcut : s.lo v ≠ s.wh v
  · rw [if_pos hcut]
    obtain ⟨u, q, r', er⟩ : ∃ u q r', r = (u, q) :: r' := by
      cases hr0 : r with
      | nil => exact absurd (rnil hr0) hcut
      | cons p r' => exact ⟨p.1, p.2, r', rfl⟩
    have hur := rr (u, q) (by rw [er]; exact List.mem_cons_self)
    have hug : gray s u := (gsp u).2 (.inr ⟨q, by rw [er]; exact List.mem_cons_self⟩)
    have utop : ∀ w q', (w, q') ∈ r → s.wh w ≤ s.wh u := fun w q' hq' => by
      have hw2 := hw.2
      rw [er, List.pairwise_cons] at hw2
      rw [er] at hq'
      rcases List.mem_cons.1 hq' with e | e
      · injection e with e _; rw [e]; exact Nat.le_refl _
      · exact Nat.le_of_lt (hw2.1 _ e)
    obtain ⟨st, est⟩ : ∃ st : T, st = { s with way := s.way.tail, lo := lo' } := ⟨_, rfl⟩
    rw [← est]
    have w1 : st.way = r := by rw [est]; show s.way.tail = r; rw [h]; rfl
    have e1 : st.wh = s.wh := by rw [est]
    have e2 : st.row = s.row := by rw [est]
    have e3 : st.parts = s.parts := by rw [est]
    have e4 : st.n = s.n := by rw [est]
    have e5 : st.lo = lo' := by rw [est]
    have hdn : ∀ y w, w ≠ v → Hd s y w → Hd st y w := fun y w hne hwd => by
      obtain ⟨g, h1, h2⟩ := hwd
      refine ⟨?_, by rw [e1]; exact h1, fun w' k' hk' hw' => ?_⟩
      · rcases (gsp w).1 g with e | g
        · exact absurd e hne
        · rw [w1]; exact g
      · rw [w1] at hk'
        rw [e1] at hw' ⊢
        exact h2 w' k' (by rw [h]; exact List.mem_cons_of_mem _ hk') hw'
    have hdu : ∀ y, Hd s y v → Hd st y u := fun y hwd => by
      refine ⟨⟨q, by rw [w1, er]; exact List.mem_cons_self⟩, ?_, fun w' k' hk' _ => ?_⟩
      · rw [e1]; have h8 := hwd.2.1; have h9 : s.wh u < s.wh v := hur.2.1; omega
      · rw [e1]; rw [w1] at hk'; exact utop w' k' hk'
    have hd1 : ∀ y w w', Hd st y w → Hd st y w' → w = w' := fun y w w' a b => by
      obtain ⟨⟨k1, g1⟩, a1, a2⟩ := a
      obtain ⟨⟨k2, g2⟩, b1, b2⟩ := b
      have h1 := a2 w' k2 g2 b1
      have h2 := b2 w k1 g1 a1
      rw [e1] at h1 h2
      rw [w1] at g1 g2
      exact I.inj (rr _ g1).1 (rr _ g2).1 (by show s.wh w = s.wh w'; omega)
    refine ⟨by rw [e1]; exact I.dom, by rw [e1, e4]; exact I.top, by rw [e1, e2]; exact I.rw_, by rw [e1, e2, e3]; exact I.met, by rw [e2, e3]; exact I.dis, by rw [w1, e1]; exact hw.2, ?_, by rw [w1]; exact hc.2, ?_, ?_, ?_, ?_, ?_, ?_, by rw [e3]; exact I.cl, by rw [e3]; exact I.sc, by rw [e3]; exact I.pd⟩
    · intro p hp
      rw [w1] at hp
      rw [e2]
      exact hr p (List.mem_cons_of_mem _ hp)
    · intro y hy x hx
      rw [e1] at hy ⊢
      exact I.ex y hy x (exs st w1 y x hx)
    · intro y hy
      rw [e2] at hy
      rw [e1, e5]
      exact Nat.le_trans (lle y) (I.le y hy)
    · intro y hy
      rw [e2] at hy
      rw [e1, e2, e5]
      obtain ⟨x, h1, h2, h3⟩ := I.snd y hy
      by_cases e : y = u
      · subst e
        rw [lup y q r' er]
        by_cases hle : s.lo y ≤ s.lo v
        · exact ⟨x, h1, by rw [Nat.min_eq_left hle]; exact h2, h3⟩
        · obtain ⟨x', h1', h2', h3'⟩ := I.snd v hvr
          exact ⟨x', h1', by rw [Nat.min_eq_right (by omega)]; exact h2', hur.2.2.trans h3'⟩
      · rw [lno y (fun q' r'' he => e (by rw [er] at he; injection he with he _; injection he with he _; exact he.symm))]
        exact ⟨x, h1, h2, h3⟩
    · intro y hy hno
      rw [e2] at hy
      rw [e1, e5]
      by_cases e : y = v
      · subst e; rw [lv]; omega
      · refine Nat.lt_of_le_of_lt (lle y) (I.fin y hy (fun k' hk' => ?_))
        rcases (gsp y).1 ⟨k', hk'⟩ with e' | ⟨q', hq'⟩
        · exact e e'
        · exact hno q' (by rw [w1]; exact hq')
    · intro y hy
      rw [e2] at hy
      obtain ⟨w, h1, h2⟩ := I.hd y hy
      by_cases e : w = v
      · subst e
        exact ⟨u, hdu y h1, hur.2.2.trans h2⟩
      · exact ⟨w, hdn y w e h1, h2⟩
    · intro y hy x hx he w hwd
      rw [e2] at hy hx
      rw [e1, e5]
      have he' := exs st w1 y x he
      obtain ⟨w0, h1, _⟩ := I.hd y hy
      by_cases e : w0 = v
      · subst e
        obtain rfl := hd1 y w u hwd (hdu y h1)
        have h3 := I.cm y hy x hx he' w0 h1
        rw [lup w q r' er]
        exact Nat.le_trans (Nat.min_le_right _ _) h3
      · obtain rfl := hd1 y w w0 hwd (hdn y w0 e h1)
        exact Nat.le_trans (lle w) (I.cm y hy x hx he' w h1)
  · rw [if_neg hcut]
    have heq : s.lo v = s.wh v := Classical.byContradiction hcut
    obtain ⟨A, B, hsp, hA, hB, ltA, gtB⟩ := row_split I hvr
    rw [hA, hB]
    have memA : ∀ a, a ∈ A ↔ a ∈ s.row ∧ s.wh a < s.wh v := fun a => by
      constructor
      · intro ha; exact ⟨by rw [hsp]; exact List.mem_append_left _ ha, ltA a ha⟩
      · rintro ⟨ha, hl⟩
        rw [hsp, List.mem_append] at ha
        rcases ha with ha | ha
        · exact ha
        · rcases List.mem_cons.1 ha with rfl | ha
          · omega
          · have := gtB a ha; omega
    have memB : ∀ a, a ∈ v :: B ↔ a ∈ s.row ∧ s.wh v ≤ s.wh a := fun a => by
      constructor
      · intro ha
        refine ⟨by rw [hsp]; exact List.mem_append_right _ ha, ?_⟩
        rcases List.mem_cons.1 ha with rfl | ha
        · exact Nat.le_refl _
        · exact Nat.le_of_lt (gtB a ha)
      · rintro ⟨ha, hl⟩
        rw [hsp, List.mem_append] at ha
        rcases ha with ha | ha
        · have := ltA a ha; omega
        · exact ha
    obtain ⟨st, est⟩ : ∃ st : T, st = { s with way := s.way.tail, lo := lo', row := A, parts := s.parts ++ [cmp (v :: B)] } := ⟨_, rfl⟩
    rw [← est]
    have w1 : st.way = r := by rw [est]; show s.way.tail = r; rw [h]; rfl
    have e1 : st.wh = s.wh := by rw [est]
    have e2 : st.row = A := by rw [est]
    have e3 : st.parts = s.parts ++ [cmp (v :: B)] := by rw [est]
    have e4 : st.n = s.n := by rw [est]
    have e5 : st.lo = lo' := by rw [est]
    have headB : ∀ y ∈ v :: B, Hd s y v := fun y hy => ⟨hvg, ((memB y).1 hy).2, fun w' k' hk' _ => gtop w' ⟨k', hk'⟩⟩
    have hdA : ∀ y ∈ A, ∀ w, Hd st y w ↔ Hd s y w := fun y hy w => by
      have hyv := ltA y hy
      constructor
      · rintro ⟨g, h1, h2⟩
        rw [w1] at g
        rw [e1] at h1
        refine ⟨(gsp w).2 (.inr g), h1, fun w' k' hk' hw' => ?_⟩
        rcases (gsp w').1 ⟨k', hk'⟩ with rfl | ⟨q', hq'⟩
        · omega
        · have := h2 w' q' (by rw [w1]; exact hq') (by rw [e1]; exact hw')
          rwa [e1] at this
      · rintro ⟨g, h1, h2⟩
        refine ⟨?_, by rw [e1]; exact h1, fun w' k' hk' hw' => ?_⟩
        · rcases (gsp w).1 g with rfl | g
          · omega
          · rw [w1]; exact g
        · rw [e1] at hw' ⊢
          rw [w1] at hk'
          exact h2 w' k' (by rw [h]; exact List.mem_cons_of_mem _ hk') hw'
    have loA : ∀ y ∈ A, lo' y = s.lo y := fun y hy => by
      by_cases hu : ∃ q r', r = (y, q) :: r'
      · obtain ⟨q, r', er⟩ := hu
        rw [lup y q r' er]
        have h1 := I.le y ((memA y).1 hy).1
        have h2 := ltA y hy
        exact Nat.min_eq_left (by omega)
      · exact lno y (fun q r' e => hu ⟨q, r', e⟩)
    refine ⟨by rw [e1]; exact I.dom, by rw [e1, e4]; exact I.top, ?_, ?_, ?_, by rw [w1, e1]; exact hw.2, ?_, by rw [w1]; exact hc.2, ?_, ?_, ?_, ?_, ?_, ?_, ?_, ?_, ?_⟩
    · rw [e1, e2]
      have := I.rw_
      rw [hsp, List.pairwise_append] at this
      exact this.1
    · intro y
      rw [e1, e2, e3, I.met y]
      constructor
      · rintro (hy | ⟨l, hl, hy⟩)
        · rw [hsp, List.mem_append] at hy
          rcases hy with hy | hy
          · exact .inl hy
          · exact .inr ⟨_, List.mem_append_right _ (by simp), (hcm _ _).2 hy⟩
        · exact .inr ⟨l, List.mem_append_left _ hl, hy⟩
      · rintro (hy | ⟨l, hl, hy⟩)
        · exact .inl ((memA y).1 hy).1
        · rw [List.mem_append, List.mem_singleton] at hl
          rcases hl with hl | rfl
          · exact .inr ⟨l, hl, hy⟩
          · exact .inl ((memB y).1 ((hcm _ _).1 hy)).1
    · intro y hy l hl
      rw [e2] at hy
      rw [e3, List.mem_append, List.mem_singleton] at hl
      rcases hl with hl | rfl
      · exact I.dis y ((memA y).1 hy).1 l hl
      · intro h2
        have h3 := ((memB y).1 ((hcm _ _).1 h2)).2
        have h4 := ltA y hy
        omega
    · intro p hp
      rw [w1] at hp
      rw [e2]
      exact ⟨(memA _).2 ⟨(rr p hp).1, (rr p hp).2.1⟩, (hr p (List.mem_cons_of_mem _ hp)).2⟩
    · intro y hy x hx
      rw [e1] at hy ⊢
      exact I.ex y hy x (exs st w1 y x hx)
    · intro y hy
      rw [e2] at hy
      rw [e1, e5, loA y hy]
      exact I.le y ((memA y).1 hy).1
    · intro y hy
      rw [e2] at hy
      rw [e1, e2, e5, loA y hy]
      obtain ⟨x, h1, h2, h3⟩ := I.snd y ((memA y).1 hy).1
      have h4 := I.le y ((memA y).1 hy).1
      have h5 := ltA y hy
      exact ⟨x, (memA x).2 ⟨h1, by omega⟩, h2, h3⟩
    · intro y hy hno
      rw [e2] at hy
      rw [e1, e5, loA y hy]
      refine I.fin y ((memA y).1 hy).1 (fun k' hk' => ?_)
      rcases (gsp y).1 ⟨k', hk'⟩ with e' | ⟨q', hq'⟩
      · have := ltA y hy; rw [e'] at this; omega
      · exact hno q' (by rw [w1]; exact hq')
    · intro y hy
      rw [e2] at hy
      obtain ⟨w, h1, h2⟩ := I.hd y ((memA y).1 hy).1
      exact ⟨w, (hdA y hy w).2 h1, h2⟩
    · intro y hy x hx he w hwd
      rw [e2] at hy hx
      rw [e1, e5]
      exact Nat.le_trans (lle w) (I.cm y ((memA y).1 hy).1 x ((memA x).1 hx).1 (exs st w1 y x he) w ((hdA y hy w).1 hwd))
    · intro i l y x hl hy hx
      rw [e3] at hl ⊢
      rcases Nat.lt_trichotomy i s.parts.length with hi | hi | hi
      · rw [List.getElem?_append_left hi] at hl
        obtain ⟨j, m, h1, h2, h3⟩ := I.cl i l y x hl hy hx
        exact ⟨j, m, h1, by rw [List.getElem?_append_left (List.getElem?_eq_some_iff.1 h2).1]; exact h2, h3⟩
      · subst hi
        rw [List.getElem?_append_right (Nat.le_refl _), Nat.sub_self] at hl
        have hl' : cmp (v :: B) = l := by simpa using hl
        subst hl'
        have hyB := (hcm _ _).1 hy
        have hyr := ((memB y).1 hyB).1
        have hfull : Ex nx s y x := by
          unfold Ex
          have : prog nx s y = (nx y).length := by
            by_cases e : y = v
            · subst e; rw [prog_head h]; exact hk
            · rw [prog_other h e]
              cases hf : r.find? (fun p => p.1 == y) with
              | none => rfl
              | some p =>
                have h1 := List.mem_of_find?_eq_some hf
                have h2 := List.find?_some hf
                have h3 : p.1 = y := by simpa using h2
                have h4 := (rr p h1).2.1
                have h5 := ((memB y).1 hyB).2
                rw [h3] at h4
                omega
          rw [this, List.take_length]; exact hx
        have hxm := I.ex y ((I.met y).2 (.inl hyr)) x hfull
        rcases (I.met x).1 hxm with hxr | ⟨m, hm, hxm'⟩
        · have h3 := I.cm y hyr x hxr hfull v (headB y hyB)
          refine ⟨s.parts.length, cmp (v :: B), Nat.le_refl _, by rw [List.getElem?_append_right (Nat.le_refl _), Nat.sub_self]; rfl, (hcm _ _).2 ((memB x).2 ⟨hxr, by omega⟩)⟩
        · obtain ⟨j, hj, e⟩ := List.getElem_of_mem hm
          exact ⟨j, m, by omega, by rw [List.getElem?_append_left hj, List.getElem?_eq_getElem hj, e], hxm'⟩
      · rw [List.getElem?_eq_none (by simp; omega)] at hl
        cases hl
    · intro l hl
      rw [e3, List.mem_append, List.mem_singleton] at hl
      rcases hl with hl | rfl
      · exact I.sc l hl
      · refine ⟨fun e => ?_, fun a ha b hb => ?_⟩
        · have := (hcm (v :: B) v).2 List.mem_cons_self
          rw [e] at this; cases this
        · have haB := (hcm _ _).1 ha
          have hbB := (hcm _ _).1 hb
          obtain ⟨wa, h1, h2⟩ := I.to_head _ a (Nat.le_refl _) ((memB a).1 haB).1
          obtain ⟨wb, h3, h4⟩ := I.hd b ((memB b).1 hbB).1
          have e6 := I.hd_one h1 (headB a haB)
          have e7 := I.hd_one h3 (headB b hbB)
          rw [e6] at h2
          rw [e7] at h4
          exact h2.trans h4
    · intro i j l m hl hm hij y hy hy'
      rw [e3] at hl hm
      have pos : ∀ (i : Nat) (l : List Nat), (s.parts ++ [cmp (v :: B)])[i]? = some l → (s.parts[i]? = some l) ∨ (i = s.parts.length ∧ l = cmp (v :: B)) := fun i l hl => by
        rcases Nat.lt_trichotomy i s.parts.length with hi | hi | hi
        · rw [List.getElem?_append_left hi] at hl; exact .inl hl
        · subst hi
          rw [List.getElem?_append_right (Nat.le_refl _), Nat.sub_self] at hl
          exact .inr ⟨rfl, by simpa using hl.symm⟩
        · rw [List.getElem?_eq_none (by simp; omega)] at hl; cases hl
      rcases pos i l hl with h1 | ⟨h1, rfl⟩ <;> rcases pos j m hm with h2 | ⟨h2, rfl⟩
      · exact I.pd i j l m h1 h2 hij y hy hy'
      · exact I.dis y ((memB y).1 ((hcm _ _).1 hy')).1 l (List.mem_of_getElem? h1) hy
      · exact I.dis y ((memB y).1 ((hcm _ _).1 hy)).1 m (List.mem_of_getElem? h2) hy'
      · omega
theorem start_inv (I : Inv nx N s) (h : s.way = []) (hr : s.row = []) {i : Nat} (hi : i < N) (hm : s.wh i = 0) : Inv nx N (meetP i s) := by
  have hnp : ∀ l ∈ s.parts, i ∉ l := fun l hl h => (I.met i).2 (.inr ⟨l, hl, h⟩) hm
  have w1 : (meetP i s).way = [(i, 0)] := by show (i, 0) :: s.way = _; rw [h]
  have r1 : (meetP i s).row = [i] := by show s.row ++ [i] = _; rw [hr]; rfl
  have pr0 : prog nx (meetP i s) i = 0 := prog_head (s := meetP i s) w1
  have prs : ∀ y, y ≠ i → prog nx (meetP i s) y = (nx y).length := fun y hy => by
    rw [prog_other (s := meetP i s) w1 hy]; rfl
  have prn : ∀ y, prog nx s y = (nx y).length := fun y => by unfold prog; rw [h]; rfl
  have ex1 : ∀ y x, Ex nx (meetP i s) y x → y ≠ i ∧ Ex nx s y x := fun y x hx => by
    by_cases e : y = i
    · subst e; unfold Ex at hx; rw [pr0] at hx; simp at hx
    · refine ⟨e, ?_⟩
      unfold Ex at hx ⊢
      rw [prs y e] at hx
      rw [prn y]; exact hx
  refine ⟨?_, ?_, by rw [r1]; simp, ?_, ?_, by rw [w1]; simp, ?_, by rw [w1]; simp, ?_, ?_, ?_, ?_, ?_, ?_, I.cl, I.sc, I.pd⟩
  · intro y hy
    by_cases e : y = i
    · subst e; exact hi
    · have : up s.wh i (s.n + 1) y ≠ 0 := hy
      rw [up_other e] at this
      exact I.dom y this
  · intro y
    show up s.wh i (s.n + 1) y ≤ s.n + 1
    by_cases e : y = i
    · subst e; rw [up_same]; exact Nat.le_refl _
    · rw [up_other e]; have := I.top y; omega
  · intro y
    rw [r1]
    show up s.wh i (s.n + 1) y ≠ 0 ↔ y ∈ [i] ∨ ∃ l ∈ s.parts, y ∈ l
    rw [List.mem_singleton]
    by_cases e : y = i
    · subst e; rw [up_same]; exact ⟨fun _ => .inl rfl, fun _ => by omega⟩
    · rw [up_other e, I.met y, hr]
      exact ⟨fun h => h.elim (fun h => by cases h) .inr, fun h => h.elim (fun h => absurd h e) .inr⟩
  · intro y hy l hl
    rw [r1, List.mem_singleton] at hy
    subst hy
    exact hnp l hl
  · intro p hp
    rw [w1, List.mem_singleton] at hp
    subst hp
    exact ⟨by rw [r1]; simp, Nat.zero_le _⟩
  · intro y hy x hx
    obtain ⟨e, hx⟩ := ex1 y x hx
    have hy' : up s.wh i (s.n + 1) y ≠ 0 := hy
    rw [up_other e] at hy'
    show up s.wh i (s.n + 1) x ≠ 0
    by_cases ex : x = i
    · subst ex; rw [up_same]; omega
    · rw [up_other ex]; exact I.ex y hy' x hx
  · intro y hy
    rw [r1, List.mem_singleton] at hy
    subst hy
    show up s.lo y (s.n + 1) y ≤ up s.wh y (s.n + 1) y
    rw [up_same, up_same]; exact Nat.le_refl _
  · intro y hy
    rw [r1, List.mem_singleton] at hy
    subst hy
    exact ⟨y, by rw [r1]; simp, by show up s.wh y (s.n + 1) y = up s.lo y (s.n + 1) y; rw [up_same, up_same], .refl _⟩
  · intro y hy hno
    rw [r1, List.mem_singleton] at hy
    subst hy
    exact absurd (by rw [w1]; simp) (hno 0)
  · intro y hy
    rw [r1, List.mem_singleton] at hy
    subst hy
    exact ⟨y, ⟨⟨0, by rw [w1]; simp⟩, Nat.le_refl _, fun _ _ _ h => h⟩, .refl _⟩
  · intro y hy x hx he w hwd
    obtain ⟨e, he⟩ := ex1 y x he
    rw [r1, List.mem_singleton] at hy
    exact absurd hy e
theorem round_inv {cmp : List Nat → List Nat} (hcm : ∀ l x, x ∈ cmp l ↔ x ∈ l) (hnx : ∀ v, ∀ x ∈ nx v, x < N) (I : Inv nx N s) : Inv nx N (roundP cmp nx s) := by
  unfold roundP
  cases h : s.way with
  | nil => exact I
  | cons p r =>
    obtain ⟨v, k⟩ := p
    show Inv nx N (if k = (nx v).length then _ else _)
    by_cases hk : k = (nx v).length
    · rw [if_pos hk]; exact leave_inv hcm I h hk
    · rw [if_neg hk]
      have hk' : k < (nx v).length := by
        have := (I.wr (v, k) (by rw [h]; exact List.mem_cons_self)).2
        have h2 : k ≤ (nx v).length := this
        omega
      have hmem : (nx v).getD k 0 ∈ nx v := by rw [List.getD_eq_getElem?_getD, List.getElem?_eq_getElem hk']; exact List.getElem_mem hk'
      show Inv nx N (if s.wh ((nx v).getD k 0) = 0 then _ else _)
      by_cases hm : s.wh ((nx v).getD k 0) = 0
      · rw [if_pos hm]; exact meet_inv I h hk' hm (hnx v _ hmem)
      · rw [if_neg hm]; exact adv_inv I h hk' hm
theorem row_nil (I : Inv nx N s) (h : s.way = []) : s.row = [] := by
  cases hr : s.row with
  | nil => rfl
  | cons y l =>
    obtain ⟨w, ⟨⟨k, hk⟩, _⟩, _⟩ := I.hd y (by rw [hr]; exact List.mem_cons_self)
    rw [h] at hk
    cases hk
def cost (nx : Nat → List Nat) (s : T) (y : Nat) : Nat := if s.wh y = 0 then 2 * (nx y).length + 2 else match s.way.find? (fun p => p.1 == y) with
  | some p => 2 * ((nx y).length - p.2) + 1
  | none => 0
def total (nx : Nat → List Nat) (N : Nat) (s : T) : Nat := ((List.range N).map (cost nx s)).sum
theorem sum_le {f g : Nat → Nat} : ∀ {l : List Nat}, (∀ y ∈ l, f y ≤ g y) → (l.map f).sum ≤ (l.map g).sum := by
  intro l
  induction l with
  | nil => intro _; exact Nat.le_refl _
  | cons a l ih =>
    intro h
    simp only [List.map_cons, List.sum_cons]
    have h1 := h a List.mem_cons_self
    have h2 := ih (fun y hy => h y (List.mem_cons_of_mem _ hy))
    omega
theorem sum_lt {f g : Nat → Nat} : ∀ {l : List Nat} {x : Nat}, (∀ y ∈ l, f y ≤ g y) → x ∈ l → f x < g x → (l.map f).sum < (l.map g).sum := by
  intro l
  induction l with
  | nil => intro x _ hx; cases hx
  | cons a l ih =>
    intro x h hx hlt
    simp only [List.map_cons, List.sum_cons]
    rcases List.mem_cons.1 hx with rfl | hx
    · have := sum_le (f := f) (g := g) (l := l) (fun y hy => h y (List.mem_cons_of_mem _ hy))
      omega
    · have h1 := h a List.mem_cons_self
      have h2 := ih (fun y hy => h y (List.mem_cons_of_mem _ hy)) hx hlt
      omega
theorem total_lt {st : T} {x : Nat} (hx : x < N) (h : ∀ y, cost nx st y ≤ cost nx s y) (hl : cost nx st x < cost nx s x) : total nx N st < total nx N s :=
  sum_lt (fun y _ => h y) (List.mem_range.2 hx) hl
theorem round_lt {cmp : List Nat → List Nat} (I : Inv nx N s) (h : s.way ≠ []) : total nx N (roundP cmp nx s) < total nx N s := by
  unfold roundP
  cases hw : s.way with
  | nil => exact absurd hw h
  | cons p r =>
    obtain ⟨v, k⟩ := p
    have hvg : gray s v := ⟨k, by rw [hw]; exact List.mem_cons_self⟩
    have hvm : s.wh v ≠ 0 := (I.met v).2 (.inl (I.gr hvg))
    have hvN := I.dom v hvm
    have hkl : k ≤ (nx v).length := (I.wr (v, k) (by rw [hw]; exact List.mem_cons_self)).2
    have cv : cost nx s v = 2 * ((nx v).length - k) + 1 := by unfold cost; rw [if_neg hvm, hw, find_head]
    have co : ∀ y, y ≠ v → cost nx s y = if s.wh y = 0 then 2 * (nx y).length + 2 else match r.find? (fun p => p.1 == y) with | some p => 2 * ((nx y).length - p.2) + 1 | none => 0 := fun y hy => by
      unfold cost; rw [hw, find_other hy]
    show total nx N (if k = (nx v).length then _ else _) < _
    by_cases hk : k = (nx v).length
    · rw [if_pos hk]
      obtain ⟨st, est⟩ : ∃ st, st = leaveP cmp v s := ⟨_, rfl⟩
      rw [← est]
      have w1 : st.way = r := by rw [est]; unfold leaveP; split <;> (show s.way.tail = r; rw [hw]; rfl)
      have e1 : st.wh = s.wh := by rw [est]; unfold leaveP; split <;> rfl
      have hno : r.find? (fun p => p.1 == v) = none := by
        rw [List.find?_eq_none]
        intro p hp
        have := I.wy
        rw [hw, List.pairwise_cons] at this
        have h7 : s.wh p.1 < s.wh v := this.1 p hp
        simp
        intro e
        rw [e] at h7
        omega
      have cst : ∀ y, cost nx st y = if s.wh y = 0 then 2 * (nx y).length + 2 else match r.find? (fun p => p.1 == y) with | some p => 2 * ((nx y).length - p.2) + 1 | none => 0 := fun y => by unfold cost; rw [w1, e1]
      have cvv : cost nx st v = 0 := by rw [cst, if_neg hvm, hno]
      refine total_lt hvN (fun y => ?_) (by rw [cvv, cv]; omega)
      by_cases e : y = v
      · subst e; rw [cvv]; exact Nat.zero_le _
      · rw [cst, co y e]; exact Nat.le_refl _
    · rw [if_neg hk]
      show total nx N (if s.wh ((nx v).getD k 0) = 0 then meetP ((nx v).getD k 0) (adv v k r s) else if (nx v).getD k 0 ∈ s.row then _ else adv v k r s) < _
      have cadv : ∀ (lo : Nat → Nat) (y : Nat), cost nx { adv v k r s with lo := lo } y ≤ cost nx s y := fun lo y => by
        by_cases e : y = v
        · subst e
          rw [cv]
          unfold cost
          show (if s.wh y = 0 then _ else match ((y, k + 1) :: r).find? _ with | some p => _ | none => _) ≤ _
          rw [if_neg hvm, find_head]
          show 2 * ((nx y).length - (k + 1)) + 1 ≤ _
          omega
        · rw [co y e]
          unfold cost
          show (if s.wh y = 0 then _ else match ((v, k + 1) :: r).find? _ with | some p => _ | none => _) ≤ _
          rw [find_other e]
          exact Nat.le_refl _
      have cadv2 : ∀ (lo : Nat → Nat), cost nx { adv v k r s with lo := lo } v < cost nx s v := fun lo => by
        rw [cv]
        unfold cost
        show (if s.wh v = 0 then _ else match ((v, k + 1) :: r).find? _ with | some p => _ | none => _) < _
        rw [if_neg hvm, find_head]
        show 2 * ((nx v).length - (k + 1)) + 1 < _
        omega
      by_cases hm : s.wh ((nx v).getD k 0) = 0
      · rw [if_pos hm]
        obtain ⟨to, eto⟩ : ∃ to, to = (nx v).getD k 0 := ⟨_, rfl⟩
        rw [← eto] at hm ⊢
        have hne : v ≠ to := fun e => hvm (by rw [e]; exact hm)
        have cm : ∀ y, y ≠ to → cost nx (meetP to (adv v k r s)) y = cost nx { adv v k r s with lo := s.lo } y := fun y hy => by
          unfold cost
          show (if up s.wh to (s.n + 1) y = 0 then _ else match ((to, 0) :: (v, k + 1) :: r).find? _ with | some p => _ | none => _) = _
          rw [up_other hy, find_other hy]; rfl
        refine total_lt hvN (fun y => ?_) (by rw [cm v hne]; exact cadv2 _)
        by_cases e : y = to
        · subst e
          have h1 : cost nx s y = 2 * (nx y).length + 2 := by unfold cost; rw [if_pos hm]
          rw [h1]
          unfold cost
          show (if up s.wh y (s.n + 1) y = 0 then _ else match ((y, 0) :: (v, k + 1) :: r).find? _ with | some p => _ | none => _) ≤ _
          rw [up_same, if_neg (by omega), find_head]
          show 2 * ((nx y).length - 0) + 1 ≤ _
          omega
        · rw [cm y e]; exact cadv _ y
      · rw [if_neg hm]
        split
        · exact total_lt hvN (fun y => cadv _ y) (cadv2 _)
        · exact total_lt hvN (fun y => cadv s.lo y) (cadv2 s.lo)
end
def iterP (cmp : List Nat → List Nat) (nx : Nat → List Nat) : Nat → T → T
  | 0, s => s
  | m + 1, s => if s.way.isEmpty then s else iterP cmp nx m (roundP cmp nx s)
def walkP (cmp : List Nat → List Nat) (nx : Nat → List Nat) (N : Nat) (s : T) : T := iterP cmp nx (total nx N s) s
def fromP (cmp : List Nat → List Nat) (nx : Nat → List Nat) (N : Nat) (i : Nat) (s : T) : T := if s.wh i = 0 then walkP cmp nx N (meetP i s) else s
def startP : T := ⟨fun _ => 0, fun _ => 0, [], [], [], 0⟩
def uptoP (cmp : List Nat → List Nat) (nx : Nat → List Nat) (N : Nat) (i : Nat) : T := (List.range i).foldl (fun s i => fromP cmp nx N i s) startP
theorem uptoP_succ (cmp : List Nat → List Nat) (nx : Nat → List Nat) (N i : Nat) : uptoP cmp nx N (i + 1) = fromP cmp nx N i (uptoP cmp nx N i) := by unfold uptoP; rw [List.range_succ, List.foldl_append]; rfl
def partsP (cmp : List Nat → List Nat) (nx : Nat → List Nat) (N : Nat) : List (List Nat) := (uptoP cmp nx N N).parts
section
variable {nx : Nat → List Nat} {N : Nat} {cmp : List Nat → List Nat}
theorem iter_end (hcm : ∀ l x, x ∈ cmp l ↔ x ∈ l) (hnx : ∀ v, ∀ x ∈ nx v, x < N) : ∀ (m : Nat) (s : T), Inv nx N s → total nx N s ≤ m → Inv nx N (iterP cmp nx m s) ∧ (iterP cmp nx m s).way = [] := by
  intro m
  induction m with
  | zero =>
    intro s I h
    refine ⟨I, ?_⟩
    show s.way = []
    cases hw : s.way with
    | nil => rfl
    | cons p r =>
      have := round_lt (cmp := cmp) I (by rw [hw]; simp)
      omega
  | succ m ih =>
    intro s I h
    unfold iterP
    cases hw : s.way with
    | nil => simp only [List.isEmpty_nil, if_true]; exact ⟨I, hw⟩
    | cons p r =>
      have hlt := round_lt (cmp := cmp) I (by rw [hw]; simp)
      simp only [List.isEmpty_cons, Bool.false_eq_true, if_false]
      exact ih _ (round_inv hcm hnx I) (by omega)
theorem start_ok : Inv nx N startP := by
  refine ⟨fun v h => absurd rfl h, fun _ => Nat.le_refl _, List.Pairwise.nil, fun v => ⟨fun h => absurd rfl h, fun h => ?_⟩, fun v h => (by cases h), List.Pairwise.nil, fun p h => (by cases h), List.Pairwise.nil, fun y h => absurd rfl h, fun v h => (by cases h), fun v h => (by cases h), fun v h => (by cases h), fun v h => (by cases h), fun v h => (by cases h), fun i l v x h => (by simp [startP] at h), fun l h => (by cases h), fun i j l m h => (by simp [startP] at h)⟩
  rcases h with h | ⟨l, h, _⟩
  · cases h
  · cases h
theorem meet_wh (i : Nat) (s : T) (v : Nat) (h : s.wh v ≠ 0) : (meetP i s).wh v ≠ 0 := by
  show up s.wh i (s.n + 1) v ≠ 0
  by_cases e : v = i
  · subst e; rw [up_same]; omega
  · rw [up_other e]; exact h
theorem round_wh (s : T) (v : Nat) (h : s.wh v ≠ 0) : (roundP cmp nx s).wh v ≠ 0 := by
  unfold roundP
  cases hw : s.way with
  | nil => exact h
  | cons p r =>
    obtain ⟨u, k⟩ := p
    show (if k = (nx u).length then leaveP cmp u s else if s.wh ((nx u).getD k 0) = 0 then meetP ((nx u).getD k 0) (adv u k r s) else if (nx u).getD k 0 ∈ s.row then { adv u k r s with lo := _ } else adv u k r s).wh v ≠ 0
    split
    · unfold leaveP; split <;> exact h
    · split
      · exact meet_wh _ _ v h
      · split <;> exact h
theorem iter_wh : ∀ (m : Nat) (s : T) (v : Nat), s.wh v ≠ 0 → (iterP cmp nx m s).wh v ≠ 0 := by
  intro m
  induction m with
  | zero => intro s v h; exact h
  | succ m ih =>
    intro s v h
    unfold iterP
    split
    · exact h
    · exact ih _ v (round_wh s v h)
theorem from_ok (hcm : ∀ l x, x ∈ cmp l ↔ x ∈ l) (hnx : ∀ v, ∀ x ∈ nx v, x < N) {s : T} (I : Inv nx N s) (h : s.way = []) {i : Nat} (hi : i < N) :
    Inv nx N (fromP cmp nx N i s) ∧ (fromP cmp nx N i s).way = [] ∧ (fromP cmp nx N i s).wh i ≠ 0 ∧ ∀ v, s.wh v ≠ 0 → (fromP cmp nx N i s).wh v ≠ 0 := by
  unfold fromP
  by_cases hm : s.wh i = 0
  · rw [if_pos hm]
    have J := start_inv I h (row_nil I h) hi hm
    obtain ⟨h1, h2⟩ := iter_end hcm hnx _ _ J (Nat.le_refl _)
    exact ⟨h1, h2, iter_wh _ _ i (by show up s.wh i (s.n + 1) i ≠ 0; rw [up_same]; omega), fun v hv => iter_wh _ _ v (meet_wh i s v hv)⟩
  · rw [if_neg hm]
    exact ⟨I, h, hm, fun v hv => hv⟩
theorem upto_ok (hcm : ∀ l x, x ∈ cmp l ↔ x ∈ l) (hnx : ∀ v, ∀ x ∈ nx v, x < N) : ∀ i, i ≤ N → Inv nx N (uptoP cmp nx N i) ∧ (uptoP cmp nx N i).way = [] ∧ ∀ v, v < i → (uptoP cmp nx N i).wh v ≠ 0 := by
  intro i
  induction i with
  | zero => intro _; exact ⟨start_ok, rfl, fun v hv => absurd hv (by omega)⟩
  | succ i ih =>
    intro hi
    obtain ⟨I, h, hv⟩ := ih (by omega)
    rw [uptoP_succ]
    obtain ⟨I', h', hi', hk⟩ := from_ok hcm hnx I h (i := i) (by omega)
    refine ⟨I', h', fun v hvi => ?_⟩
    rcases (by omega : v < i ∨ v = i) with e | rfl
    · exact hk v (hv v e)
    · exact hi'
structure PartsOK (nx : Nat → List Nat) (N : Nat) (P : List (List Nat)) : Prop where
  all : ∀ v, v < N ↔ ∃ l ∈ P, v ∈ l
  one : ∀ (i j : Nat) (l m : List Nat), P[i]? = some l → P[j]? = some m → i ≠ j → ∀ v ∈ l, v ∉ m
  cl : ∀ (i : Nat) (l : List Nat) (v x : Nat), P[i]? = some l → v ∈ l → x ∈ nx v → ∃ (j : Nat) (m : List Nat), j ≤ i ∧ P[j]? = some m ∧ x ∈ m
  sc : ∀ l ∈ P, l ≠ [] ∧ ∀ a ∈ l, ∀ b ∈ l, Re nx a b
theorem parts_ok (hcm : ∀ l x, x ∈ cmp l ↔ x ∈ l) (hnx : ∀ v, ∀ x ∈ nx v, x < N) : PartsOK nx N (partsP cmp nx N) := by
  obtain ⟨I, h, hv⟩ := upto_ok hcm hnx N (Nat.le_refl _)
  have hr := row_nil I h
  refine ⟨fun v => ?_, I.pd, I.cl, I.sc⟩
  constructor
  · intro hvN
    have := (I.met v).1 (hv v hvN)
    rw [hr] at this
    rcases this with h1 | h1
    · cases h1
    · exact h1
  · intro h1
    exact I.dom v ((I.met v).2 (.inr h1))
theorem PartsOK.re {P : List (List Nat)} (K : PartsOK nx N P) {i : Nat} {l : List Nat} (hl : P[i]? = some l) {a b : Nat} (ha : a ∈ l) (h : Re nx a b) : ∃ (j : Nat) (m : List Nat), j ≤ i ∧ P[j]? = some m ∧ b ∈ m := by
  induction h with
  | refl => exact ⟨i, l, Nat.le_refl _, hl, ha⟩
  | step _ e ih =>
    obtain ⟨j, m, h1, h2, h3⟩ := ih
    obtain ⟨j', m', h4, h5, h6⟩ := K.cl j m _ _ h2 h3 e
    exact ⟨j', m', by omega, h5, h6⟩
theorem PartsOK.iff {P : List (List Nat)} (K : PartsOK nx N P) {i : Nat} {l : List Nat} (hl : P[i]? = some l) {a b : Nat} (ha : a ∈ l) : b ∈ l ↔ Re nx a b ∧ Re nx b a := by
  constructor
  · intro hb
    have := (K.sc l (List.mem_of_getElem? hl)).2
    exact ⟨this a ha b hb, this b hb a ha⟩
  · rintro ⟨h1, h2⟩
    obtain ⟨j, m, hj, hm, hb⟩ := K.re hl ha h1
    obtain ⟨j', m', hj', hm', ha'⟩ := K.re hm hb h2
    by_cases e : j' = i
    · have : j = i := by omega
      subst this
      rw [hl] at hm
      injection hm with hm
      rw [hm]; exact hb
    · exact absurd ha' (K.one i j' l m' hl hm' (fun h => e h.symm) a ha)
end
end Go.Proofs.YtligpleningglaaGreat.Tarjan
namespace Go.Proofs.YtligpleningglaaGreat.Tarjan
def leftR (nx : Nat → List Nat) (s : T) (left : List Nat) : List Nat := match s.way with
  | [] => left
  | (v, k) :: _ => if k = (nx v).length then left ++ [v] else left
def emit (P : List (List Nat)) : List Nat → List (List Nat)
  | [] => []
  | v :: r => (match P.find? (fun l => l.contains v) with | some l => if l.all (fun k => !r.contains k) then [l] else [] | none => []) ++ emit P r
section
variable {nx : Nat → List Nat} {N : Nat} {cmp : List Nat → List Nat} {s : T}
theorem emit_snoc_none {P : List (List Nat)} {v : Nat} (hv : ∀ l ∈ P, v ∉ l) : ∀ left : List Nat, emit P (left ++ [v]) = emit P left := by
  have hn : P.find? (fun l => l.contains v) = none := List.find?_eq_none.2 (fun l hl => by simpa using hv l hl)
  intro left
  induction left with
  | nil =>
    show (match P.find? _ with | some l => _ | none => []) ++ [] = []
    rw [hn]; rfl
  | cons u r ih =>
    show (match P.find? (fun l => l.contains u) with | some l => if l.all (fun k => !(r ++ [v]).contains k) then [l] else [] | none => []) ++ emit P (r ++ [v]) = (match P.find? (fun l => l.contains u) with | some l => if l.all (fun k => !r.contains k) then [l] else [] | none => []) ++ emit P r
    rw [ih]
    congr 1
    cases hf : P.find? (fun l => l.contains u) with
    | none => rfl
    | some l =>
      have hl := List.mem_of_find?_eq_some hf
      show (if _ then _ else _) = (if _ then _ else _)
      have : l.all (fun k => !(r ++ [v]).contains k) = l.all (fun k => !r.contains k) := by
        rw [Bool.eq_iff_iff, List.all_eq_true, List.all_eq_true]
        constructor
        · intro h k hk
          have := h k hk
          simp at this ⊢
          exact this.1
        · intro h k hk
          have := h k hk
          simp at this ⊢
          exact ⟨this, fun e => hv l hl (e ▸ hk)⟩
      rw [this]
theorem emit_snoc_part {P : List (List Nat)} {C : List Nat} {v : Nat} (hvC : v ∈ C) (hd : ∀ l ∈ P, ∀ x ∈ C, x ∉ l) : ∀ left : List Nat, emit (P ++ [C]) (left ++ [v]) = emit P left ++ [C] := by
  have hfC : ∀ x ∈ C, (P ++ [C]).find? (fun l => l.contains x) = some C := fun x hx => by
    rw [List.find?_append, List.find?_eq_none.2 (fun l hl => by simpa using hd l hl x hx)]
    simp [hx]
  have hfP : ∀ x, x ∉ C → (P ++ [C]).find? (fun l => l.contains x) = P.find? (fun l => l.contains x) := fun x hx => by
    rw [List.find?_append]
    cases P.find? (fun l => l.contains x) with
    | some l => rfl
    | none => simp [hx]
  intro left
  induction left with
  | nil =>
    show (match (P ++ [C]).find? (fun l => l.contains v) with | some l => if l.all (fun k => !([] : List Nat).contains k) then [l] else [] | none => []) ++ [] = [] ++ [C]
    rw [hfC v hvC]
    simp
  | cons u r ih =>
    show (match (P ++ [C]).find? (fun l => l.contains u) with | some l => if l.all (fun k => !(r ++ [v]).contains k) then [l] else [] | none => []) ++ emit (P ++ [C]) (r ++ [v]) = ((match P.find? (fun l => l.contains u) with | some l => if l.all (fun k => !r.contains k) then [l] else [] | none => []) ++ emit P r) ++ [C]
    rw [ih, ← List.append_assoc]
    congr 1
    congr 1
    by_cases hu : u ∈ C
    · rw [hfC u hu, List.find?_eq_none.2 (fun l hl => by simpa using hd l hl u hu)]
      show (if _ then _ else _) = []
      rw [if_neg]
      rw [List.all_eq_true]
      intro h
      have := h v hvC
      simp at this
    · rw [hfP u hu]
      cases hf : P.find? (fun l => l.contains u) with
      | none => rfl
      | some l =>
        have hl := List.mem_of_find?_eq_some hf
        show (if _ then _ else _) = (if _ then _ else _)
        have : l.all (fun k => !(r ++ [v]).contains k) = l.all (fun k => !r.contains k) := by
          rw [Bool.eq_iff_iff, List.all_eq_true, List.all_eq_true]
          constructor
          · intro h k hk
            have := h k hk
            simp at this ⊢
            exact this.1
          · intro h k hk
            have := h k hk
            simp at this ⊢
            exact ⟨this, fun e => hd l hl v hvC (e ▸ hk)⟩
        rw [this]
theorem round_left (hcm : ∀ l x, x ∈ cmp l ↔ x ∈ l) (I : Inv nx N s) {left : List Nat} (h : emit s.parts left = s.parts) : emit (roundP cmp nx s).parts (leftR nx s left) = (roundP cmp nx s).parts := by
  unfold roundP leftR
  cases hw : s.way with
  | nil => exact h
  | cons p r =>
    obtain ⟨v, k⟩ := p
    have hvr : v ∈ s.row := I.gr ⟨k, by rw [hw]; exact List.mem_cons_self⟩
    have hvp : ∀ l ∈ s.parts, v ∉ l := I.dis v hvr
    show emit (if k = (nx v).length then leaveP cmp v s else if s.wh ((nx v).getD k 0) = 0 then meetP ((nx v).getD k 0) (adv v k r s) else if (nx v).getD k 0 ∈ s.row then { adv v k r s with lo := _ } else adv v k r s).parts (if k = (nx v).length then left ++ [v] else left) = (if k = (nx v).length then leaveP cmp v s else if s.wh ((nx v).getD k 0) = 0 then meetP ((nx v).getD k 0) (adv v k r s) else if (nx v).getD k 0 ∈ s.row then { adv v k r s with lo := _ } else adv v k r s).parts
    by_cases hk : k = (nx v).length
    · rw [if_pos hk, if_pos hk]
      unfold leaveP
      by_cases hc : lowP v s v ≠ s.wh v
      · rw [if_pos hc]
        show emit s.parts (left ++ [v]) = s.parts
        rw [emit_snoc_none hvp, h]
      · rw [if_neg hc]
        obtain ⟨A, B, hsp, hA, hB, ltA, gtB⟩ := row_split I hvr
        show emit (s.parts ++ [cmp (s.row.dropWhile (fun j => j != v))]) (left ++ [v]) = s.parts ++ [cmp (s.row.dropWhile (fun j => j != v))]
        rw [hB, emit_snoc_part ((hcm _ _).2 List.mem_cons_self), h]
        intro l hl x hx
        have hxB := (hcm _ _).1 hx
        exact I.dis x (by rw [hsp]; exact List.mem_append_right _ hxB) l hl
    · rw [if_neg hk, if_neg hk]
      split
      · exact h
      · split <;> exact h
end
end Go.Proofs.YtligpleningglaaGreat.Tarjan
namespace Go.Proofs.YtligpleningglaaGreat.Tarjan
def upB (m : Nat → Bool) (i : Nat) : Nat → Bool := fun j => if j = i then true else m j
theorem upB_same (m : Nat → Bool) (i : Nat) : upB m i i = true := by simp [upB]
theorem upB_other {m : Nat → Bool} {i j : Nat} (h : j ≠ i) : upB m i j = m j := by simp [upB, h]
theorem upB_mono {m : Nat → Bool} {i j : Nat} (h : m j = true) : upB m i j = true := by unfold upB; split <;> simp_all
def walkD (nx : Nat → List Nat) : Nat → Nat → (Nat → Bool) × List Nat → (Nat → Bool) × List Nat
  | 0, _, s => s
  | f + 1, i, s =>
    let t := (nx i).foldl (fun s k => if s.1 k then s else walkD nx f k s) (upB s.1 i, s.2)
    (t.1, t.2 ++ [i])
def cnt (N : Nat) (m : Nat → Bool) : Nat := (List.range N).countP (fun v => !m v)
theorem cnt_mono {N : Nat} {m m' : Nat → Bool} (h : ∀ v, m v = true → m' v = true) : cnt N m' ≤ cnt N m := by
  unfold cnt
  refine List.countP_mono_left (fun v _ h' => ?_)
  cases e : m v with
  | false => rfl
  | true => simp [h v e] at h'
theorem cnt_le (N : Nat) (m : Nat → Bool) : cnt N m ≤ N := by
  unfold cnt; exact Nat.le_trans List.countP_le_length (by simp)
theorem countP_up {l : List Nat} (hl : l.Nodup) {m : Nat → Bool} {i : Nat} (hi : i ∈ l) (hm : m i = false) : l.countP (fun v => !upB m i v) + 1 = l.countP (fun v => !m v) := by
  induction l with
  | nil => cases hi
  | cons a r ih =>
    rw [List.nodup_cons] at hl
    rw [List.countP_cons, List.countP_cons]
    rcases List.mem_cons.1 hi with e | hi
    · subst e
      rw [upB_same, hm]
      have : r.countP (fun v => !upB m i v) = r.countP (fun v => !m v) := List.countP_congr (fun v hv => by
        rw [upB_other (fun e => hl.1 (by rw [← e]; exact hv))])
      simp [this]
    · have ha : a ≠ i := fun e => hl.1 (e ▸ hi)
      have := ih hl.2 hi
      rw [upB_other ha]
      omega
theorem cnt_up {N : Nat} {m : Nat → Bool} {i : Nat} (hi : i < N) (hm : m i = false) : cnt N (upB m i) + 1 = cnt N m :=
  countP_up List.nodup_range (List.mem_range.2 hi) hm
theorem cnt_pos {N : Nat} {m : Nat → Bool} {i : Nat} (hi : i < N) (hm : m i = false) : 0 < cnt N m := by have := cnt_up hi hm; omega
section
variable {nx : Nat → List Nat} {N : Nat}
theorem foldD_mono {g : Nat → (Nat → Bool) × List Nat → (Nat → Bool) × List Nat} (hg : ∀ k s v, s.1 v = true → (g k s).1 v = true) : ∀ (es : List Nat) (s : (Nat → Bool) × List Nat) (v : Nat), s.1 v = true → (es.foldl (fun s k => if s.1 k then s else g k s) s).1 v = true := by
  intro es
  induction es with
  | nil => intro s v h; exact h
  | cons e es ih =>
    intro s v h
    rw [List.foldl_cons]
    split
    · exact ih s v h
    · exact ih _ v (hg e s v h)
theorem walkD_mono : ∀ (f i : Nat) (s : (Nat → Bool) × List Nat) (v : Nat), s.1 v = true → (walkD nx f i s).1 v = true := by
  intro f
  induction f with
  | zero => intro i s v h; exact h
  | succ f ih =>
    intro i s v h
    exact foldD_mono (fun k s v => ih k s v) _ _ v (upB_mono h)
theorem foldD_left {g : Nat → (Nat → Bool) × List Nat → (Nat → Bool) × List Nat} {P : Nat → Prop} : ∀ (es : List Nat) (_ : ∀ k ∈ es, ∀ s, (∀ v ∈ s.2, P v) → ∀ v ∈ (g k s).2, P v) (s : (Nat → Bool) × List Nat), (∀ v ∈ s.2, P v) → ∀ v ∈ (es.foldl (fun s k => if s.1 k then s else g k s) s).2, P v := by
  intro es
  induction es with
  | nil => intro _ s h; exact h
  | cons e es ih =>
    intro hg s h
    rw [List.foldl_cons]
    split
    · exact ih (fun k hk => hg k (List.mem_cons_of_mem _ hk)) s h
    · exact ih (fun k hk => hg k (List.mem_cons_of_mem _ hk)) _ (hg e List.mem_cons_self s h)
theorem walkD_left (hnx : ∀ v, ∀ x ∈ nx v, x < N) : ∀ (f i : Nat) (s : (Nat → Bool) × List Nat), i < N → (∀ v ∈ s.2, v < N) → ∀ v ∈ (walkD nx f i s).2, v < N := by
  intro f
  induction f with
  | zero => intro i s _ h; exact h
  | succ f ih =>
    intro i s hi h v hv
    have hv' : v ∈ ((nx i).foldl (fun s k => if s.1 k then s else walkD nx f k s) (upB s.1 i, s.2)).2 ++ [i] := hv
    rw [List.mem_append, List.mem_singleton] at hv'
    rcases hv' with h1 | h1
    · exact foldD_left (P := fun v => v < N) (nx i) (fun k hk s hs => ih k s (hnx i k hk) hs) (upB s.1 i, s.2) h v h1
    · rw [h1]; exact hi
inductive D (nx : Nat → List Nat) : List (Nat × List Nat) → (Nat → Bool) → List Nat → (Nat → Bool) → List Nat → Prop
  | nil (m l) : D nx [] m l m l
  | lv {v r m l m' l'} : D nx r m (l ++ [v]) m' l' → D nx ((v, []) :: r) m l m' l'
  | sk {v k es r m l m' l'} : m k = true → D nx ((v, es) :: r) m l m' l' → D nx ((v, k :: es) :: r) m l m' l'
  | mt {v k es r m l m' l'} : m k = false → D nx ((k, nx k) :: (v, es) :: r) (upB m k) l m' l' → D nx ((v, k :: es) :: r) m l m' l'
theorem D_fold {f : Nat} (ih : ∀ (k : Nat) (s : (Nat → Bool) × List Nat), k < N → s.1 k = false → cnt N s.1 ≤ f → ∀ r M L, D nx r (walkD nx f k s).1 (walkD nx f k s).2 M L → D nx ((k, nx k) :: r) (upB s.1 k) s.2 M L) (v : Nat) (r : List (Nat × List Nat)) (M : Nat → Bool) (L : List Nat) :
    ∀ (es : List Nat) (s : (Nat → Bool) × List Nat), (∀ x ∈ es, x < N) → cnt N s.1 ≤ f →
    D nx ((v, []) :: r) (es.foldl (fun s k => if s.1 k then s else walkD nx f k s) s).1 (es.foldl (fun s k => if s.1 k then s else walkD nx f k s) s).2 M L → D nx ((v, es) :: r) s.1 s.2 M L := by
  intro es
  induction es with
  | nil => intro s _ _ h; exact h
  | cons k es ihes =>
    intro s hes hc h
    rw [List.foldl_cons] at h
    cases e : s.1 k with
    | true =>
      rw [e] at h
      exact .sk e (ihes s (fun x hx => hes x (List.mem_cons_of_mem _ hx)) hc h)
    | false =>
      rw [e] at h
      refine .mt e (ih k s (hes k List.mem_cons_self) e hc _ M L (ihes _ (fun x hx => hes x (List.mem_cons_of_mem _ hx)) ?_ h))
      exact Nat.le_trans (cnt_mono (fun v hv => walkD_mono f k s v hv)) hc
theorem D_walk (hnx : ∀ v, ∀ x ∈ nx v, x < N) : ∀ (f k : Nat) (s : (Nat → Bool) × List Nat), k < N → s.1 k = false → cnt N s.1 ≤ f → ∀ r M L, D nx r (walkD nx f k s).1 (walkD nx f k s).2 M L → D nx ((k, nx k) :: r) (upB s.1 k) s.2 M L := by
  intro f
  induction f with
  | zero => intro k s hk hm hc; have := cnt_pos hk hm; omega
  | succ f ih =>
    intro k s hk hm hc r M L h
    have hu := cnt_up hk hm
    exact D_fold ih k r M L (nx k) (upB s.1 k, s.2) (hnx k) (by show cnt N (upB s.1 k) ≤ f; omega) (.lv h)
def tasks (nx : Nat → List Nat) (s : T) : List (Nat × List Nat) := s.way.map (fun p => (p.1, (nx p.1).drop p.2))
def metB (s : T) : Nat → Bool := fun v => decide (s.wh v ≠ 0)
theorem metB_meet (i : Nat) (s : T) : metB (meetP i s) = upB (metB s) i := by
  funext v
  show decide (up s.wh i (s.n + 1) v ≠ 0) = _
  by_cases e : v = i
  · subst e; rw [up_same, upB_same]; simp
  · rw [up_other e, upB_other e]; rfl
variable {cmp : List Nat → List Nat} {s : T}
theorem round_D (I : Inv nx N s) (hne : s.way ≠ []) {left : List Nat} {M : Nat → Bool} {L : List Nat} (h : D nx (tasks nx s) (metB s) left M L) :
    D nx (tasks nx (roundP cmp nx s)) (metB (roundP cmp nx s)) (leftR nx s left) M L := by
  unfold roundP leftR
  cases hw : s.way with
  | nil => exact absurd hw hne
  | cons p r =>
    obtain ⟨v, k⟩ := p
    have hk' : k ≤ (nx v).length := (I.wr (v, k) (by rw [hw]; exact List.mem_cons_self)).2
    have ht : tasks nx s = (v, (nx v).drop k) :: r.map (fun p => (p.1, (nx p.1).drop p.2)) := by unfold tasks; rw [hw]; rfl
    rw [ht] at h
    show D nx (tasks nx (if k = (nx v).length then leaveP cmp v s else if s.wh ((nx v).getD k 0) = 0 then meetP ((nx v).getD k 0) (adv v k r s) else if (nx v).getD k 0 ∈ s.row then { adv v k r s with lo := _ } else adv v k r s)) (metB (if k = (nx v).length then leaveP cmp v s else if s.wh ((nx v).getD k 0) = 0 then meetP ((nx v).getD k 0) (adv v k r s) else if (nx v).getD k 0 ∈ s.row then { adv v k r s with lo := _ } else adv v k r s)) (if k = (nx v).length then left ++ [v] else left) M L
    by_cases hk : k = (nx v).length
    · rw [if_pos hk, if_pos hk]
      rw [hk, List.drop_length] at h
      have h2 : tasks nx (leaveP cmp v s) = r.map (fun p => (p.1, (nx p.1).drop p.2)) := by
        unfold leaveP tasks
        split <;> (show s.way.tail.map _ = _; rw [hw]; rfl)
      have h3 : metB (leaveP cmp v s) = metB s := by unfold leaveP; split <;> rfl
      rw [h2, h3]
      cases h with
      | lv h => exact h
    · rw [if_neg hk, if_neg hk]
      have hkl : k < (nx v).length := by omega
      have hd : (nx v).drop k = (nx v).getD k 0 :: (nx v).drop (k + 1) := by
        rw [List.drop_eq_getElem_cons hkl, List.getD_eq_getElem?_getD, List.getElem?_eq_getElem hkl]; rfl
      rw [hd] at h
      cases h with
      | sk hm h =>
        have hm' : ¬ s.wh ((nx v).getD k 0) = 0 := by simpa [metB] using hm
        rw [if_neg hm']
        split <;> exact h
      | mt hm h =>
        have hm' : s.wh ((nx v).getD k 0) = 0 := by simpa [metB] using hm
        rw [if_pos hm', metB_meet]
        exact h
theorem D_nil {m l M L} (h : D nx [] m l M L) : m = M ∧ l = L := by cases h; exact ⟨rfl, rfl⟩
theorem iter_D (hcm : ∀ l x, x ∈ cmp l ↔ x ∈ l) (hnx : ∀ v, ∀ x ∈ nx v, x < N) {M : Nat → Bool} {L : List Nat} : ∀ (m : Nat) (s : T) (left : List Nat), Inv nx N s → total nx N s ≤ m → emit s.parts left = s.parts → D nx (tasks nx s) (metB s) left M L →
    metB (iterP cmp nx m s) = M ∧ emit (iterP cmp nx m s).parts L = (iterP cmp nx m s).parts := by
  intro m
  induction m with
  | zero =>
    intro s left I ht he h
    cases hw : s.way with
    | nil =>
      unfold tasks at h
      rw [hw] at h
      obtain ⟨h1, h2⟩ := D_nil h
      exact ⟨h1, by rw [← h2]; exact he⟩
    | cons p r =>
      have := round_lt (cmp := cmp) I (by rw [hw]; simp)
      omega
  | succ m ih =>
    intro s left I ht he h
    unfold iterP
    cases hw : s.way with
    | nil =>
      simp only [List.isEmpty_nil, if_true]
      unfold tasks at h
      rw [hw] at h
      obtain ⟨h1, h2⟩ := D_nil h
      exact ⟨h1, by rw [← h2]; exact he⟩
    | cons p r =>
      have hlt := round_lt (cmp := cmp) I (by rw [hw]; simp)
      simp only [List.isEmpty_cons, Bool.false_eq_true, if_false]
      exact ih _ (leftR nx s left) (round_inv hcm hnx I) (by omega) (round_left hcm I he) (round_D I (by rw [hw]; simp) h)
def uptoD (nx : Nat → List Nat) (N i : Nat) : (Nat → Bool) × List Nat := (List.range i).foldl (fun s i => if s.1 i then s else walkD nx N i s) (fun _ => false, [])
theorem uptoD_succ (nx : Nat → List Nat) (N i : Nat) : uptoD nx N (i + 1) = if (uptoD nx N i).1 i then uptoD nx N i else walkD nx N i (uptoD nx N i) := by
  unfold uptoD; rw [List.range_succ, List.foldl_append]; rfl
theorem upto_D (hcm : ∀ l x, x ∈ cmp l ↔ x ∈ l) (hnx : ∀ v, ∀ x ∈ nx v, x < N) : ∀ i, i ≤ N → metB (uptoP cmp nx N i) = (uptoD nx N i).1 ∧ emit (uptoP cmp nx N i).parts (uptoD nx N i).2 = (uptoP cmp nx N i).parts := by
  intro i
  induction i with
  | zero => intro _; exact ⟨by funext v; simp [metB, uptoP, uptoD, startP], rfl⟩
  | succ i ih =>
    intro hi
    obtain ⟨h1, h2⟩ := ih (by omega)
    obtain ⟨I, hw, _⟩ := upto_ok hcm hnx i (by omega)
    rw [uptoP_succ, uptoD_succ]
    unfold fromP
    by_cases hm : (uptoP cmp nx N i).wh i = 0
    · have hmb : (uptoD nx N i).1 i = false := by rw [← h1]; simp [metB, hm]
      rw [if_pos hm, hmb]
      have J := start_inv I hw (row_nil I hw) (i := i) (by omega) hm
      refine iter_D hcm hnx _ _ (uptoD nx N i).2 J (Nat.le_refl _) h2 ?_
      have ht : tasks nx (meetP i (uptoP cmp nx N i)) = [(i, nx i)] := by
        unfold tasks meetP
        show ((i, 0) :: (uptoP cmp nx N i).way).map _ = _
        rw [hw]; rfl
      rw [ht, metB_meet, h1]
      exact D_walk hnx N i _ (by omega) hmb (cnt_le _ _) [] _ _ (.nil _ _)
    · have hmb : (uptoD nx N i).1 i = true := by rw [← h1]; simp [metB, hm]
      rw [if_neg hm, hmb]
      exact ⟨h1, h2⟩
theorem uptoD_left (hnx : ∀ v, ∀ x ∈ nx v, x < N) : ∀ i, i ≤ N → ∀ v ∈ (uptoD nx N i).2, v < N := by
  intro i
  induction i with
  | zero => intro _ v hv; cases hv
  | succ i ih =>
    intro hi
    rw [uptoD_succ]
    split
    · exact ih (by omega)
    · exact walkD_left hnx _ _ _ (by omega) (ih (by omega))
def leftD (nx : Nat → List Nat) (N : Nat) : List Nat := (uptoD nx N N).2
theorem parts_left (hcm : ∀ l x, x ∈ cmp l ↔ x ∈ l) (hnx : ∀ v, ∀ x ∈ nx v, x < N) : emit (partsP cmp nx N) (leftD nx N) = partsP cmp nx N := (upto_D hcm hnx N (Nat.le_refl _)).2
end
end Go.Proofs.YtligpleningglaaGreat.Tarjan
namespace Go.Proofs.YtligpleningglaaGreat.Tarjan
def Re1 (nx : Nat → List Nat) (a b : Nat) : Prop := ∃ c, c ∈ nx a ∧ Re nx c b
def refP (al : Nat → Nat → Bool) (N : Nat) : List Nat → List (List Nat)
  | [] => []
  | v :: r =>
    let l := (List.range N).filter (fun k => k == v || al k v && al v k)
    (if l.all (fun k => !r.contains k) then [l] else []) ++ refP al N r
section
variable {nx : Nat → List Nat} {N : Nat} {cmp : List Nat → List Nat}
theorem round_sorted (hs : ∀ l, (cmp l).Pairwise (· < ·)) {s : T} (h : ∀ l ∈ s.parts, l.Pairwise (· < ·)) : ∀ l ∈ (roundP cmp nx s).parts, l.Pairwise (· < ·) := by
  unfold roundP
  cases hw : s.way with
  | nil => exact h
  | cons p r =>
    obtain ⟨u, k⟩ := p
    show ∀ l ∈ (if k = (nx u).length then leaveP cmp u s else if s.wh ((nx u).getD k 0) = 0 then meetP ((nx u).getD k 0) (adv u k r s) else if (nx u).getD k 0 ∈ s.row then { adv u k r s with lo := _ } else adv u k r s).parts, _
    split
    · unfold leaveP
      split
      · exact h
      · intro l hl
        have hl' : l ∈ s.parts ++ [cmp (s.row.dropWhile (fun j => j != u))] := hl
        rw [List.mem_append, List.mem_singleton] at hl'
        rcases hl' with h1 | h1
        · exact h l h1
        · rw [h1]; exact hs _
    · split
      · exact h
      · split <;> exact h
theorem iter_sorted (hs : ∀ l, (cmp l).Pairwise (· < ·)) : ∀ (m : Nat) (s : T), (∀ l ∈ s.parts, l.Pairwise (· < ·)) → ∀ l ∈ (iterP cmp nx m s).parts, l.Pairwise (· < ·) := by
  intro m
  induction m with
  | zero => intro s h; exact h
  | succ m ih =>
    intro s h
    unfold iterP
    split
    · exact h
    · exact ih _ (round_sorted hs h)
theorem parts_sorted (hs : ∀ l, (cmp l).Pairwise (· < ·)) : ∀ l ∈ partsP cmp nx N, l.Pairwise (· < ·) := by
  have : ∀ i, ∀ l ∈ (uptoP cmp nx N i).parts, l.Pairwise (· < ·) := by
    intro i
    induction i with
    | zero => intro l hl; cases hl
    | succ i ih =>
      rw [uptoP_succ]
      unfold fromP
      split
      · exact iter_sorted hs _ _ ih
      · exact ih
  exact this N
theorem sorted_eq : ∀ {a b : List Nat}, a.Pairwise (· < ·) → b.Pairwise (· < ·) → (∀ x, x ∈ a ↔ x ∈ b) → a = b := by
  intro a
  induction a with
  | nil =>
    intro b _ _ h
    cases b with
    | nil => rfl
    | cons y b => exact absurd ((h y).2 List.mem_cons_self) (by simp)
  | cons x a ih =>
    intro b ha hb h
    cases b with
    | nil => exact absurd ((h x).1 List.mem_cons_self) (by simp)
    | cons y b =>
      rw [List.pairwise_cons] at ha hb
      have e : x = y := by
        have h1 := (h x).1 List.mem_cons_self
        have h2 := (h y).2 List.mem_cons_self
        rw [List.mem_cons] at h1 h2
        rcases h1 with h1 | h1
        · exact h1
        · rcases h2 with h2 | h2
          · exact h2.symm
          · have := ha.1 y h2; have := hb.1 x h1; omega
      subst e
      congr 1
      refine ih ha.2 hb.2 (fun z => ?_)
      have := h z
      rw [List.mem_cons, List.mem_cons] at this
      constructor
      · intro hz
        rcases this.1 (.inr hz) with h1 | h1
        · subst h1; have := ha.1 z hz; omega
        · exact h1
      · intro hz
        rcases this.2 (.inr hz) with h1 | h1
        · subst h1; have := hb.1 z hz; omega
        · exact h1
theorem range_sorted (N : Nat) : (List.range N).Pairwise (· < ·) := List.pairwise_lt_range
theorem Re1.to {a b : Nat} (h : Re1 nx a b) : Re nx a b := by
  obtain ⟨c, h1, h2⟩ := h
  exact (Re.edge h1).trans h2
theorem Re.one {a b : Nat} (h : Re nx a b) : a = b ∨ Re1 nx a b := by
  induction h with
  | refl => exact .inl rfl
  | step h1 e ih =>
    rcases ih with rfl | ⟨c, h2, h3⟩
    · exact .inr ⟨_, e, .refl _⟩
    · exact .inr ⟨c, h2, .step h3 e⟩
theorem PartsOK.find {P : List (List Nat)} (K : PartsOK nx N P) {l : List Nat} (hl : l ∈ P) {v : Nat} (hv : v ∈ l) : P.find? (fun l => l.contains v) = some l := by
  cases hf : P.find? (fun l => l.contains v) with
  | none =>
    have := List.find?_eq_none.1 hf l hl
    simp at this
    exact absurd hv this
  | some m =>
    have h1 := List.mem_of_find?_eq_some hf
    have h2 := List.find?_some hf
    have h3 : v ∈ m := by simpa using h2
    obtain ⟨i, hi, e⟩ := List.getElem_of_mem hl
    obtain ⟨j, hj, e'⟩ := List.getElem_of_mem h1
    by_cases hij : i = j
    · subst hij; rw [← e, ← e']
    · exact absurd h3 (K.one i j l m (by rw [List.getElem?_eq_getElem hi, e]) (by rw [List.getElem?_eq_getElem hj, e']) hij v hv)
theorem PartsOK.ref {P : List (List Nat)} (K : PartsOK nx N P) (hs : ∀ l ∈ P, l.Pairwise (· < ·)) {al : Nat → Nat → Bool} (hal : ∀ a b, a < N → b < N → (al a b = true ↔ Re1 nx a b)) {l : List Nat} (hl : l ∈ P) {v : Nat} (hv : v ∈ l) :
    (List.range N).filter (fun k => k == v || al k v && al v k) = l := by
  have hvN : v < N := (K.all v).2 ⟨l, hl, hv⟩
  obtain ⟨i, hi, e⟩ := List.getElem_of_mem hl
  refine sorted_eq ((range_sorted N).filter _) (hs l hl) (fun x => ?_)
  rw [List.mem_filter, List.mem_range, K.iff (i := i) (by rw [List.getElem?_eq_getElem hi, e]) hv]
  simp only [Bool.or_eq_true, beq_iff_eq, Bool.and_eq_true]
  constructor
  · rintro ⟨hx, h1 | ⟨h1, h2⟩⟩
    · subst h1; exact ⟨.refl _, .refl _⟩
    · exact ⟨((hal v x hvN hx).1 h2).to, ((hal x v hx hvN).1 h1).to⟩
  · rintro ⟨h1, h2⟩
    have hx : x < N := by
      obtain ⟨j, m, _, h4, h5⟩ := K.re (i := i) (by rw [List.getElem?_eq_getElem hi, e]) hv h1
      exact (K.all x).2 ⟨m, List.mem_of_getElem? h4, h5⟩
    refine ⟨hx, ?_⟩
    rcases h1.one with e1 | e1
    · exact .inl e1.symm
    · rcases h2.one with e2 | e2
      · exact .inl e2
      · exact .inr ⟨(hal x v hx hvN).2 e2, (hal v x hvN hx).2 e1⟩
theorem PartsOK.ref_emit {P : List (List Nat)} (K : PartsOK nx N P) (hs : ∀ l ∈ P, l.Pairwise (· < ·)) {al : Nat → Nat → Bool} (hal : ∀ a b, a < N → b < N → (al a b = true ↔ Re1 nx a b)) : ∀ (left : List Nat), (∀ v ∈ left, v < N) → refP al N left = emit P left := by
  intro left
  induction left with
  | nil => intro _; rfl
  | cons v r ih =>
    intro h
    obtain ⟨l, hl, hv⟩ := (K.all v).1 (h v List.mem_cons_self)
    show (if ((List.range N).filter (fun k => k == v || al k v && al v k)).all (fun k => !r.contains k) then [(List.range N).filter (fun k => k == v || al k v && al v k)] else []) ++ refP al N r = (match P.find? (fun l => l.contains v) with | some l => if l.all (fun k => !r.contains k) then [l] else [] | none => []) ++ emit P r
    rw [K.find hl hv, K.ref hs hal hl hv, ih (fun x hx => h x (List.mem_cons_of_mem _ hx))]
theorem parts_ref (hcm : ∀ l x, x ∈ cmp l ↔ x ∈ l) (hs : ∀ l, (cmp l).Pairwise (· < ·)) (hnx : ∀ v, ∀ x ∈ nx v, x < N) {al : Nat → Nat → Bool} (hal : ∀ a b, a < N → b < N → (al a b = true ↔ Re1 nx a b)) :
    refP al N (leftD nx N) = partsP cmp nx N := by
  rw [(parts_ok hcm hnx).ref_emit (parts_sorted hs) hal (leftD nx N) (uptoD_left hnx N (Nat.le_refl _)), parts_left hcm hnx]
end
def seeR (s : (Nat → Bool) × List Nat) (k : Nat) : (Nat → Bool) × List Nat := if s.1 k then s else (upB s.1 k, s.2 ++ [k])
def reachR (es : Nat → List Nat) : Nat → (Nat → Bool) × List Nat → (Nat → Bool) × List Nat
  | 0, s => s
  | f + 1, s => match s.2.reverse with
    | [] => s
    | i :: w => reachR es f ((es i).foldl seeR (s.1, w.reverse))
section
variable {es : Nat → List Nat} {N : Nat}
structure InvR (es : Nat → List Nat) (N a : Nat) (s : (Nat → Bool) × List Nat) : Prop where
  dom : ∀ v, s.1 v = true → v < N
  wt : ∀ v ∈ s.2, v = a ∨ s.1 v = true
  snd : ∀ v, s.1 v = true → Re1 es a v
  cl : ∀ v, (v = a ∨ s.1 v = true) → v ∉ s.2 → ∀ x ∈ es v, s.1 x = true
theorem see_cnt (s : (Nat → Bool) × List Nat) (k : Nat) (hk : k < N) : cnt N (seeR s k).1 + (seeR s k).2.length = cnt N s.1 + s.2.length := by
  unfold seeR
  cases e : s.1 k with
  | true => rfl
  | false =>
    have := cnt_up hk e
    simp only [Bool.false_eq_true, if_false, List.length_append, List.length_cons, List.length_nil]
    omega
theorem sees_cnt : ∀ (l : List Nat) (s : (Nat → Bool) × List Nat), (∀ k ∈ l, k < N) → cnt N (l.foldl seeR s).1 + (l.foldl seeR s).2.length = cnt N s.1 + s.2.length := by
  intro l
  induction l with
  | nil => intro s _; rfl
  | cons k l ih => intro s h; rw [List.foldl_cons, ih _ (fun x hx => h x (List.mem_cons_of_mem _ hx)), see_cnt s k (h k List.mem_cons_self)]
theorem see_met (s : (Nat → Bool) × List Nat) (k v : Nat) : (seeR s k).1 v = true ↔ s.1 v = true ∨ v = k := by
  unfold seeR
  cases e : s.1 k with
  | true =>
    simp only [if_true]
    exact ⟨.inl, fun h => h.elim id (fun h => h ▸ e)⟩
  | false =>
    simp only [Bool.false_eq_true, if_false]
    unfold upB
    by_cases h : v = k
    · simp [h]
    · simp [h]
theorem see_wait (s : (Nat → Bool) × List Nat) (k v : Nat) : v ∈ (seeR s k).2 ↔ v ∈ s.2 ∨ (v = k ∧ s.1 k = false) := by
  unfold seeR
  cases e : s.1 k with
  | true => simp
  | false => simp
theorem sees_met : ∀ (l : List Nat) (s : (Nat → Bool) × List Nat) (v : Nat), (l.foldl seeR s).1 v = true ↔ s.1 v = true ∨ v ∈ l := by
  intro l
  induction l with
  | nil => intro s v; simp
  | cons k l ih => intro s v; rw [List.foldl_cons, ih, see_met, List.mem_cons, or_assoc]
theorem sees_wait : ∀ (l : List Nat) (s : (Nat → Bool) × List Nat) (v : Nat), v ∈ (l.foldl seeR s).2 ↔ v ∈ s.2 ∨ (v ∈ l ∧ s.1 v = false) := by
  intro l
  induction l with
  | nil => intro s v; simp
  | cons k l ih =>
    intro s v
    rw [List.foldl_cons, ih, see_wait, List.mem_cons]
    by_cases e : v = k
    · subst e
      cases h : s.1 v with
      | true => have := (see_met s v v).2 (.inl h); simp [this]
      | false => have := (see_met s v v).2 (.inr rfl); simp [this]
    · have h2 : (seeR s k).1 v = false ↔ s.1 v = false := by
        have := see_met s k v
        rw [← Bool.not_eq_true, ← Bool.not_eq_true, this]
        simp [e]
      rw [h2]
      simp [e]
theorem InvR.round {a i : Nat} {w : List Nat} {s : (Nat → Bool) × List Nat} (hes : ∀ v, ∀ x ∈ es v, x < N) (I : InvR es N a s) (hm : ∀ v, v ∈ s.2 ↔ v = i ∨ v ∈ w) : InvR es N a ((es i).foldl seeR (s.1, w)) := by
  have hi := I.wt i ((hm i).2 (.inl rfl))
  refine ⟨fun v h => ?_, fun v h => ?_, fun v h => ?_, fun v h hw x hx => ?_⟩
  · rcases (sees_met _ _ _).1 h with h1 | h1
    · exact I.dom v h1
    · exact hes i v h1
  · rcases (sees_wait _ _ _).1 h with h1 | ⟨h1, _⟩
    · rcases I.wt v ((hm v).2 (.inr h1)) with h2 | h2
      · exact .inl h2
      · exact .inr ((sees_met _ _ _).2 (.inl h2))
    · exact .inr ((sees_met _ _ _).2 (.inr h1))
  · rcases (sees_met _ _ _).1 h with h1 | h1
    · exact I.snd v h1
    · rcases hi with h2 | h2
      · rw [h2] at h1; exact ⟨v, h1, .refl _⟩
      · obtain ⟨c, h3, h4⟩ := I.snd i h2
        exact ⟨c, h3, .step h4 h1⟩
  · rw [sees_wait] at hw
    by_cases ei : v = i
    · subst ei
      exact (sees_met _ _ _).2 (.inr hx)
    · have h' : v = a ∨ s.1 v = true := by
        rcases h with h | h
        · exact .inl h
        · rcases (sees_met _ _ _).1 h with h1 | h1
          · exact .inr h1
          · cases e : s.1 v with
            | true => exact .inr rfl
            | false => exact absurd (.inr ⟨h1, e⟩) hw
      refine (sees_met _ _ _).2 (.inl (I.cl v h' (fun h2 => ?_) x hx))
      rcases (hm v).1 h2 with h3 | h3
      · exact ei h3
      · exact hw (.inl h3)
theorem InvR.fin {a : Nat} {s : (Nat → Bool) × List Nat} (I : InvR es N a s) (h : s.2 = []) (v : Nat) : s.1 v = true ↔ Re1 es a v := by
  refine ⟨I.snd v, fun h0 => ?_⟩
  obtain ⟨c, h1, h2⟩ := h0
  have hc : s.1 c = true := I.cl a (.inl rfl) (by rw [h]; simp) c h1
  clear h1
  induction h2 with
  | refl => exact hc
  | step _ e ih => exact I.cl _ (.inr ih) (by rw [h]; simp) _ e
theorem InvR.start (es : Nat → List Nat) (N a : Nat) : InvR es N a (fun _ => false, [a]) := by
  refine ⟨fun v h => (by cases h), fun v h => .inl (by simpa using h), fun v h => (by cases h), fun v h hw => ?_⟩
  rcases h with h | h
  · subst h; simp at hw
  · cases h
theorem reachR_end (hes : ∀ v, ∀ x ∈ es v, x < N) {a : Nat} : ∀ (f : Nat) (s : (Nat → Bool) × List Nat), InvR es N a s → cnt N s.1 + s.2.length ≤ f → InvR es N a (reachR es f s) ∧ (reachR es f s).2 = [] := by
  intro f
  induction f with
  | zero =>
    intro s I h
    refine ⟨I, ?_⟩
    show s.2 = []
    exact List.eq_nil_of_length_eq_zero (by omega)
  | succ f ih =>
    intro s I h
    unfold reachR
    cases e : s.2.reverse with
    | nil => exact ⟨I, by simpa using e⟩
    | cons i w =>
      have e' : s.2 = w.reverse ++ [i] := by
        have := congrArg List.reverse e
        simpa using this
      refine ih _ (I.round hes (fun v => by rw [e']; simp [or_comm])) ?_
      rw [sees_cnt _ _ (hes i)]
      rw [e'] at h
      simp at h ⊢
      omega
theorem reachR_told (hes : ∀ v, ∀ x ∈ es v, x < N) (a v : Nat) : (reachR es (N + 1) (fun _ => false, [a])).1 v = true ↔ Re1 es a v := by
  obtain ⟨h1, h2⟩ := reachR_end hes (a := a) (N + 1) _ (InvR.start es N a) (by have := cnt_le N (fun _ => false); simp; omega)
  exact h1.fin h2 v
end
end Go.Proofs.YtligpleningglaaGreat.Tarjan
namespace Go.Proofs.YtligpleningglaaGreat.Tarjan
section
variable {es : Nat → List Nat} {N : Nat}
theorem Re.same {es' : Nat → List Nat} (h : ∀ v x, x ∈ es v → x ∈ es' v) {a b : Nat} (r : Re es a b) : Re es' a b := by
  induction r with
  | refl => exact .refl _
  | step _ e ih => exact .step ih (h _ _ e)
theorem Re1.same {es' : Nat → List Nat} (h : ∀ v x, x ∈ es v → x ∈ es' v) {a b : Nat} (r : Re1 es a b) : Re1 es' a b := by
  obtain ⟨c, h1, h2⟩ := r
  exact ⟨c, h _ _ h1, h2.same h⟩
end
section
variable {nx : Nat → List Nat} {N : Nat} {P : List (List Nat)}
theorem PartsOK.flat (K : PartsOK nx N P) (hs : ∀ l ∈ P, l.Pairwise (· < ·)) : P.flatten.Nodup := by
  refine List.pairwise_flatten.2 ⟨fun l hl => (hs l hl).imp (fun h => by omega), ?_⟩
  rw [List.pairwise_iff_getElem]
  intro i j hi hj hij v h1 u h2 e
  subst e
  exact K.one i j _ _ (List.getElem?_eq_getElem hi) (List.getElem?_eq_getElem hj) (by omega) v h1 h2
theorem PartsOK.flat_len (K : PartsOK nx N P) (hs : ∀ l ∈ P, l.Pairwise (· < ·)) : P.flatten.length = N := by
  have h : P.flatten.Perm (List.range N) := by
    rw [List.perm_ext_iff_of_nodup (K.flat hs) List.nodup_range]
    intro v
    rw [List.mem_range, List.mem_flatten]
    exact (K.all v).symm
  rw [h.length_eq, List.length_range]
end
end Go.Proofs.YtligpleningglaaGreat.Tarjan
namespace Go.Proofs.YtligpleningglaaGreat.Tarjan
open Go.Lib
def sortedZ (xs : List Int) : List Int := xs.mergeSort fun x y => decide (x ≤ y)
theorem sortedZ_len (xs : List Int) : (sortedZ xs).length = xs.length := List.length_mergeSort xs
theorem sortedZ_perm (xs : List Int) : (sortedZ xs).Perm xs := List.mergeSort_perm xs _
theorem sortedZ_le (xs : List Int) : (sortedZ xs).Pairwise (· ≤ ·) := by
  have := List.pairwise_mergeSort (le := fun x y : Int => decide (x ≤ y)) (fun a b c h1 h2 => by simp at h1 h2 ⊢; omega) (fun a b => by simp; omega) xs
  exact this.imp (fun h => by simpa using h)
def cmpZ (xs : List Int) : List Int := Go.Lib.compact (sortedZ xs)
theorem upTo_told {zs : List Int} (hs : zs.Pairwise (· ≤ ·)) : ∀ m, m ≤ zs.length → (∀ x, x ∈ compactUpTo zs.toArray m ↔ x ∈ zs.take m) ∧ (compactUpTo zs.toArray m).Pairwise (· < ·) := by
  intro m
  induction m with
  | zero => intro _; simp [compactUpTo]
  | succ m ih =>
    intro hm
    obtain ⟨h1, h2⟩ := ih (by omega)
    have hml : m < zs.length := by omega
    have hd : ∀ j (h : j < zs.length), zs.toArray[j]! = zs[j] := fun j h => by simp [getElem!_pos, h]
    rw [compactUpTo_succ, List.take_succ_eq_append_getElem hml]
    have hle : ∀ x ∈ zs.take m, x ≤ zs[m] := fun x hx => by
      obtain ⟨i, hi, rfl⟩ := List.getElem_of_mem hx
      rw [List.getElem_take]
      rw [List.length_take] at hi
      exact List.pairwise_iff_getElem.1 hs i m (by omega) hml (by omega)
    by_cases hk : keeps zs.toArray m = true
    · rw [if_pos hk, hd m hml]
      refine ⟨fun x => by rw [List.mem_append, List.mem_append, h1], List.pairwise_append.2 ⟨h2, by simp, fun x hx y hy => ?_⟩⟩
      rw [List.mem_singleton] at hy
      subst hy
      have hx' := (h1 x).1 hx
      have hxl := hle x hx'
      have hm0 : m ≠ 0 := fun e => by subst e; simp at hx'
      unfold keeps at hk
      simp only [decide_eq_true_eq] at hk
      rcases hk with h | h
      · exact absurd h hm0
      · rw [hd m hml, hd (m - 1) (by omega)] at h
        have h3 : x ≤ zs[m - 1] := by
          obtain ⟨i, hi, rfl⟩ := List.getElem_of_mem hx'
          rw [List.getElem_take]
          rw [List.length_take] at hi
          by_cases e : i = m - 1
          · subst e; exact Int.le_refl _
          · exact List.pairwise_iff_getElem.1 hs i (m - 1) (by omega) (by omega) (by omega)
        have h4 : zs[m - 1] ≤ zs[m] := List.pairwise_iff_getElem.1 hs (m - 1) m (by omega) hml (by omega)
        omega
    · rw [if_neg hk]
      unfold keeps at hk
      simp only [decide_eq_true_eq, not_or, Decidable.not_not] at hk
      obtain ⟨hm0, h⟩ := hk
      rw [hd m hml, hd (m - 1) (by omega)] at h
      rw [List.append_nil]
      refine ⟨fun x => ?_, h2⟩
      rw [List.mem_append, List.mem_singleton, h1]
      constructor
      · exact .inl
      · rintro (h3 | h3)
        · exact h3
        · subst h3
          rw [h]
          exact List.mem_of_getElem (i := m - 1) (h := by simp; omega) (by simp)
theorem cmpZ_mem (xs : List Int) (x : Int) : x ∈ cmpZ xs ↔ x ∈ xs := by
  unfold cmpZ compact
  have h := (upTo_told (sortedZ_le xs) (sortedZ xs).length (Nat.le_refl _)).1 x
  rw [h, List.take_length]
  exact (sortedZ_perm xs).mem_iff
theorem cmpZ_lt (xs : List Int) : (cmpZ xs).Pairwise (· < ·) := by
  unfold cmpZ compact
  exact (upTo_told (sortedZ_le xs) (sortedZ xs).length (Nat.le_refl _)).2
def cmpN (l : List Nat) : List Nat := (cmpZ (l.map Int.ofNat)).map Int.toNat
theorem cmpN_mem (l : List Nat) (x : Nat) : x ∈ cmpN l ↔ x ∈ l := by
  unfold cmpN
  simp only [List.mem_map, cmpZ_mem]
  constructor
  · rintro ⟨a, ⟨b, hb, rfl⟩, rfl⟩; exact hb
  · intro h; exact ⟨Int.ofNat x, ⟨x, h, rfl⟩, rfl⟩
theorem cmpN_up (l : List Nat) : (cmpN l).map Int.ofNat = cmpZ (l.map Int.ofNat) := by
  unfold cmpN
  rw [List.map_map]
  have : ∀ x ∈ cmpZ (l.map Int.ofNat), (Int.ofNat ∘ Int.toNat) x = x := fun x hx => by
    rw [cmpZ_mem] at hx
    obtain ⟨a, _, rfl⟩ := List.mem_map.1 hx
    rfl
  rw [List.map_congr_left this, List.map_id']
theorem cmpN_lt (l : List Nat) : (cmpN l).Pairwise (· < ·) := by
  have h := cmpZ_lt (l.map Int.ofNat)
  rw [← cmpN_up, List.pairwise_map] at h
  exact h.imp (fun h => by simpa using h)
end Go.Proofs.YtligpleningglaaGreat.Tarjan
