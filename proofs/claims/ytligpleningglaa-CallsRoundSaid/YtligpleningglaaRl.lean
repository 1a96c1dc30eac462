/- CallsRound, told plainly: for every program the answer is true. -/
import Derived.Test.YtligpleningglaaRe
import Derived.Test.YtligpleningglaaFxf7
namespace Go.Proofs.Ytligpleningglaa.Cw
open Go Go.RowKit Go.Proofs.Ytligpleningglaa.Tarjan Go.Proofs.YtligpleningglaaW.PrintWords Go.Proofs.Ytligpleningglaa.F
set_option linter.unusedVariables false
set_option linter.unusedSimpArgs false
set_option linter.unusedSectionVars false
def wB (b : S64) : Nat := b.f0.length
def wG (g : S42) : Nat := g.f5.length + (g.f5.map wB).sum
/-- no list in a program is longer than memory lets it be. -/
def ProgOk (p : List S42) : Prop := p.length ≤ 17592186044416 ∧ ∀ g ∈ p, g.f5.length ≤ 17592186044416 ∧ ∀ b ∈ g.f5, b.f0.length ≤ 17592186044416
theorem wadd {a b : Nat} (h : a + b ≤ 9000000000000000000) : wrap64 ((a : Int) + (b : Int)) = ((a + b : Nat) : Int) := by unfold wrap64; omega
theorem t42_at {p : List S42} {i : Nat} (hi : i < p.length) : rd_T42 p (i : Int) = p[i] := by
  unfold rd_T42; rw [Int.toNat_natCast, List.getD_eq_getElem?_getD, List.getElem?_eq_getElem hi]; rfl
theorem t64_at {p : List S64} {i : Nat} (hi : i < p.length) : rd_T64 p (i : Int) = p[i] := by
  unfold rd_T64; rw [Int.toNat_natCast, List.getD_eq_getElem?_getD, List.getElem?_eq_getElem hi]; rfl
theorem wide_l1 {p : List S42} (hp : ProgOk p) (i : Nat) (hi : i < p.length)
    (ih : ∀ m : Nat, m ≤ 20000000000000 → ∃ b, Ev (fun k => smithylaw19_wide.l0 k p (m : Int) ((i + 1 : Nat) : Int)) b ∧ (b = false → p.length ≤ 120 ∧ m + ((p.drop (i + 1)).map wG).sum ≤ 3600)) :
    ∀ e j, j + e = p[i].f5.length → ∀ m : Nat, m ≤ 20000000000000 → ∃ b, Ev (fun k => smithylaw19_wide.l1 k p (m : Int) (i : Int) (j : Int)) b ∧ (b = false → p.length ≤ 120 ∧ m + ((p[i].f5.drop j).map wB).sum + ((p.drop (i + 1)).map wG).sum ≤ 3600) := by
  obtain ⟨hb1, hb2⟩ := hp.2 _ (List.getElem_mem hi)
  have hib : i ≤ 17592186044416 := by have := hp.1; omega
  intro e
  induction e with
  | zero =>
    intro j hj m hm
    obtain ⟨b, h1, h2⟩ := ih m hm
    refine ⟨b, Ev.next h1 (fun k => ?_), fun hb => ?_⟩
    · rw [smithylaw19_wide.l1, if_pos (by omega), if_pos (by omega), t42_at hi, if_neg (by omega), w1_ hib]
    · rw [List.drop_of_length_le (by omega)]
      obtain ⟨h3, h4⟩ := h2 hb
      exact ⟨h3, by simpa using h4⟩
  | succ e ihe =>
    intro j hj m hm
    have hjl : j < p[i].f5.length := by omega
    have hjb : j ≤ 17592186044416 := by omega
    have hd : p[i].f5.drop j = p[i].f5[j] :: p[i].f5.drop (j + 1) := List.drop_eq_getElem_cons hjl
    have hbl := hb2 _ (List.getElem_mem hjl)
    by_cases hm2 : m ≤ 3600
    · obtain ⟨b, h1, h2⟩ := ihe (j + 1) (by omega) (m + p[i].f5[j].f0.length) (by omega)
      refine ⟨b, Ev.next h1 (fun k => ?_), fun hb => ?_⟩
      · rw [smithylaw19_wide.l1, if_pos (by omega), if_pos (by omega), t42_at hi, if_pos (by omega), if_pos (by omega), if_pos (by omega), t64_at hjl, wadd (by omega), w1_ hjb]
      · obtain ⟨h3, h4⟩ := h2 hb
        refine ⟨h3, ?_⟩
        rw [hd, List.map_cons, List.sum_cons]
        show m + (p[i].f5[j].f0.length + _) + _ ≤ 3600
        omega
    · obtain ⟨b, h1, h2⟩ := ih m hm
      refine ⟨b, Ev.next h1 (fun k => ?_), fun hb => ?_⟩
      · rw [smithylaw19_wide.l1, if_pos (by omega), if_pos (by omega), t42_at hi, if_pos (by omega), if_neg (by omega), w1_ hib]
      · obtain ⟨h3, h4⟩ := h2 hb
        omega
theorem wide_end {p : List S42} (x4 : Int) (m : Nat) : ∃ b, Ev (fun k => smithylaw19_wide.j1 k p (m : Int) x4 false) b ∧ (b = false → p.length ≤ 120 ∧ m ≤ 3600) := by
  by_cases h : p.length ≤ 120
  · refine ⟨decide ((m : Int) > 3600), Ev.now (fun k => ?_), fun hb => ⟨h, ?_⟩⟩
    · rw [smithylaw19_wide.j1, if_neg (by decide), if_neg (by omega)]
    · have := of_decide_eq_false hb; omega
  · refine ⟨true, Ev.now (fun k => ?_), fun hb => by cases hb⟩
    rw [smithylaw19_wide.j1, if_neg (by decide), if_pos (by omega)]
theorem wide_l0 {p : List S42} (hp : ProgOk p) : ∀ d i, i + d = p.length → ∀ m : Nat, m ≤ 20000000000000 → ∃ b, Ev (fun k => smithylaw19_wide.l0 k p (m : Int) (i : Int)) b ∧ (b = false → p.length ≤ 120 ∧ m + ((p.drop i).map wG).sum ≤ 3600) := by
  intro d
  induction d with
  | zero =>
    intro i hi m hm
    obtain ⟨b, h1, h2⟩ := wide_end (p := p) (i : Int) m
    refine ⟨b, Ev.next h1 (fun k => ?_), fun hb => ?_⟩
    · rw [smithylaw19_wide.l0, if_neg (by omega)]
    · rw [List.drop_of_length_le (by omega)]
      obtain ⟨h3, h4⟩ := h2 hb
      exact ⟨h3, by simpa using h4⟩
  | succ d ih =>
    intro i hi m hm
    have hil : i < p.length := by omega
    have hd : p.drop i = p[i] :: p.drop (i + 1) := List.drop_eq_getElem_cons hil
    obtain ⟨hb1, hb2⟩ := hp.2 _ (List.getElem_mem hil)
    by_cases hm2 : m ≤ 3600
    · obtain ⟨b, h1, h2⟩ := wide_l1 hp i hil (fun m hm => ih (i + 1) (by omega) m hm) p[i].f5.length 0 (by omega) (m + p[i].f5.length) (by omega)
      refine ⟨b, Ev.next (G := fun k => smithylaw19_wide.j1 k p (m : Int) (i : Int) true) (Ev.next h1 (fun k => ?_)) (fun k => ?_), fun hb => ?_⟩
      · rw [smithylaw19_wide.j1, if_pos rfl, if_pos (by omega), if_pos (by omega), t42_at hil, wadd (by omega)]
        rfl
      · rw [smithylaw19_wide.l0, if_pos (by omega), decide_eq_true (by omega)]
      · obtain ⟨h3, h4⟩ := h2 hb
        rw [List.drop_zero] at h4
        refine ⟨h3, ?_⟩
        rw [hd, List.map_cons, List.sum_cons]
        unfold wG at h4 ⊢
        omega
    · obtain ⟨b, h1, h2⟩ := wide_end (p := p) (i : Int) m
      refine ⟨b, Ev.next h1 (fun k => ?_), fun hb => ?_⟩
      · rw [smithylaw19_wide.l0, if_pos (by omega), decide_eq_false (by omega)]
      · obtain ⟨h3, h4⟩ := h2 hb
        omega
theorem sum_mem {α : Type} (f : α → Nat) : ∀ {l : List α} {x : α}, x ∈ l → f x ≤ (l.map f).sum := by
  intro l
  induction l with
  | nil => intro x hx; cases hx
  | cons a l ih =>
    intro x hx
    rw [List.map_cons, List.sum_cons]
    rcases List.mem_cons.1 hx with rfl | h
    · omega
    · have := ih h; omega
theorem refs_len (n : Nat) (g : S42) : (refsG n g).length ≤ wG g := by
  unfold refsG wG
  have : ∀ l : List S64, (l.flatMap (refsB n)).length ≤ (l.map wB).sum := by
    intro l
    induction l with
    | nil => exact Nat.le_refl _
    | cons b l ih =>
      rw [List.flatMap_cons, List.length_append, List.map_cons, List.sum_cons]
      have h1 : (refsB n b).length ≤ wB b := by unfold refsB wB; rw [List.length_map]; exact List.length_filter_le _ _
      omega
  have := this g.f5
  omega
theorem wide_ev {p : List S42} (hp : ProgOk p) : ∃ b, Ev (fun k => smithylaw19_wide.f k p) b ∧ (b = false → callOk p = true) := by
  have := hp.1
  obtain ⟨b, h1, h2⟩ := wide_l0 hp p.length 0 (by omega) p.length (by omega)
  refine ⟨b, Ev.same h1 (fun k => rfl), fun hb => ?_⟩
  obtain ⟨h3, h4⟩ := h2 hb
  rw [List.drop_zero] at h4
  unfold callOk
  rw [Bool.and_eq_true, decide_eq_true_eq, List.all_eq_true]
  refine ⟨by omega, fun g hg => decide_eq_true ?_⟩
  have h5 := refs_len p.length g
  have h6 := sum_mem wG hg
  omega
/-- what Round says of a node of a part. -/
def valR (nx : List (List Int)) (n : Nat) (v : Nat) : Bool := decide (1 < n) || (nx.getD v []).contains (v : Int)
theorem row_val (nx : List (List Int)) (n v : Nat) : ∀ (l : List Int) (o : List Bool), (∀ x ∈ l, 0 ≤ x ∧ x.toNat < o.length) → (l.foldl (setR nx n) o).getD v false = if (v : Int) ∈ l then valR nx n v else o.getD v false := by
  intro l
  induction l with
  | nil => intro o _; rfl
  | cons a l ih =>
    intro o ho
    have ha := ho a List.mem_cons_self
    have hsl : (setR nx n o a).length = o.length := by unfold setR; rw [List.length_set]
    rw [List.foldl_cons, ih (setR nx n o a) (fun x hx => by rw [hsl]; exact ho x (List.mem_cons_of_mem _ hx))]
    by_cases h1 : (v : Int) ∈ l
    · rw [if_pos h1, if_pos (List.mem_cons_of_mem _ h1)]
    · rw [if_neg h1]
      unfold setR
      rw [getD_set ha.2]
      by_cases h2 : v = a.toNat
      · have e : (v : Int) = a := by omega
        rw [if_pos h2, if_pos (by rw [e]; exact List.mem_cons_self), ← h2, ← e]
        rfl
      · rw [if_neg h2, if_neg (fun h => by
          rcases List.mem_cons.1 h with h3 | h3
          · omega
          · exact h1 h3)]
theorem rounds_val (nx : List (List Int)) (n v : Nat) : ∀ (P : List (List Int)) (o : List Bool), (∀ l ∈ P, ∀ x ∈ l, 0 ≤ x ∧ x.toNat < o.length) → (∀ l ∈ P, (v : Int) ∈ l → l.length = n) → ((∃ l ∈ P, (v : Int) ∈ l) ∨ o.getD v false = valR nx n v) →
    (P.foldl (roundRow nx) o).getD v false = valR nx n v := by
  intro P
  induction P with
  | nil =>
    intro o _ _ h
    rcases h with ⟨l, hl, _⟩ | h
    · cases hl
    · exact h
  | cons l P ih =>
    intro o ho hn h
    rw [List.foldl_cons]
    have hlen : (roundRow nx o l).length = o.length := by unfold roundRow; exact foldl_row_len nx l.length l o
    refine ih _ (fun m hm x hx => by rw [hlen]; exact ho m (List.mem_cons_of_mem _ hm) x hx) (fun m hm hv => hn m (List.mem_cons_of_mem _ hm) hv) ?_
    have hrv := row_val nx l.length v l o (ho l List.mem_cons_self)
    by_cases hvl : (v : Int) ∈ l
    · refine .inr ?_
      unfold roundRow
      rw [hrv, if_pos hvl, hn l List.mem_cons_self hvl]
    · rcases h with ⟨m, hm, hvm⟩ | h
      · rcases List.mem_cons.1 hm with rfl | hm
        · exact absurd hvm hvl
        · exact .inl ⟨m, hm, hvm⟩
      · refine .inr ?_
        unfold roundRow
        rw [hrv, if_neg hvl]; exact h
theorem rounds_len (nx : List (List Int)) : ∀ (P : List (List Int)) (o : List Bool), (P.foldl (roundRow nx) o).length = o.length := by
  intro P
  induction P with
  | nil => intro o; rfl
  | cons l P ih => intro o; rw [List.foldl_cons, ih]; unfold roundRow; exact foldl_row_len nx l.length l o
theorem roundL_len (p : List S42) : (roundL p).length = p.length := by unfold roundL; rw [rounds_len, List.length_replicate]
theorem resP_called (p : List S42) : resP (calledL p) = (partsZ (calledL p), 0) := by unfold resP; rw [if_pos (okB_called p)]
/-- a node stands in one part alone. -/
theorem parts_same {l0 : List (List Int)} (hok : okB l0 = true) {l m : List Int} (hl : l ∈ partsZ l0) (hm : m ∈ partsZ l0) {x : Int} (hx : x ∈ l) (hx2 : x ∈ m) : l = m := by
  have K := parts_ok cmpN_mem (nxc_lt hok)
  unfold partsZ at hl hm
  obtain ⟨a, ha, rfl⟩ := List.mem_map.1 hl
  obtain ⟨b, hb, rfl⟩ := List.mem_map.1 hm
  obtain ⟨u, hu, rfl⟩ := List.mem_map.1 hx
  obtain ⟨w, hw, e⟩ := List.mem_map.1 hx2
  have e' : w = u := Int.ofNat.inj e
  rw [e'] at hw
  obtain ⟨i, hi, ei⟩ := List.getElem_of_mem ha
  obtain ⟨j, hj, ej⟩ := List.getElem_of_mem hb
  by_cases hij : i = j
  · subst hij
    rw [← ei, ← ej]
  · exact absurd hw (K.one i j a b (by rw [List.getElem?_eq_getElem hi, ei]) (by rw [List.getElem?_eq_getElem hj, ej]) hij u hu)
theorem roundL_at (p : List S42) {l : List Int} (hl : l ∈ partsZ (calledL p)) {v : Nat} (hv : (v : Int) ∈ l) : (roundL p).getD v false = valR (calledL p) l.length v := by
  unfold roundL
  rw [resP_called]
  refine rounds_val (calledL p) l.length v _ _ (fun m hm x hx => ?_) (fun m hm hvm => ?_) (.inl ⟨l, hl, hv⟩)
  · have := parts_in (okB_called p) hm hx
    rw [called_len] at this
    rw [List.length_replicate]; omega
  · rw [parts_same (okB_called p) hm hl hvm hv]
section
variable {p : List S42} (hc : callOk p = true)
include hc
theorem round_l2 (i t v : Nat) (hi : i < (partsZ (calledL p)).length) (ht : t < ((partsZ (calledL p))[i]).length) (hv : ((partsZ (calledL p))[i])[t] = (v : Int)) (htb : t ≤ 17592186044416)
    (hcont : Ev (fun k => smithylaw19_CallsRound.l1 k p (calledL p) (roundL p) (partsZ (calledL p)) (i : Int) ((t + 1 : Nat) : Int)) true) :
    ∀ e j, j + e = ((calledL p).getD v []).length → ∀ acc, (acc || (((calledL p).getD v []).drop j).contains (v : Int)) = ((calledL p).getD v []).contains (v : Int) →
      Ev (fun k => smithylaw19_CallsRound.l2 k p (calledL p) (roundL p) (partsZ (calledL p)) (i : Int) (t : Int) (v : Int) acc (j : Int)) true := by
  have hnet := called_small hc
  have hvl : (v : Int) ∈ (partsZ (calledL p))[i] := hv ▸ List.getElem_mem ht
  have hvN := parts_in (okB_called p) (List.getElem_mem hi) hvl
  rw [called_len] at hvN
  have hcl := called_len p
  have hrow : rd_L1 (calledL p) (v : Int) = (calledL p).getD v [] := row_at
  have hrp : rd_L1 (partsZ (calledL p)) (i : Int) = (partsZ (calledL p))[i] := by rw [row_at, List.getD_eq_getElem?_getD, List.getElem?_eq_getElem hi]; rfl
  have hrl : ((calledL p).getD v []).length ≤ 17592186044416 := by
    unfold netOk at hnet
    rw [Bool.and_eq_true, List.all_eq_true] at hnet
    rw [List.getD_eq_getElem?_getD]
    cases hx : (calledL p)[v]? with
    | none => simp
    | some l => simpa using hnet.2 l (List.mem_of_getElem? hx)
  have hro : rdOf false (roundL p) (v : Int) = valR (calledL p) ((partsZ (calledL p))[i]).length v := by
    rw [← roundL_at p (List.getElem_mem hi) hvl]
    unfold rdOf
    rw [Int.toNat_natCast]
  have hrN := roundL_len p
  intro e
  induction e with
  | zero =>
    intro j hj acc hacc
    rw [List.drop_of_length_le (by omega)] at hacc
    have hacc' : acc = ((calledL p).getD v []).contains (v : Int) := by rw [← hacc]; cases acc <;> rfl
    refine Ev.next hcont (fun k => ?_)
    rw [smithylaw19_CallsRound.l2, if_pos (by omega), if_pos (by omega), hrow, if_neg (by omega), if_pos (by omega), if_pos (by omega), if_pos (by omega), hrp, hro, w1_ htb]
    by_cases h1 : 1 < ((partsZ (calledL p))[i]).length
    · rw [if_pos (by omega)]
      unfold valR
      rw [decide_eq_true h1, Bool.true_or, if_neg (by decide)]
    · rw [if_neg (by omega)]
      unfold valR
      rw [decide_eq_false h1, Bool.false_or, ← hacc', if_neg (by cases acc <;> decide)]
  | succ e ih =>
    intro j hj acc hacc
    have hjl : j < ((calledL p).getD v []).length := by omega
    have hjb : j ≤ 17592186044416 := by omega
    have hd := List.drop_eq_getElem_cons hjl
    have hr : rd ((calledL p).getD v []) (j : Int) = ((calledL p).getD v [])[j] := by unfold rd; rw [Int.toNat_natCast, List.getD_eq_getElem?_getD, List.getElem?_eq_getElem hjl]; rfl
    rw [hd, List.contains_cons] at hacc
    cases acc with
    | true =>
      refine Ev.next (ih (j + 1) (by omega) true (by rw [Bool.true_or] at hacc ⊢; exact hacc)) (fun k => ?_)
      rw [smithylaw19_CallsRound.l2, if_pos (by omega), if_pos (by omega), hrow, if_pos (by omega), if_pos rfl, w1_ hjb]
    | false =>
      refine Ev.next (ih (j + 1) (by omega) (((calledL p).getD v [])[j] == (v : Int)) (by
        rw [← hacc, Bool.false_or]
        congr 1
        rw [Bool.eq_iff_iff, beq_iff_eq, beq_iff_eq]
        exact ⟨fun h => h.symm, fun h => h.symm⟩)) (fun k => ?_)
      rw [smithylaw19_CallsRound.l2, if_pos (by omega), if_pos (by omega), hrow, if_pos (by omega), if_neg (by decide), if_pos (by omega), hr, w1_ hjb]
theorem round_l1 (i : Nat) (hi : i < (partsZ (calledL p)).length) (hib : i ≤ 17592186044416)
    (hcont : Ev (fun k => smithylaw19_CallsRound.l0 k p (calledL p) (roundL p) (partsZ (calledL p)) ((i + 1 : Nat) : Int)) true) :
    ∀ e t, t + e = ((partsZ (calledL p))[i]).length → Ev (fun k => smithylaw19_CallsRound.l1 k p (calledL p) (roundL p) (partsZ (calledL p)) (i : Int) (t : Int)) true := by
  have hrp : rd_L1 (partsZ (calledL p)) (i : Int) = (partsZ (calledL p))[i] := by rw [row_at, List.getD_eq_getElem?_getD, List.getElem?_eq_getElem hi]; rfl
  have hsm := parts_small (okB_called p) (List.getElem_mem hi)
  have hnet := called_small hc
  have hcl := called_len p
  have hN : (calledL p).length ≤ 5864062014805 := by
    unfold netOk at hnet
    rw [Bool.and_eq_true, decide_eq_true_eq] at hnet
    exact hnet.1
  intro e
  induction e with
  | zero =>
    intro t ht
    refine Ev.next hcont (fun k => ?_)
    rw [smithylaw19_CallsRound.l1, if_pos (by omega), if_pos (by omega), hrp, if_neg (by omega), w1_ hib]
  | succ e ih =>
    intro t ht
    have htl : t < ((partsZ (calledL p))[i]).length := by omega
    have htb : t ≤ 17592186044416 := by omega
    obtain ⟨h0, h1⟩ := parts_in (okB_called p) (List.getElem_mem hi) (List.getElem_mem htl)
    obtain ⟨v, hv⟩ : ∃ v : Nat, ((partsZ (calledL p))[i])[t] = (v : Int) := ⟨_, (Int.toNat_of_nonneg h0).symm⟩
    have hr : rd ((partsZ (calledL p))[i]) (t : Int) = (v : Int) := by rw [← hv]; unfold rd; rw [Int.toNat_natCast, List.getD_eq_getElem?_getD, List.getElem?_eq_getElem htl]; rfl
    rw [hv, hcl] at h1
    have h2 := round_l2 hc i t v hi htl hv htb (ih (t + 1) (by omega)) _ 0 (Nat.zero_add _) false (by rw [Bool.false_or, List.drop_zero])
    refine Ev.next (G := fun k => smithylaw19_CallsRound.j3 k p (calledL p) (roundL p) (partsZ (calledL p)) (i : Int) (t : Int) (v : Int) false) (Ev.next h2 (fun k => ?_)) (fun k => ?_)
    · rw [smithylaw19_CallsRound.j3, if_neg (by decide)]
      rfl
    · rw [smithylaw19_CallsRound.l1, if_pos (by omega), if_pos (by omega), hrp, if_pos (by omega), if_pos (by omega), hr, if_neg (by omega), decide_eq_false (by omega)]
theorem round_l0 : ∀ d i, i + d = (partsZ (calledL p)).length → (partsZ (calledL p)).length ≤ 17592186044416 → Ev (fun k => smithylaw19_CallsRound.l0 k p (calledL p) (roundL p) (partsZ (calledL p)) (i : Int)) true := by
  intro d
  induction d with
  | zero =>
    intro i hi hb
    refine Ev.now (fun k => ?_)
    rw [smithylaw19_CallsRound.l0, if_neg (by omega)]
  | succ d ih =>
    intro i hi hb
    have hil : i < (partsZ (calledL p)).length := by omega
    refine Ev.next (round_l1 hc i hil (by omega) (ih (i + 1) (by omega) hb) _ 0 (Nat.zero_add _)) (fun k => ?_)
    rw [smithylaw19_CallsRound.l0, if_pos (by omega)]
    rfl
end
theorem parts_few {l0 : List (List Int)} (hok : okB l0 = true) : (partsZ l0).length ≤ l0.length := by
  have K := parts_ok cmpN_mem (nxc_lt hok)
  have hf := K.flat_len (parts_sorted cmpN_lt)
  have h5 : ∀ Q : List (List Nat), (∀ m ∈ Q, m ≠ []) → Q.length ≤ Q.flatten.length := by
    intro Q
    induction Q with
    | nil => intro _; simp
    | cons m Q ihQ =>
      intro hQ
      have h6 := ihQ (fun x hx => hQ x (List.mem_cons_of_mem _ hx))
      have h7 : 0 < m.length := List.length_pos_iff.2 (hQ m List.mem_cons_self)
      rw [List.flatten_cons, List.length_append, List.length_cons]; omega
  have h6 := h5 _ (fun m hm => (K.sc m hm).1)
  unfold partsZ
  rw [List.length_map]; omega
theorem callsRound_plain {p : List S42} (hp : ProgOk p) : ∃ k, smithylaw19_CallsRound.f k p = some true := by
  obtain ⟨b, ⟨K1, h1⟩, h2⟩ := wide_ev hp
  cases b with
  | true =>
    refine ⟨K1, ?_⟩
    have h1' := h1 K1 (Nat.le_refl _)
    simp only at h1'
    unfold smithylaw19_CallsRound.f smithylaw19_awake.f
    rw [Option.bind_some, if_pos rfl, h1', Option.bind_some, if_pos rfl]
  | false =>
    have hc := h2 rfl
    have hcl := called_len p
    have hfew := parts_few (okB_called p)
    have hpb := hp.1
    obtain ⟨K2, h3⟩ := Ev.next (F := fun k => smithylaw19_CallsRound.j0 k p (calledL p) (roundL p) (partsZ (calledL p)) false) (round_l0 hc (partsZ (calledL p)).length 0 (Nat.zero_add _) (by omega)) (fun k => by rw [smithylaw19_CallsRound.j0, if_neg (by decide)]; rfl)
    refine ⟨max K1 K2, ?_⟩
    have h1' := h1 (max K1 K2) (by omega)
    have h3' := h3 (max K1 K2) (by omega)
    simp only at h1' h3'
    have e1 : calls_Called.f p = some (calledL p) := by unfold calls_Called.f; rw [if_pos hc]
    have e2 : calls_Round.f p = some (roundL p) := by unfold calls_Round.f; rw [if_pos hc]
    have e3 : calls_Parts.f (calledL p) = some (partsZ (calledL p), 0) := by unfold calls_Parts.f; rw [if_pos (called_small hc), resP_called]
    have hrl := roundL_len p
    unfold smithylaw19_CallsRound.f smithylaw19_awake.f
    rw [Option.bind_some, if_pos rfl, h1', Option.bind_some, if_neg (by decide), e1, Option.bind_some, e2, Option.bind_some, e3, Option.bind_some, if_pos rfl, if_pos (by omega)]
    have : (((roundL p).length : Int) != (p.length : Int)) = false := by rw [hrl]; simp
    rw [this]
    exact h3'
end Go.Proofs.Ytligpleningglaa.Cw
