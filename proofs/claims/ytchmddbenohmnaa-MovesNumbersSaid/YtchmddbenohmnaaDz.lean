/- The document's Does says yes of each row of moves that does what a list does at once, in few enough moves. No walk. -/
import Derived.Test.YtchmddbenohmnaaCi
namespace Go.Proofs.Ytchmddbenohmnaa.Mv
open Go Go.RowKit Go.Proofs.YtchmddbenohmnaaW.PrintWords Go.Proofs.Ytchmddbenohmnaa.Mi Go.Proofs.Ytchmddbenohmnaa.F
set_option linter.unusedVariables false
set_option linter.unusedSimpArgs false

/-! ### where a number stands -/
def plc (xs : List Int) (p : Int) : Int := if p ∈ xs then (xs.idxOf p : Int) else -1
theorem rd_natI {xs : List Int} {i : Nat} (h : i < xs.length) : rd xs (i : Int) = xs[i] := by
  show xs.getD (i : Int).toNat 0 = _
  rw [Int.toNat_natCast, List.getD_eq_getElem?_getD, List.getElem?_eq_getElem h]; rfl
theorem place_go (xs : List Int) (hl : xs.length ≤ 10000000) (p : Int) : ∀ (d i k : Nat), i ≤ xs.length → xs.length - i = d → d < k → smithyref22_place.l0 k xs p (i : Int) = some (if p ∈ xs.drop i then ((i + (xs.drop i).idxOf p : Nat) : Int) else -1) := by
  intro d
  induction d with
  | zero =>
    intro i k hi hd hk
    obtain ⟨k, rfl⟩ : ∃ m, k = m + 1 := ⟨k - 1, by omega⟩
    rw [smithyref22_place.l0, if_neg (by omega), List.drop_eq_nil_of_le (by omega)]
    simp
  | succ d ih =>
    intro i k hi hd hk
    obtain ⟨k, rfl⟩ : ∃ m, k = m + 1 := ⟨k - 1, by omega⟩
    have hil : i < xs.length := by omega
    rw [smithyref22_place.l0, if_pos (by omega), if_pos (by omega), rd_natI hil, List.drop_eq_getElem_cons hil]
    by_cases e : xs[i] = p
    · rw [if_pos e, if_pos (by rw [e]; exact List.mem_cons_self), List.idxOf_cons]
      simp [e]
    · rw [if_neg e, wrap_nat (by omega), ih (i + 1) k (by omega) (by omega) (by omega)]
      have hb : (xs[i] == p) = false := by simpa using e
      by_cases h : p ∈ xs.drop (i + 1)
      · rw [if_pos h, if_pos (List.mem_cons_of_mem _ h), List.idxOf_cons, hb]
        simp only [cond_false]
        congr 2
        omega
      · rw [if_neg h, if_neg]
        intro hm
        rcases List.mem_cons.1 hm with hm | hm
        · exact e hm.symm
        · exact h hm
theorem place_some {xs : List Int} (hl : xs.length ≤ 10000000) (p : Int) {k : Nat} (hk : xs.length < k) : smithyref22_place.f k xs p = some (plc xs p) := by
  unfold smithyref22_place.f
  have := place_go xs hl p xs.length 0 k (Nat.zero_le _) rfl hk
  rw [List.drop_zero, Nat.zero_add] at this
  exact this
theorem plc_neg {xs : List Int} {p : Int} : plc xs p < 0 ↔ p ∉ xs := by
  unfold plc
  by_cases h : p ∈ xs
  · rw [if_pos h]; exact ⟨fun h' => by omega, fun h' => absurd h h'⟩
  · rw [if_neg h]; exact ⟨fun _ => h, fun _ => by omega⟩
theorem plc_mem {xs : List Int} {p : Int} (h : p ∈ xs) : ∃ i, ∃ hi : i < xs.length, plc xs p = (i : Int) ∧ xs[i] = p := by
  refine ⟨xs.idxOf p, List.idxOf_lt_length_of_mem h, ?_, List.getElem_idxOf _⟩
  unfold plc; rw [if_pos h]
theorem nodup_at {xs : List Int} (h : xs.Nodup) {i j : Nat} (hi : i < xs.length) (hj : j < xs.length) (e : xs[i] = xs[j]) : i = j := by
  unfold List.Nodup at h
  rw [List.pairwise_iff_getElem] at h
  rcases Nat.lt_trichotomy i j with hij | hij | hij
  · exact absurd e (h i j hi hj hij)
  · exact hij
  · exact absurd e.symm (h j i hj hi hij)
theorem plc_at {xs : List Int} (h : xs.Nodup) {i : Nat} (hi : i < xs.length) : plc xs xs[i] = (i : Int) := by
  obtain ⟨j, hj, e1, e2⟩ := plc_mem (List.getElem_mem hi)
  rw [e1, nodup_at h hj hi e2]

/-! ### all names -/
def nmStep (ns : List Int) (p : Int) : List Int := if p ∈ ns then ns else ns ++ [p]
def nmM (ns : List Int) (m : S43) : List Int := nmStep (nmStep ns m.f0) m.f1
theorem nmStep_nodup {ns : List Int} (h : ns.Nodup) (p : Int) : (nmStep ns p).Nodup := by
  unfold nmStep
  by_cases e : p ∈ ns
  · rw [if_pos e]; exact h
  · rw [if_neg e, List.nodup_append]
    refine ⟨h, by simp, ?_⟩
    intro a ha b hb
    rw [List.mem_singleton] at hb; subst hb
    exact fun e' => e (e' ▸ ha)
theorem nmStep_mem {ns : List Int} {p x : Int} : x ∈ nmStep ns p ↔ x ∈ ns ∨ x = p := by
  unfold nmStep
  by_cases e : p ∈ ns
  · rw [if_pos e]; constructor
    · exact .inl
    · rintro (h | rfl)
      · exact h
      · exact e
  · rw [if_neg e, List.mem_append, List.mem_singleton]
theorem nmStep_len (ns : List Int) (p : Int) : (nmStep ns p).length ≤ ns.length + 1 := by
  unfold nmStep; split
  · omega
  · simp
theorem nmM_mem {ns : List Int} {m : S43} {x : Int} : x ∈ nmM ns m ↔ x ∈ ns ∨ x = m.f0 ∨ x = m.f1 := by
  unfold nmM; rw [nmStep_mem, nmStep_mem, or_assoc]
def namesL (l : List S43) : List Int := l.foldl nmM []
def namesAll (l : List S43) (sp : Int) : List Int := if sp ≥ 0 then namesL l ++ [sp] else namesL l
theorem names_fold (l : List S43) : ∀ ns : List Int, ns.Nodup → (l.foldl nmM ns).Nodup ∧ (∀ x, x ∈ l.foldl nmM ns ↔ x ∈ ns ∨ ∃ m ∈ l, x = m.f0 ∨ x = m.f1) ∧ (l.foldl nmM ns).length ≤ ns.length + 2 * l.length := by
  induction l with
  | nil => intro ns h; exact ⟨h, fun x => by simp, by simp⟩
  | cons a r ih =>
    intro ns h
    obtain ⟨h1, h2, h3⟩ := ih (nmM ns a) (nmStep_nodup (nmStep_nodup h _) _)
    refine ⟨h1, fun x => ?_, ?_⟩
    · rw [List.foldl_cons, h2, nmM_mem]
      constructor
      · rintro ((h | h) | ⟨m, hm, h⟩)
        · exact .inl h
        · exact .inr ⟨a, List.mem_cons_self, h⟩
        · exact .inr ⟨m, List.mem_cons_of_mem _ hm, h⟩
      · rintro (h | ⟨m, hm, h⟩)
        · exact .inl (.inl h)
        · rcases List.mem_cons.1 hm with rfl | hm
          · exact .inl (.inr h)
          · exact .inr ⟨m, hm, h⟩
    · have := nmStep_len (nmStep ns a.f0) a.f1
      have := nmStep_len ns a.f0
      rw [List.foldl_cons, List.length_cons]
      unfold nmM at h3 ⊢
      omega
theorem namesL_facts (l : List S43) : (namesL l).Nodup ∧ (∀ x, x ∈ namesL l ↔ ∃ m ∈ l, x = m.f0 ∨ x = m.f1) ∧ (namesL l).length ≤ 2 * l.length := by
  obtain ⟨h1, h2, h3⟩ := names_fold l [] (by simp)
  exact ⟨h1, fun x => by unfold namesL; rw [h2]; simp, by unfold namesL; simpa using h3⟩
theorem namesAll_facts {l : List S43} {sp : Int} (hm : May l sp) : (namesAll l sp).Nodup ∧ (∀ x, x ∈ namesAll l sp ↔ nm l sp x) ∧ (namesAll l sp).length ≤ 2 * l.length + 1 := by
  obtain ⟨h1, h2, h3⟩ := namesL_facts l
  unfold namesAll
  by_cases hs : sp ≥ 0
  · rw [if_pos hs]
    refine ⟨?_, fun x => ?_, by rw [List.length_append, List.length_singleton]; omega⟩
    · rw [List.nodup_append]
      refine ⟨h1, by simp, ?_⟩
      intro a ha b hb
      rw [List.mem_singleton] at hb; subst hb
      rintro rfl
      obtain ⟨m, hml, e | e⟩ := (h2 a).1 ha
      · exact hm.sp0 m hml e.symm
      · exact hm.sp1 m hml e.symm
    · rw [List.mem_append, List.mem_singleton, h2]
      unfold nm
      constructor
      · rintro (⟨m, hml, e | e⟩ | rfl)
        · exact .inr ⟨m, hml, .inl e.symm⟩
        · exact .inr ⟨m, hml, .inr e.symm⟩
        · exact .inl ⟨hs, rfl⟩
      · rintro (⟨_, rfl⟩ | ⟨m, hml, e | e⟩)
        · exact .inr rfl
        · exact .inl ⟨m, hml, .inl e.symm⟩
        · exact .inl ⟨m, hml, .inr e.symm⟩
  · rw [if_neg hs]
    refine ⟨h1, fun x => ?_, by omega⟩
    rw [h2]
    unfold nm
    constructor
    · rintro ⟨m, hml, e | e⟩
      · exact .inr ⟨m, hml, .inl e.symm⟩
      · exact .inr ⟨m, hml, .inr e.symm⟩
    · rintro (⟨h, _⟩ | ⟨m, hml, e | e⟩)
      · exact absurd h hs
      · exact ⟨m, hml, .inl e.symm⟩
      · exact ⟨m, hml, .inr e.symm⟩

theorem names_go (l : List S43) (hl : l.length ≤ 1000000) (sp : Int) : ∀ (d i k : Nat) (ns : List Int), i ≤ l.length → l.length - i = d → ns.length + 2 * d ≤ 2000000 → ns.length + 3 * d + 2 < k → smithyref22_Names.l0 k l sp ns (i : Int) = some (if sp ≥ 0 then (l.drop i).foldl nmM ns ++ [sp] else (l.drop i).foldl nmM ns) := by
  intro d
  induction d with
  | zero =>
    intro i k ns hi hd hn hk
    obtain ⟨k, rfl⟩ : ∃ m, k = m + 1 := ⟨k - 1, by omega⟩
    rw [smithyref22_Names.l0, if_neg (by omega), List.drop_eq_nil_of_le (by omega)]
    by_cases hs : sp ≥ 0
    · rw [if_pos hs, if_pos hs, if_pos (by omega)]; rfl
    · rw [if_neg hs, if_neg hs]; rfl
  | succ d ih =>
    intro i k ns hi hd hn hk
    obtain ⟨k, rfl⟩ : ∃ m, k = m + 1 := ⟨k - 1, by omega⟩
    have hil : i < l.length := by omega
    rw [smithyref22_Names.l0, if_pos (by omega), if_pos (by omega), rd_nat43 hil, List.drop_eq_getElem_cons hil, List.foldl_cons]
    have a1 := nmStep_len ns l[i].f0
    have a2 := nmStep_len (nmStep ns l[i].f0) l[i].f1
    have hgo := ih (i + 1) k (nmM ns l[i]) (by omega) (by omega) (by unfold nmM; omega) (by unfold nmM; omega)
    rw [place_some (by omega) _ (by omega), Option.bind_some, wrap_nat (by omega)]
    have hsec : ∀ y : List Int, y = nmStep ns l[i].f0 → ((smithyref22_place.f k y l[i].f1).bind fun t125 => (if t125 < 0 then (if y.length < 17592186044416 then (smithyref22_Names.l0 k l sp (y ++ [l[i].f1]) ((i + 1 : Nat) : Int)) else (none)) else (smithyref22_Names.l0 k l sp y ((i + 1 : Nat) : Int)))) = some (if sp ≥ 0 then (l.drop (i + 1)).foldl nmM (nmM ns l[i]) ++ [sp] else (l.drop (i + 1)).foldl nmM (nmM ns l[i])) := by
      intro y hy
      subst hy
      rw [place_some (by omega) _ (by omega), Option.bind_some]
      rw [← hgo]
      by_cases c : plc (nmStep ns l[i].f0) l[i].f1 < 0
      · rw [if_pos c, if_pos (by omega)]
        rw [plc_neg] at c
        have hx : nmM ns l[i] = nmStep ns l[i].f0 ++ [l[i].f1] := by
          show (if l[i].f1 ∈ nmStep ns l[i].f0 then nmStep ns l[i].f0 else nmStep ns l[i].f0 ++ [l[i].f1]) = _
          rw [if_neg c]
        rw [hx]
      · rw [if_neg c]
        rw [plc_neg] at c
        have hx : nmM ns l[i] = nmStep ns l[i].f0 := by
          show (if l[i].f1 ∈ nmStep ns l[i].f0 then nmStep ns l[i].f0 else nmStep ns l[i].f0 ++ [l[i].f1]) = _
          rw [if_pos (by simpa using c)]
        rw [hx]
    by_cases c : plc ns l[i].f0 < 0
    · rw [if_pos c, if_pos (by omega), Option.bind_some]
      rw [plc_neg] at c
      exact hsec _ (by rw [nmStep, if_neg c])
    · rw [if_neg c]
      rw [plc_neg] at c
      exact hsec _ (by rw [nmStep, if_pos (by simpa using c)])
theorem names_some {l : List S43} (hl : l.length ≤ 1000000) (sp : Int) {k : Nat} (hk : 3 * l.length + 2 < k) : smithyref22_Names.f k l sp = some (namesAll l sp) := by
  unfold smithyref22_Names.f
  have := names_go l hl sp l.length 0 k [] (Nat.zero_le _) rfl (by simp; omega) (by simp; omega)
  rw [List.drop_zero] at this
  exact this

theorem busy_go (l : List S43) (hl : l.length ≤ 1000000) : ∀ (d i c k : Nat), i ≤ l.length → l.length - i = d → c + d ≤ 1000000 → d < k → smithyref22_Busy.l0 k l (c : Int) (i : Int) = some ((c + (l.drop i).countP busy : Nat) : Int) := by
  intro d
  induction d with
  | zero =>
    intro i c k hi hd hc hk
    obtain ⟨k, rfl⟩ : ∃ m, k = m + 1 := ⟨k - 1, by omega⟩
    rw [smithyref22_Busy.l0, if_neg (by omega), List.drop_eq_nil_of_le (by omega)]
    simp
  | succ d ih =>
    intro i c k hi hd hc hk
    obtain ⟨k, rfl⟩ : ∃ m, k = m + 1 := ⟨k - 1, by omega⟩
    have hil : i < l.length := by omega
    rw [smithyref22_Busy.l0, if_pos (by omega), if_pos (by omega), rd_nat43 hil, List.drop_eq_getElem_cons hil, List.countP_cons, wrap_nat (by omega), wrap_nat (by omega)]
    by_cases e : l[i].f0 = l[i].f1
    · rw [if_pos e, ih (i + 1) c k (by omega) (by omega) (by omega) (by omega)]
      have : busy l[i] = false := by unfold busy; simpa using e
      rw [this]; simp
    · rw [if_neg e, ih (i + 1) (c + 1) k (by omega) (by omega) (by omega) (by omega)]
      have : busy l[i] = true := by unfold busy; simpa using e
      rw [this]; simp only [if_true]; congr 1; omega
theorem busy_some {l : List S43} (hl : l.length ≤ 1000000) {k : Nat} (hk : l.length < k) : smithyref22_Busy.f k l = some (nbusy l : Int) := by
  unfold smithyref22_Busy.f
  have := busy_go l hl l.length 0 0 k (Nat.zero_le _) rfl (by omega) hk
  rw [List.drop_zero, Nat.zero_add] at this
  exact this

/-! ### Does -/
theorem map_set_plc {N : List Int} (hN : N.Nodup) (τ : Int → Int) {i : Nat} (hi : i < N.length) (v : Int) : (N.map τ).set i v = N.map (upd τ N[i] v) := by
  apply List.ext_getElem
  · simp
  · intro j h1 h2
    rw [List.length_map] at h2
    rw [List.getElem_set, List.getElem_map, List.getElem_map]
    by_cases e : i = j
    · subst e; rw [if_pos rfl, upd_same]
    · rw [if_neg e, upd_other (fun e' => e (nodup_at hN hi h2 e'.symm))]

theorem does2_go {row l : List S43} {sp : Int} (hm : May l sp) (hl : l.length ≤ 100000) (hI : Inv l sp mnil row) (hb : row.length ≤ nbusy l + circ l) (K : Nat) (hK : l.length * (l.length + 5) + l.length + 6 < K ∧ 2 * l.length + 2 < K) : ∀ (d j k : Nat), j ≤ (namesAll l sp).length → (namesAll l sp).length - j = d → K + d < k →
    smithyref22_Does.l2 k row l sp (namesAll l sp) ((namesAll l sp).map (exec row (plc (namesAll l sp)))) (j : Int) = some true := by
  obtain ⟨hN, hmem, hlen⟩ := namesAll_facts hm
  have hc : circ l ≤ l.length := List.countP_le_length
  have hb0 : nbusy l ≤ l.length := List.countP_le_length
  intro d
  induction d with
  | zero =>
    intro j k hj hd hk
    obtain ⟨k, rfl⟩ : ∃ m, k = m + 1 := ⟨k - 1, by omega⟩
    rw [smithyref22_Does.l2, if_neg (by omega), busy_some (by omega) (by omega), Option.bind_some, circ_some (by omega) (by omega), Option.bind_some, wrap64_small (by omega) (by omega)]
    congr 1
    simp
    omega
  | succ d ih =>
    intro j k hj hd hk
    obtain ⟨k, rfl⟩ : ∃ m, k = m + 1 := ⟨k - 1, by omega⟩
    have hjl : j < (namesAll l sp).length := by omega
    have hgo := ih (j + 1) k (by omega) (by omega) (by omega)
    rw [smithyref22_Does.l2, if_pos (by omega), if_pos (by omega), rd_natI hjl, wrap_nat (by omega), hgo]
    by_cases e : (namesAll l sp)[j] = sp
    · rw [if_pos e]
    · rw [if_neg e, from_some (by omega) _ (by omega), Option.bind_some]
      have hat : rd ((namesAll l sp).map (exec row (plc (namesAll l sp)))) (j : Int) = exec row (plc (namesAll l sp)) (namesAll l sp)[j] := by
        rw [rd_natI (by simpa using hjl), List.getElem_map]
      rw [hat]
      have hjm : (j : Int) < (((namesAll l sp).map (exec row (plc (namesAll l sp)))).length : Int) := by rw [List.length_map]; omega
      unfold frmV
      cases hf : frm l (namesAll l sp)[j] with
      | some q =>
        simp only [if_true]
        obtain ⟨m, hml, e1, e2⟩ := frm_some hf
        rw [place_some (by omega) _ (by omega), Option.bind_some, if_pos hjm, if_pos]
        rw [← e1, hI.done _ m hml rfl, e2]
      | none =>
        have hx : exec row (plc (namesAll l sp)) (namesAll l sp)[j] = (j : Int) := by rw [hI.rest _ _ (frm_none.1 hf) e, plc_at hN hjl]
        rw [if_neg (by simp), if_pos hjm, if_pos hx]
theorem does1_go {row l : List S43} {sp : Int} (hm : May l sp) (hl : l.length ≤ 100000) (hr : row.length ≤ 1000000) (hI : Inv l sp mnil row) (hb : row.length ≤ nbusy l + circ l) (K : Nat) (hK : l.length * (l.length + 5) + l.length + 6 < K ∧ 2 * l.length + 2 < K) : ∀ (d j k : Nat), j ≤ row.length → row.length - j = d → K + 2 * l.length + 2 + d < k →
    smithyref22_Does.l1 k row l sp (namesAll l sp) ((namesAll l sp).map (exec (row.take j) (plc (namesAll l sp)))) (j : Int) = some true := by
  obtain ⟨hN, hmem, hlen⟩ := namesAll_facts hm
  intro d
  induction d with
  | zero =>
    intro j k hj hd hk
    obtain ⟨k, rfl⟩ : ∃ m, k = m + 1 := ⟨k - 1, by omega⟩
    rw [smithyref22_Does.l1, if_neg (by omega), List.take_of_length_le (by omega)]
    exact does2_go hm hl hI hb K hK _ 0 k (Nat.zero_le _) rfl (by omega)
  | succ d ih =>
    intro j k hj hd hk
    obtain ⟨k, rfl⟩ : ∃ m, k = m + 1 := ⟨k - 1, by omega⟩
    have hjl : j < row.length := by omega
    have hgo := ih (j + 1) k (by omega) (by omega) (by omega)
    obtain ⟨n0, n1⟩ := hI.names _ (List.getElem_mem hjl)
    obtain ⟨a, ha, ea, ea'⟩ := plc_mem ((hmem _).2 n0)
    obtain ⟨b, hb', eb, eb'⟩ := plc_mem ((hmem _).2 n1)
    rw [smithyref22_Does.l1, if_pos (by omega), if_pos (by omega), rd_nat43 hjl, place_some (by omega) _ (by omega), Option.bind_some, place_some (by omega) _ (by omega), Option.bind_some, ea, eb, if_neg (by omega), if_neg (by omega), if_pos (by omega), if_pos (by rw [List.length_map]; omega), if_pos (by omega), if_pos (by rw [List.length_map]; omega), wrap_nat (by omega), Int.toNat_natCast,
      map_set_plc hN _ ha, rd_natI (by simpa using hb'), List.getElem_map, ea', eb']
    rw [take_snoc43 _ _ hjl, exec_snoc, rd_eq hjl] at hgo
    exact hgo
theorem does0_go {row l : List S43} {sp : Int} (hm : May l sp) (hl : l.length ≤ 100000) (hr : row.length ≤ 1000000) (hI : Inv l sp mnil row) (hb : row.length ≤ nbusy l + circ l) (K : Nat) (hK : l.length * (l.length + 5) + l.length + 6 < K ∧ 2 * l.length + 2 < K) : ∀ (d j k : Nat), j ≤ (namesAll l sp).length → (namesAll l sp).length - j = d → K + 2 * l.length + row.length + 3 + d < k →
    smithyref22_Does.l0 k row l sp (namesAll l sp) (nums j ++ List.replicate ((namesAll l sp).length - j) 0) (j : Int) = some true := by
  obtain ⟨hN, hmem, hlen⟩ := namesAll_facts hm
  intro d
  induction d with
  | zero =>
    intro j k hj hd hk
    obtain ⟨k, rfl⟩ : ∃ m, k = m + 1 := ⟨k - 1, by omega⟩
    have hj' : j = (namesAll l sp).length := by omega
    rw [smithyref22_Does.l0, if_neg (by rw [List.length_append, nums_len, List.length_replicate]; omega)]
    have := does1_go hm hl hr hI hb K hK _ 0 k (Nat.zero_le _) rfl (by omega)
    rw [← this]
    congr 1
    apply List.ext_getElem
    · simp [nums_len]; omega
    · intro i h1 h2
      rw [List.length_map] at h2
      rw [List.getElem_map, List.getElem_append_left (by rw [nums_len]; omega)]
      show _ = plc _ _
      rw [plc_at hN h2]
      simp [nums]
  | succ d ih =>
    intro j k hj hd hk
    obtain ⟨k, rfl⟩ : ∃ m, k = m + 1 := ⟨k - 1, by omega⟩
    have hgo := ih (j + 1) k (by omega) (by omega) (by omega)
    rw [smithyref22_Does.l0, if_pos (by rw [List.length_append, nums_len, List.length_replicate]; omega), if_pos (by omega), wrap_nat (by omega), Int.toNat_natCast]
    rw [← hgo]
    congr 1
    rw [show (namesAll l sp).length - j = (namesAll l sp).length - (j + 1) + 1 by omega, List.replicate_succ, List.set_append_right _ _ (by rw [nums_len]; exact Nat.le_refl _), nums_len, Nat.sub_self, nums_snoc]
    simp
theorem does_some {row l : List S43} {sp : Int} (hm : May l sp) (hl : l.length ≤ 100000) (hr : row.length ≤ 1000000) (hI : Inv l sp mnil row) (hb : row.length ≤ nbusy l + circ l) {k : Nat} (hk : l.length * (l.length + 5) + 9 * l.length + row.length + 30 < k) : smithyref22_Does.f k row l sp = some true := by
  obtain ⟨hN, hmem, hlen⟩ := namesAll_facts hm
  unfold smithyref22_Does.f
  rw [names_some (by omega) sp (by omega), Option.bind_some, if_pos (by omega), if_pos (by omega), Int.toNat_natCast]
  have := does0_go hm hl hr hI hb (l.length * (l.length + 5) + 3 * l.length + 10) ⟨by omega, by omega⟩ _ 0 k (Nat.zero_le _) rfl (by omega)
  rw [show nums 0 = [] from rfl, List.nil_append, Nat.sub_zero] at this
  exact this
end Go.Proofs.Ytchmddbenohmnaa.Mv
