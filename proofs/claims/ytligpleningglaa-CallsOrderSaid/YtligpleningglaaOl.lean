/- CallsOrder, told plainly: for every net the answer is true. -/
import Derived.Test.YtligpleningglaaRe
import Derived.Test.YtligpleningglaaFxf6
namespace Go.Proofs.Ytligpleningglaa.Cw
open Go Go.RowKit Go.Proofs.Ytligpleningglaa.Tarjan Go.Proofs.YtligpleningglaaW.PrintWords Go.Proofs.Ytligpleningglaa.F
set_option linter.unusedVariables false
set_option linter.unusedSimpArgs false
theorem w0_ {k : Nat} (h : k ≤ 17592186044416) : wrap64 (((k + 1 : Nat) : Int) - 1) = (k : Int) := by unfold wrap64; omega
/-- what the law leans on: a net that may be, its parts, whose part a node is in. -/
structure OC (l0 : List (List Int)) (Pn : List (List Nat)) (q : Nat → Nat) : Prop where
  ok : okB l0 = true
  hN : l0.length ≤ 5864062014805
  rl : ∀ v, (es l0 v).length ≤ 17592186044416
  K : PartsOK (nxc l0) l0.length Pn
  st : ∀ l ∈ Pn, l.Pairwise (· < ·)
  qq : ∀ v, v < l0.length → ∃ l, Pn[q v]? = some l ∧ v ∈ l
section
variable {l0 : List (List Int)} {Pn : List (List Nat)} {q : Nat → Nat}
theorem OC.uniq (h : OC l0 Pn q) {i : Nat} {l : List Nat} (hl : Pn[i]? = some l) {v : Nat} (hv : v ∈ l) : v < l0.length ∧ q v = i := by
  have hvN : v < l0.length := (h.K.all v).2 ⟨l, List.mem_of_getElem? hl, hv⟩
  obtain ⟨m, hm, hvm⟩ := h.qq v hvN
  refine ⟨hvN, ?_⟩
  by_cases e : q v = i
  · exact e
  · exact absurd hvm (h.K.one i (q v) l m hl hm (fun h => e h.symm) v hv)
theorem OC.flat (h : OC l0 Pn q) : Pn.flatten.length = l0.length := h.K.flat_len h.st
/-- how many nodes stand in the first parts. -/
def Sn (Pn : List (List Nat)) (i : Nat) : Nat := (Pn.take i).flatten.length
theorem Sn_next {Pn : List (List Nat)} {i : Nat} (hi : i < Pn.length) : Sn Pn (i + 1) = Sn Pn i + (Pn[i]).length := by
  unfold Sn
  rw [List.take_succ_eq_append_getElem hi, List.flatten_append, List.length_append]; simp
theorem Sn_le {Pn : List (List Nat)} {i : Nat} (hi : i < Pn.length) : Sn Pn i + (Pn[i]).length ≤ Pn.flatten.length := by
  have h1 := Sn_next hi
  have h2 : Pn.flatten.length = Sn Pn (i + 1) + (Pn.drop (i + 1)).flatten.length := by
    unfold Sn
    rw [← List.length_append, ← List.flatten_append, List.take_append_drop]
  omega
/-- the rows of marks. -/
def Rw (l0 : List (List Int)) (Pn : List (List Nat)) (q : Nat → Nat) (i t : Nat) (x : List Int) : Prop := x.length = l0.length ∧ ∀ v, v < l0.length → rd x (v : Int) = if q v < i ∨ (q v = i ∧ v ∈ (Pn.getD i []).take t) then ((q v : Nat) : Int) + 1 else 0
theorem order_l3 (h : OC l0 Pn q) (x5 : List Int) (x6 r : _) (hx : x5.length = l0.length) (hq : ∀ v, v < l0.length → rd x5 (v : Int) = ((q v : Nat) : Int) + 1) (j : Nat) (hj : j < l0.length) (hcont : Ev (fun k => smithylaw19_CallsOrder.l2 k l0 x5 x6 ((j + 1 : Nat) : Int)) r) :
    ∀ d t, t + d = (es l0 j).length → Ev (fun k => smithylaw19_CallsOrder.l3 k l0 x5 x6 (j : Int) (t : Int)) r := by
  have hjb : j ≤ 17592186044416 := by have := h.hN; omega
  intro d
  induction d with
  | zero =>
    intro t ht
    refine Ev.next hcont (fun k => ?_)
    rw [smithylaw19_CallsOrder.l3, if_pos (by omega), if_pos (by omega), row_len, if_neg (by omega), w1_ hjb]
  | succ d ih =>
    intro t ht
    have htl : t < (es l0 j).length := by omega
    have htb : t ≤ 17592186044416 := by have := h.rl j; omega
    obtain ⟨he, hn⟩ := edge_at h.ok htl
    have hmem : (es l0 j)[t] ∈ nxc l0 j := by
      have : (es l0 j)[t] ∈ es l0 j := List.getElem_mem htl
      unfold nxc
      rw [cmpN_mem]
      exact this
    obtain ⟨l, hl, hvl⟩ := h.qq j hj
    obtain ⟨j', m, hle, hm, hxm⟩ := h.K.cl (q j) l j _ hl hvl hmem
    have hqn := (h.uniq hm hxm).2
    obtain ⟨n, en⟩ : ∃ n, n = (es l0 j)[t] := ⟨_, rfl⟩
    rw [← en] at he hn hqn
    have h1 := hq n hn
    have h2 := hq j hj
    refine Ev.next (ih (t + 1) (by omega)) (fun k => ?_)
    rw [smithylaw19_CallsOrder.l3, if_pos (by omega), if_pos (by omega), row_len, if_pos (by omega), if_pos (by omega), he, if_pos (by omega), if_pos (by omega), if_pos (by omega), h1, h2, if_neg (by omega), w1_ htb]
theorem order_l2 (h : OC l0 Pn q) (x5 : List Int) (hx : x5.length = l0.length) (hq : ∀ v, v < l0.length → rd x5 (v : Int) = ((q v : Nat) : Int) + 1) :
    ∀ d j, j + d = l0.length → Ev (fun k => smithylaw19_CallsOrder.l2 k l0 x5 (l0.length : Int) (j : Int)) true := by
  intro d
  induction d with
  | zero =>
    intro j hj
    refine Ev.now (fun k => ?_)
    rw [smithylaw19_CallsOrder.l2, if_neg (by omega)]
    simp
  | succ d ih =>
    intro j hj
    refine Ev.next (order_l3 h x5 _ true hx hq j (by omega) (ih (j + 1) (by omega)) (es l0 j).length 0 (by omega)) (fun k => ?_)
    rw [smithylaw19_CallsOrder.l2, if_pos (by omega)]
    rfl
def toZ (Pn : List (List Nat)) : List (List Int) := Pn.map fun l => l.map Int.ofNat
theorem toZ_row {Pn : List (List Nat)} {i : Nat} (hi : i < Pn.length) : rd_L1 (toZ Pn) (i : Int) = (Pn[i]).map Int.ofNat := by
  unfold rd_L1 toZ
  rw [Int.toNat_natCast, List.getD_eq_getElem?_getD, List.getElem?_map, List.getElem?_eq_getElem hi]; rfl
theorem toZ_at {l : List Nat} {t : Nat} (ht : t < l.length) : rd (l.map Int.ofNat) (t : Int) = ((l[t] : Nat) : Int) := by
  unfold rd
  rw [Int.toNat_natCast, List.getD_eq_getElem?_getD, List.getElem?_map, List.getElem?_eq_getElem ht]; rfl
theorem order_l1 (h : OC l0 Pn q) (i : Nat) (hi : i < Pn.length) (hcont : ∀ x5, Rw l0 Pn q (i + 1) 0 x5 → Ev (fun k => smithylaw19_CallsOrder.l0 k l0 (toZ Pn) x5 ((Sn Pn (i + 1) : Nat) : Int) ((i + 1 : Nat) : Int)) true) :
    ∀ d t, t + d = (Pn[i]).length → ∀ x5, Rw l0 Pn q i t x5 → Ev (fun k => smithylaw19_CallsOrder.l1 k l0 (toZ Pn) x5 ((Sn Pn i + t : Nat) : Int) (i : Int) (t : Int)) true := by
  have hmem : Pn[i] ∈ Pn := List.getElem_mem hi
  have hli : Pn[i]? = some Pn[i] := List.getElem?_eq_getElem hi
  have hgd : Pn.getD i [] = Pn[i] := by rw [List.getD_eq_getElem?_getD, hli]; rfl
  obtain ⟨l, el⟩ : ∃ l, l = Pn[i] := ⟨_, rfl⟩
  have hst := h.st _ hmem
  have hsc := (h.K.sc _ hmem).2
  have hun := fun v hv => h.uniq hli (v := v) hv
  have hsn := Sn_next hi
  have hsl := Sn_le hi
  have hfl := h.flat
  have hlen : (toZ Pn).length = Pn.length := List.length_map ..
  have hrow := toZ_row hi
  rw [← el] at hst hsc hun hsn hsl hgd hrow
  have hlN : l.length ≤ l0.length := by omega
  have hPb : Pn.length ≤ 17592186044416 := by
    have := h.K.flat_len h.st
    have h5 : ∀ Q : List (List Nat), (∀ m ∈ Q, m ≠ []) → Q.length ≤ Q.flatten.length := by
      intro Q
      induction Q with
      | nil => intro _; simp
      | cons m Q ihQ =>
        intro hQ
        have h6 := ihQ (fun x hx => hQ x (List.mem_cons_of_mem _ hx))
        have h7 : 0 < m.length := List.length_pos_iff.2 (hQ m List.mem_cons_self)
        rw [List.flatten_cons, List.length_append, List.length_cons]; omega
    have := h5 Pn (fun m hm => (h.K.sc m hm).1)
    have := h.hN
    omega
  have hib : i ≤ 17592186044416 := by omega
  have hnd : l.Nodup := hst.imp (fun h => by omega)
  rw [← el]
  intro d
  induction d with
  | zero =>
    intro t ht x5 hR
    have hR' : Rw l0 Pn q (i + 1) 0 x5 := ⟨hR.1, fun v hv => by
      rw [hR.2 v hv]
      have e1 : (q v < i ∨ (q v = i ∧ v ∈ (Pn.getD i []).take t)) ↔ (q v < i + 1 ∨ (q v = i + 1 ∧ v ∈ (Pn.getD (i + 1) []).take 0)) := by
        rw [List.take_zero, hgd, List.take_of_length_le (by omega)]
        constructor
        · rintro (h1 | ⟨h1, _⟩) <;> exact .inl (by omega)
        · rintro (h1 | ⟨_, h1⟩)
          · rcases Nat.lt_or_ge (q v) i with h2 | h2
            · exact .inl h2
            · refine .inr ⟨by omega, ?_⟩
              obtain ⟨m, hm, hvm⟩ := h.qq v hv
              rw [show q v = i by omega, hli] at hm
              injection hm with hm
              rw [el, hm]; exact hvm
          · cases h1
      by_cases c : q v < i ∨ (q v = i ∧ v ∈ (Pn.getD i []).take t)
      · rw [if_pos c, if_pos (e1.1 c)]
      · rw [if_neg c, if_neg (fun h => c (e1.2 h))]⟩
    refine Ev.next (hcont x5 hR') (fun k => ?_)
    rw [smithylaw19_CallsOrder.l1, if_pos (by omega), if_pos (by rw [hlen]; omega), hrow, List.length_map, if_neg (by omega), w1_ hib, hsn, show Sn Pn i + t = Sn Pn i + l.length by omega]
  | succ d ih =>
    intro t ht x5 hR
    have htl : t < l.length := by omega
    have htb : t ≤ 17592186044416 := by have := h.hN; omega
    have hsb : Sn Pn i + t ≤ 17592186044416 := by have := h.hN; omega
    obtain ⟨v, ev⟩ : ∃ v, v = l[t] := ⟨_, rfl⟩
    have hvl : v ∈ l := by rw [ev]; exact List.getElem_mem htl
    obtain ⟨hvN, hqv⟩ := hun v hvl
    have hv : rd (l.map Int.ofNat) (t : Int) = (v : Int) := by rw [toZ_at htl, ev]
    have hnt : v ∉ l.take t := fun hx => by
      obtain ⟨a, ha, e⟩ := List.getElem_of_mem hx
      rw [List.length_take] at ha
      rw [List.getElem_take] at e
      have := List.pairwise_iff_getElem.1 hst a t (by omega) htl (by omega)
      omega
    have hx0 : rd x5 (v : Int) = 0 := by rw [hR.2 v hvN, if_neg (by rw [hgd]; exact fun h => h.elim (fun h => by omega) (fun h => hnt h.2))]
    have hR' : Rw l0 Pn q i (t + 1) (x5.set ((v : Nat) : Int).toNat ((i + 1 : Nat) : Int)) := ⟨by rw [List.length_set]; exact hR.1, fun u hu => by
      rw [rd_set_nat (by rw [hR.1]; exact hvN), hgd, List.take_succ_eq_append_getElem htl, ← ev]
      by_cases e : u = v
      · subst e
        rw [if_pos rfl, if_pos (.inr ⟨hqv, by simp⟩), hqv]; rfl
      · rw [if_neg e, hR.2 u hu, hgd]
        have e1 : u ∈ l.take t ++ [v] ↔ u ∈ l.take t := by simp [e]
        simp only [e1]⟩
    have hnext := ih (t + 1) (by omega) _ hR'
    by_cases ht0 : t = 0
    · subst ht0
      refine Ev.next hnext (fun k => ?_)
      rw [smithylaw19_CallsOrder.l1, if_pos (by omega), if_pos (by rw [hlen]; omega), hrow, List.length_map, if_pos (by omega), if_pos (by omega), hv, if_neg (by omega), if_neg (by omega), if_pos (by omega), if_pos (by rw [hR.1]; omega), hx0, if_pos rfl, if_neg (by decide), w1_ hib, w1_ htb, w1_ hsb]
    · obtain ⟨s, rfl⟩ : ∃ s, t = s + 1 := ⟨t - 1, by omega⟩
      have hsl' : s < l.length := by omega
      have hlt := List.pairwise_iff_getElem.1 hst s (s + 1) hsl' htl (by omega)
      rw [← ev] at hlt
      have h0l : 0 < l.length := by omega
      obtain ⟨z, ez⟩ : ∃ z, z = l[0] := ⟨_, rfl⟩
      have hzl : z ∈ l := by rw [ez]; exact List.getElem_mem h0l
      obtain ⟨hzN, _⟩ := hun z hzl
      have hzv : z < v := by rw [ez, ev]; exact List.pairwise_iff_getElem.1 hst 0 (s + 1) h0l htl (by omega)
      have hz : rd (l.map Int.ofNat) 0 = (z : Int) := by have := toZ_at h0l; rw [← ez] at this; exact this
      have hs : rd (l.map Int.ofNat) (s : Int) = ((l[s] : Nat) : Int) := toZ_at hsl'
      have hesm : ∀ a x, x ∈ nxc l0 a → x ∈ es l0 a := fun a x hx => by unfold nxc at hx; rw [cmpN_mem] at hx; exact hx
      have hr1 : Re1 (es l0) v z := ((hsc v hvl z hzl).one.resolve_left (by omega)).same hesm
      have hr2 : Re1 (es l0) z v := ((hsc z hzl v hvl).one.resolve_left (by omega)).same hesm
      have E1 := reaches_ev h.ok h.hN h.rl hvN hr1
      have E2 := reaches_ev h.ok h.hN h.rl hzN hr2
      have hsb2 : s ≤ 17592186044416 := by omega
      have G : Ev (fun k => (smithylaw19_reaches.f k l0 (v : Int) (z : Int)).bind fun t514 => (if t514 = true then ((smithylaw19_reaches.f k l0 (z : Int) (v : Int)).bind fun t517 => (if t517 = true then (smithylaw19_CallsOrder.l1 k l0 (toZ Pn) (x5.set ((v : Nat) : Int).toNat ((i + 1 : Nat) : Int)) ((Sn Pn i + (s + 1) + 1 : Nat) : Int) (i : Int) ((s + 1 + 1 : Nat) : Int)) else (some false))) else (some false))) true := by
        refine Ev.bind (B := fun (t514 : Bool) k => (if t514 = true then ((smithylaw19_reaches.f k l0 (z : Int) (v : Int)).bind fun t517 => (if t517 = true then (smithylaw19_CallsOrder.l1 k l0 (toZ Pn) (x5.set ((v : Nat) : Int).toNat ((i + 1 : Nat) : Int)) ((Sn Pn i + (s + 1) + 1 : Nat) : Int) (i : Int) ((s + 1 + 1 : Nat) : Int)) else (some false))) else (some false))) E1 ?_
        refine Ev.same (Ev.bind (B := fun (t517 : Bool) k => (if t517 = true then (smithylaw19_CallsOrder.l1 k l0 (toZ Pn) (x5.set ((v : Nat) : Int).toNat ((i + 1 : Nat) : Int)) ((Sn Pn i + (s + 1) + 1 : Nat) : Int) (i : Int) ((s + 1 + 1 : Nat) : Int)) else (some false))) E2 (Ev.same hnext (fun k => ?_))) (fun k => if_pos rfl)
        rw [if_pos rfl]
        rfl
      refine Ev.next G (fun k => ?_)
      rw [smithylaw19_CallsOrder.l1, if_pos (by omega), if_pos (by rw [hlen]; omega), hrow, List.length_map, if_pos (by omega), if_pos (by omega), hv, if_neg (by omega), if_neg (by omega), if_pos (by omega), if_pos (by rw [hR.1]; omega), hx0, if_pos rfl, if_pos (by omega), w0_ hsb2, if_pos (by omega), if_pos (by omega), hs, if_neg (by omega), if_pos (by omega), hz, w1_ hib, w1_ htb, w1_ hsb]
theorem order_l0 (h : OC l0 Pn q) : ∀ d i, i + d = Pn.length → ∀ x5, Rw l0 Pn q i 0 x5 → Ev (fun k => smithylaw19_CallsOrder.l0 k l0 (toZ Pn) x5 ((Sn Pn i : Nat) : Int) (i : Int)) true := by
  have hlen : (toZ Pn).length = Pn.length := List.length_map ..
  intro d
  induction d with
  | zero =>
    intro i hi x5 hR
    have hS : Sn Pn i = l0.length := by unfold Sn; rw [List.take_of_length_le (by omega)]; exact h.flat
    refine Ev.next (order_l2 h x5 hR.1 (fun v hv => ?_) l0.length 0 (by omega)) (fun k => ?_)
    · obtain ⟨m, hm, _⟩ := h.qq v hv
      have := (List.getElem?_eq_some_iff.1 hm).1
      rw [hR.2 v hv, if_pos (.inl (by omega))]
    · rw [smithylaw19_CallsOrder.l0, if_neg (by rw [hlen]; omega), hS]
      rfl
  | succ d ih =>
    intro i hi x5 hR
    have hil : i < Pn.length := by omega
    have hne := (h.K.sc _ (List.getElem_mem hil)).1
    have hpos : 0 < (Pn[i]).length := List.length_pos_iff.2 hne
    refine Ev.next (order_l1 h i hil (fun x5 hx => ih (i + 1) (by omega) x5 hx) (Pn[i]).length 0 (by omega) x5 hR) (fun k => ?_)
    rw [smithylaw19_CallsOrder.l0, if_pos (by rw [hlen]; omega), if_pos (by omega), toZ_row hil, List.length_map, if_neg (by omega)]
    rfl
end
theorem net_rows {l0 : List (List Int)} (h : netOk l0 = true) : l0.length ≤ 5864062014805 ∧ ∀ v, (es l0 v).length ≤ 17592186044416 := by
  unfold netOk at h
  rw [Bool.and_eq_true, decide_eq_true_eq, List.all_eq_true] at h
  refine ⟨h.1, fun v => ?_⟩
  unfold es
  rw [List.length_map, List.getD_eq_getElem?_getD]
  cases hv : l0[v]? with
  | none => simp
  | some l => simpa using h.2 l (List.mem_of_getElem? hv)
theorem order_plain {l0 : List (List Int)} (hnet : netOk l0 = true) : ∃ k, smithylaw19_CallsOrder.f k l0 = some true := by
  obtain ⟨hN, hrl⟩ := net_rows hnet
  have hp : calls_Parts.f l0 = some (resP l0) := by unfold calls_Parts.f; rw [if_pos hnet]
  cases hok : okB l0 with
  | false =>
    refine ⟨0, ?_⟩
    unfold smithylaw19_CallsOrder.f smithylaw19_awake.f
    rw [Option.bind_some, if_pos rfl, hp]
    have : resP l0 = ([], 4) := by unfold resP; rw [hok]; rfl
    rw [this]
    rfl
  | true =>
    have hr : resP l0 = (partsZ l0, 0) := by unfold resP; rw [hok]; rfl
    have K := parts_ok cmpN_mem (nxc_lt hok)
    have hqe : ∀ v, ∃ i, v < l0.length → ∃ l, (partsP cmpN (nxc l0) l0.length)[i]? = some l ∧ v ∈ l := fun v => by
      by_cases hv : v < l0.length
      · obtain ⟨l, hl, hvl⟩ := (K.all v).1 hv
        obtain ⟨i, hi, e⟩ := List.getElem_of_mem hl
        exact ⟨i, fun _ => ⟨l, by rw [List.getElem?_eq_getElem hi, e], hvl⟩⟩
      · exact ⟨0, fun h => absurd h hv⟩
    obtain ⟨q, hq⟩ := Classical.axiomOfChoice hqe
    have h : OC l0 (partsP cmpN (nxc l0) l0.length) q := ⟨hok, hN, hrl, K, parts_sorted cmpN_lt, hq⟩
    have hR : Rw l0 (partsP cmpN (nxc l0) l0.length) q 0 0 (List.replicate l0.length (0 : Int)) := ⟨List.length_replicate, fun v hv => by
      rw [List.take_zero, if_neg (fun h => h.elim (fun h => by omega) (fun h => nomatch h.2))]
      unfold rd
      rw [Int.toNat_natCast, List.getD_eq_getElem?_getD, List.getElem?_replicate, if_pos hv]; rfl⟩
    obtain ⟨K1, h1⟩ := order_l0 h _ 0 (Nat.zero_add _) _ hR
    obtain ⟨b, K2, h2⟩ := great_ev hN
    refine ⟨max K1 K2, ?_⟩
    have h1' := h1 (max K1 K2) (by omega)
    have h2' := h2 (max K1 K2) (by omega)
    simp only at h1' h2'
    unfold smithylaw19_CallsOrder.f smithylaw19_awake.f
    rw [Option.bind_some, if_pos rfl, hp, hr, Option.bind_some, if_pos rfl, h2', Option.bind_some]
    cases b with
    | true => rfl
    | false =>
      rw [if_neg (by decide), if_pos (by omega), if_pos (by omega), Int.toNat_natCast]
      exact h1'
end Go.Proofs.Ytligpleningglaa.Cw
