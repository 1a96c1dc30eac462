/- CallsNumbers, told plainly: all nets of three nodes, the row and the circle of thirty thousand, the refusals: with fuel enough the plain function answers true; so the call returns true from every world. -/
import Derived.Test.YtligpleningglaaNu
namespace Go.Proofs.Ytligpleningglaa.Cw
open Go Go.RowKit Go.Proofs.Ytligpleningglaa.Tarjan Go.Proofs.YtligpleningglaaW.PrintWords Go.Proofs.Ytligpleningglaa.F
set_option linter.unusedVariables false
set_option linter.unusedSimpArgs false
def mkI (r : Int) : S69 := ⟨9, 0, 0, [], 0, r⟩
def mkB (l : List Int) : List S64 := [⟨[], ⟨0, 0, ⟨0, 0⟩, 0⟩⟩, ⟨l.map mkI, ⟨0, 0, ⟨0, 0⟩, 0⟩⟩]
/-- the graph that calls these. -/
def mkG (l : List Int) : S42 := ⟨⟨#[]⟩, [], 0, [], [], mkB l⟩
theorem caller_ev (l : List Int) (hl : l.length ≤ 1000) : Ev (fun k => smithylaw19_caller.f k l) (⟨#[]⟩, [], 0, [], [], mkB l) := by
  have key : ∀ d j, j + d = l.length → Ev (fun k => smithylaw19_caller.l0 k l (j : Int) ((l.take j).map mkI) 0 0 0 0 0) (⟨#[]⟩, [], 0, [], [], mkB l) := by
    intro d
    induction d with
    | zero =>
      intro j hj
      refine Ev.now (fun k => ?_)
      rw [smithylaw19_caller.l0, if_neg (by omega), List.take_of_length_le (by omega)]
      rfl
    | succ d ih =>
      intro j hj
      have hjl : j < l.length := by omega
      have hr : rd l (j : Int) = l[j] := by unfold rd; rw [Int.toNat_natCast, List.getD_eq_getElem?_getD, List.getElem?_eq_getElem hjl]; rfl
      have htl : ((l.take j).map mkI).length ≤ 1000 := by rw [List.length_map, List.length_take]; omega
      refine Ev.next (ih (j + 1) (by omega)) (fun k => ?_)
      rw [smithylaw19_caller.l0, if_pos (by omega), if_pos (by omega), if_pos (by omega), hr, w1_ (by omega), List.take_succ_eq_append_getElem hjl, List.map_append]
      rfl
  exact Ev.same (key l.length 0 (by omega)) (fun k => by unfold smithylaw19_caller.f; rw [List.take_zero]; rfl)
/-- few rows, all short. -/
def Few (xs : List (List Int)) : Prop := xs.length ≤ 3 ∧ ∀ r ∈ xs, r.length ≤ 3
theorem Few.net {xs : List (List Int)} (h : Few xs) : netOk xs = true := by
  unfold netOk
  rw [Bool.and_eq_true, decide_eq_true_eq, List.all_eq_true]
  exact ⟨by have := h.1; omega, fun l hl => decide_eq_true (by have := h.2 l hl; omega)⟩
theorem Few.prog {xs : List (List Int)} (h : Few xs) : progB (xs.map mkG) = true := by
  unfold progB
  rw [Bool.and_eq_true, decide_eq_true_eq, List.all_eq_true, List.length_map]
  refine ⟨by have := h.1; omega, fun g hg => ?_⟩
  obtain ⟨r, hr, rfl⟩ := List.mem_map.1 hg
  have := h.2 r hr
  rw [Bool.and_eq_true, decide_eq_true_eq, List.all_eq_true]
  refine ⟨by show 2 ≤ _; omega, fun b hb => ?_⟩
  rw [decide_eq_true_eq]
  rcases List.mem_cons.1 hb with rfl | hb
  · show 0 ≤ _; omega
  · rw [List.mem_singleton.1 hb]
    show (r.map mkI).length ≤ _
    rw [List.length_map]; omega
theorem u64_pos (x : Int) : 0 ≤ IntKind.u64.wrap x := by
  unfold IntKind.wrap
  simp [IntKind.signed, IntKind.bits]
  omega
theorem num_l2 (m : Int) (i : Nat) (hi : i < 3) (xs : List (List Int)) (hx : Few xs) (hxi : xs.length = i)
    (hcont : ∀ row : List Int, row.length ≤ 3 → Ev (fun k => smithylaw19_CallsNumbers.l1 k m (xs ++ [row]) ((xs ++ [row]).map mkG) ((i + 1 : Nat) : Int)) true) :
    ∀ d j : Nat, j + d = 3 → ∀ row : List Int, row.length ≤ j → Ev (fun k => smithylaw19_CallsNumbers.l2 k m xs (xs.map mkG) (i : Int) row (j : Int)) true := by
  intro d
  induction d with
  | zero =>
    intro j hj row hr
    have G : Ev (fun k => (smithylaw19_caller.f k row).bind fun bt356 => (if (xs.map mkG).length < 1172812402961 then (smithylaw19_CallsNumbers.l1 k m (xs ++ [row]) (xs.map mkG ++ [(⟨bt356.1, bt356.2.1, bt356.2.2.1, bt356.2.2.2.1, bt356.2.2.2.2.1, bt356.2.2.2.2.2⟩ : S42)]) ((i + 1 : Nat) : Int)) else (none))) true :=
      Ev.bind (B := fun (bt356 : ByteArray × List Int × Int × List Int × (List S115) × (List S64)) k => if (xs.map mkG).length < 1172812402961 then (smithylaw19_CallsNumbers.l1 k m (xs ++ [row]) (xs.map mkG ++ [(⟨bt356.1, bt356.2.1, bt356.2.2.1, bt356.2.2.2.1, bt356.2.2.2.2.1, bt356.2.2.2.2.2⟩ : S42)]) ((i + 1 : Nat) : Int)) else (none)) (caller_ev row (by omega))
        (Ev.same (hcont row (by omega)) (fun k => by rw [if_pos (by rw [List.length_map]; omega), List.map_append]; rfl))
    refine Ev.next G (fun k => ?_)
    rw [smithylaw19_CallsNumbers.l2, if_neg (by omega), if_pos (by omega), w1_ (by omega)]
  | succ d ih =>
    intro j hj row hr
    by_cases hb : (Go.bits .and .i64 (shr .i64 m (IntKind.u64.wrap (wrap64 ((wrap64 (3 * (i : Int))) + (j : Int))))) 1) = 1
    · refine Ev.next (ih (j + 1) (by omega) (row ++ [wrap64 (2 - (j : Int))]) (by rw [List.length_append]; simp; omega)) (fun k => ?_)
      rw [smithylaw19_CallsNumbers.l2, if_pos (by omega), if_pos (u64_pos _), if_pos hb, if_pos (by omega), w1_ (by omega)]
    · refine Ev.next (ih (j + 1) (by omega) row (by omega)) (fun k => ?_)
      rw [smithylaw19_CallsNumbers.l2, if_pos (by omega), if_pos (u64_pos _), if_neg hb, w1_ (by omega)]
theorem num_l1 (m : Nat) (hm : m < 512) (hcont : Ev (fun k => smithylaw19_CallsNumbers.l0 k ((m + 1 : Nat) : Int)) true) :
    ∀ d i : Nat, i + d = 3 → ∀ xs : List (List Int), Few xs → xs.length = i → Ev (fun k => smithylaw19_CallsNumbers.l1 k (m : Int) xs (xs.map mkG) (i : Int)) true := by
  intro d
  induction d with
  | zero =>
    intro i hi xs hx hxi
    have e1 : smithylaw19_CallsParts.f xs = some true := by unfold smithylaw19_CallsParts.f; rw [if_pos hx.net]
    have e2 : smithylaw19_CallsCalled.f (xs.map mkG) = some true := by unfold smithylaw19_CallsCalled.f; rw [if_pos hx.prog]
    refine Ev.next hcont (fun k => ?_)
    rw [smithylaw19_CallsNumbers.l1, if_neg (by omega), e1, Option.bind_some, if_pos rfl, e2, Option.bind_some, if_pos rfl, w1_ (by omega)]
  | succ d ih =>
    intro i hi xs hx hxi
    have h2 := num_l2 (m : Int) i (by omega) xs hx hxi (fun row hr => ih (i + 1) (by omega) (xs ++ [row]) ⟨by rw [List.length_append]; simp; omega, fun r hr2 => by
      rcases List.mem_append.1 hr2 with h | h
      · exact hx.2 r h
      · rw [List.mem_singleton.1 h]; exact hr⟩ (by rw [List.length_append]; simp; omega)) 3 0 rfl [] (Nat.le_refl _)
    refine Ev.next h2 (fun k => ?_)
    rw [smithylaw19_CallsNumbers.l1, if_pos (by omega)]
    rfl
theorem num_l0 (hcont : Ev (fun k => smithylaw19_CallsNumbers.l3 k (List.replicate 30000 []) 0) true) : ∀ d m : Nat, m + d = 512 → Ev (fun k => smithylaw19_CallsNumbers.l0 k (m : Int)) true := by
  intro d
  induction d with
  | zero =>
    intro m hm
    refine Ev.next hcont (fun k => ?_)
    rw [smithylaw19_CallsNumbers.l0, if_neg (by omega), if_pos (by omega)]
  | succ d ih =>
    intro m hm
    refine Ev.next (num_l1 m (by omega) (ih (m + 1) (by omega)) 3 0 rfl [] ⟨Nat.zero_le _, fun _ h => by cases h⟩ rfl) (fun k => ?_)
    rw [smithylaw19_CallsNumbers.l0, if_pos (by omega)]
    rfl
/-- the long row, so far. -/
def lineL (N i : Nat) : List (List Int) := (List.range i).map (fun j : Nat => [((j + 1 : Nat) : Int)]) ++ List.replicate (N - i) []
theorem lineL_len {N i : Nat} (h : i ≤ N) : (lineL N i).length = N := by unfold lineL; simp; omega
theorem lineL_next {N i : Nat} (h : i < N) : (lineL N i).set i [((i + 1 : Nat) : Int)] = lineL N (i + 1) := by
  unfold lineL
  have e : N - i = (N - (i + 1)) + 1 := by omega
  rw [e, List.replicate_succ, List.set_append_right _ _ (by simp), List.range_succ, List.map_append, List.append_assoc]
  simp
theorem num_l3 {N : Nat} (hN : N ≤ 30000) (hcont : Ev (fun k => smithylaw19_CallsNumbers.l3 k (lineL N (N - 1)) ((N - 1 : Nat) : Int)) true) : ∀ d i : Nat, i + d + 1 = N → Ev (fun k => smithylaw19_CallsNumbers.l3 k (lineL N i) (i : Int)) true := by
  intro d
  induction d with
  | zero =>
    intro i hi
    have e : N - 1 = i := by omega
    rw [e] at hcont
    exact hcont
  | succ d ih =>
    intro i hi
    have hl := lineL_len (N := N) (i := i) (by omega)
    refine Ev.next (ih (i + 1) (by omega)) (fun k => ?_)
    rw [smithylaw19_CallsNumbers.l3, w1_ (by omega), hl, if_pos (by omega), if_pos (by omega), if_pos (by omega), Int.toNat_natCast, lineL_next (by omega)]
theorem line_at {N i v : Nat} (hi : i ≤ N) : (lineL N i).getD v [] = if v < i then [((v + 1 : Nat) : Int)] else [] := by
  unfold lineL
  rw [List.getD_eq_getElem?_getD]
  by_cases h : v < i
  · rw [if_pos h, List.getElem?_append_left (by simpa using h), List.getElem?_map, List.getElem?_range h]; rfl
  · rw [if_neg h, List.getElem?_append_right (by simp; omega), List.getElem?_replicate]
    split <;> rfl
theorem cmpN_one (x : Nat) : cmpN [x] = [x] := sorted_eq (cmpN_lt _) (List.pairwise_singleton _ _) (fun y => by rw [cmpN_mem])
theorem cmpN_none : cmpN [] = [] := sorted_eq (cmpN_lt _) List.Pairwise.nil (fun y => by rw [cmpN_mem])
theorem net_short {l : List (List Int)} (h1 : l.length ≤ 5864062014805) (h2 : ∀ v, (l.getD v []).length ≤ 1) : netOk l = true := by
  unfold netOk
  rw [Bool.and_eq_true, decide_eq_true_eq, List.all_eq_true]
  refine ⟨h1, fun r hr => decide_eq_true ?_⟩
  obtain ⟨v, hv, rfl⟩ := List.getElem_of_mem hr
  have := h2 v
  rw [List.getD_eq_getElem?_getD, List.getElem?_eq_getElem hv] at this
  have h3 : (l[v]).length ≤ 1 := this
  omega
theorem okB_of {l : List (List Int)} (h : ∀ v, ∀ x ∈ l.getD v [], 0 ≤ x ∧ x < (l.length : Int)) : okB l = true := by
  refine List.all_eq_true.2 (fun r hr => List.all_eq_true.2 (fun x hx => ?_))
  obtain ⟨v, hv, rfl⟩ := List.getElem_of_mem hr
  have := h v x (by rw [List.getD_eq_getElem?_getD, List.getElem?_eq_getElem hv]; exact hx)
  rw [Bool.and_eq_true, decide_eq_true_eq, decide_eq_true_eq]
  exact this
theorem line_res {N : Nat} (hN : 1 < N) (hb : N ≤ 30000) : ∃ A, calls_Parts.f (lineL N (N - 1)) = some (A, 0) ∧ A.length = N ∧ rd_L1 A 0 = [((N - 1 : Nat) : Int)] := by
  have hl := lineL_len (N := N) (i := N - 1) (by omega)
  have hat := fun v => line_at (N := N) (i := N - 1) (v := v) (by omega)
  have hok : okB (lineL N (N - 1)) = true := okB_of (fun v x hx => by
    rw [hat] at hx
    split at hx
    · rw [List.mem_singleton.1 hx, hl]; omega
    · cases hx)
  have hnet : netOk (lineL N (N - 1)) = true := net_short (by rw [hl]; omega) (fun v => by rw [hat]; split <;> simp)
  have hnx : ∀ v, nxc (lineL N (N - 1)) v = if v + 1 < N then [v + 1] else [] := fun v => by
    unfold nxc
    rw [hat]
    by_cases h : v < N - 1
    · rw [if_pos h, if_pos (by omega)]; exact cmpN_one _
    · rw [if_neg h, if_neg (by omega)]; exact cmpN_none
  have K := parts_ok cmpN_mem (nxc_lt hok)
  have S := parts_sorted (cmp := cmpN) (nx := nxc (lineL N (N - 1))) (N := (lineL N (N - 1)).length) cmpN_lt
  rw [hl] at K S
  obtain ⟨h1, h2⟩ := line_parts (by omega) hnx K S
  refine ⟨partsZ (lineL N (N - 1)), ?_, ?_, ?_⟩
  · unfold calls_Parts.f
    rw [if_pos hnet]
    unfold resP
    rw [if_pos hok]
  · unfold partsZ
    rw [List.length_map, hl]; exact h1
  · unfold rd_L1 partsZ
    rw [List.getD_eq_getElem?_getD, List.getElem?_map, hl]
    show ((partsP cmpN (nxc (lineL N (N - 1))) N)[0]?.map _).getD [] = _
    rw [h2]; rfl
theorem circle_res {N : Nat} (hN : 1 < N) (hb : N ≤ 30000) : calls_Parts.f ((lineL N (N - 1)).set (N - 1) [0]) = some ([(List.range N).map Int.ofNat], 0) := by
  have hl := lineL_len (N := N) (i := N - 1) (by omega)
  obtain ⟨l, el⟩ : ∃ l, l = (lineL N (N - 1)).set (N - 1) [0] := ⟨_, rfl⟩
  have hl2 : l.length = N := by rw [el, List.length_set]; exact hl
  have hat : ∀ v, l.getD v [] = if v + 1 < N then [((v + 1 : Nat) : Int)] else if v = N - 1 then [0] else [] := fun v => by
    rw [el, List.getD_eq_getElem?_getD]
    by_cases e : v = N - 1
    · subst e
      rw [List.getElem?_set_self (by omega), if_neg (by omega), if_pos rfl]; rfl
    · rw [List.getElem?_set_ne (fun h => e h.symm), ← List.getD_eq_getElem?_getD, line_at (by omega), if_neg e]
      by_cases h : v + 1 < N
      · rw [if_pos h, if_pos (by omega)]
      · rw [if_neg h, if_neg (by omega)]
  rw [← el]
  have hok : okB l = true := okB_of (fun v x hx => by
    rw [hat] at hx
    split at hx
    · rw [List.mem_singleton.1 hx, hl2]; omega
    · split at hx
      · rw [List.mem_singleton.1 hx, hl2]; omega
      · cases hx)
  have hnet : netOk l = true := net_short (by rw [hl2]; omega) (fun v => by
    rw [hat]
    split
    · simp
    · split <;> simp)
  have hnx : ∀ v, v < N → nxc l v = if v + 1 < N then [v + 1] else [0] := fun v hv => by
    unfold nxc
    rw [hat]
    by_cases h : v + 1 < N
    · rw [if_pos h, if_pos h]; exact cmpN_one _
    · rw [if_neg h, if_neg h, if_pos (by omega)]; exact cmpN_one _
  have K := parts_ok cmpN_mem (nxc_lt hok)
  have S := parts_sorted (cmp := cmpN) (nx := nxc l) (N := l.length) cmpN_lt
  rw [hl2] at K S
  have h1 := circle_parts (by omega) hnx K S
  unfold calls_Parts.f
  rw [if_pos hnet]
  unfold resP
  rw [if_pos hok]
  unfold partsZ
  rw [hl2, h1]
  rfl
theorem num_end {N : Nat} (hN : N = 30000) : Ev (fun k => smithylaw19_CallsNumbers.l3 k (lineL N (N - 1)) ((N - 1 : Nat) : Int)) true := by
  obtain ⟨A, e1, hA, hA0⟩ := line_res (N := N) (by omega) (by omega)
  have e2 := circle_res (N := N) (by omega) (by omega)
  have e3 : calls_Parts.f [[1]] = some ([], 4) := by unfold calls_Parts.f; rw [if_pos (by decide)]; rfl
  have e4 : calls_Parts.f [[-1]] = some ([], 4) := by unfold calls_Parts.f; rw [if_pos (by decide)]; rfl
  have e5 : calls_Parts.f [] = some ([], 0) := by unfold calls_Parts.f; rw [if_pos (by decide)]; rfl
  have e6 : calls_Called.f [] = some [] := by unfold calls_Called.f; rw [if_pos (by decide)]; rfl
  have e7 : calls_Round.f [] = some [] := by unfold calls_Round.f; rw [if_pos (by decide)]; rfl
  have hl := lineL_len (N := N) (i := N - 1) (by omega)
  have hN1 : ((N - 1 : Nat) : Int) = 29999 := by omega
  have hN2 : N - 1 = (29999 : Int).toNat := by omega
  have hcl : ((List.range N).map Int.ofNat).length = N := by simp
  have hc9 : rd ((List.range N).map Int.ofNat) 29999 = 29999 := by
    unfold rd
    rw [← hN2, List.getD_eq_getElem?_getD, List.getElem?_map, List.getElem?_range (by omega)]
    show Int.ofNat (N - 1) = 29999
    rw [← hN1]; rfl
  have hrB : rd_L1 [(List.range N).map Int.ofNat] 0 = (List.range N).map Int.ofNat := rfl
  obtain ⟨C, eC⟩ : ∃ C, C = (List.range N).map Int.ofNat := ⟨_, rfl⟩
  rw [← eC] at e2 hcl hc9 hrB
  rw [hN1] at hA0 ⊢
  rw [hN2] at e2
  obtain ⟨X, eX⟩ : ∃ X, X = lineL N (N - 1) := ⟨_, rfl⟩
  rw [← eX] at e1 hl ⊢
  have e2' : calls_Parts.f (X.set (29999 : Int).toNat [0]) = some ([C], 0) := by rw [eX, hN2]; exact e2
  obtain ⟨K, hK⟩ := sameInts_ev [29999] (by simp)
  refine ⟨K + 1, fun k hk => ?_⟩
  obtain ⟨k, rfl⟩ : ∃ m, k = m + 1 := ⟨k - 1, by omega⟩
  have hs := hK k (by omega)
  simp only at hs
  have hw : wrap64 ((29999 : Int) + 1) = 30000 := by unfold wrap64; omega
  show smithylaw19_CallsNumbers.l3 (k + 1) X 29999 = some true
  rw [smithylaw19_CallsNumbers.l3, hw, hl, if_neg (by omega), e1, Option.bind_some, if_pos (by omega), e2', Option.bind_some, e3, Option.bind_some, e4, Option.bind_some, e5, Option.bind_some]
  dsimp only
  have hNi : (N : Int) = 30000 := by omega
  rw [if_pos rfl, if_pos (by omega), if_pos (by omega), hA0, hs, Option.bind_some, if_pos rfl]
  simp [hrB, hcl, hc9, e6, e7, hNi, smithylaw19_awake.f]
theorem callsNumbers_plain : ∃ k, smithylaw19_CallsNumbers.f k = some true := by
  obtain ⟨N, hN⟩ : ∃ N, N = 30000 := ⟨_, rfl⟩
  have h3 := num_l3 (N := N) (by omega) (num_end hN) (N - 1) 0 (by omega)
  have h0 : lineL N 0 = List.replicate 30000 [] := by rw [hN]; rfl
  rw [h0] at h3
  obtain ⟨K, hK⟩ := num_l0 h3 512 0 rfl
  exact ⟨K, by unfold smithylaw19_CallsNumbers.f; exact hK K (Nat.le_refl _)⟩
theorem callsNumbers_walk (w : World) : Calls Try.prog 5 #[] w fun e w' => e = .returned (.bool true) ∧ Below w.heap.size w w' := by
  obtain ⟨k, hk⟩ := callsNumbers_plain
  exact smithylaw19_CallsNumbers.calls k w hk
end Go.Proofs.Ytligpleningglaa.Cw
