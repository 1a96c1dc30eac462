/- The walker's from, walked: what the machine told plainly does. -/
import Derived.Test.YtligpleningglaaLev
namespace Go.Proofs.Ytligpleningglaa.Cw
open Go Go.RowKit Go.Proofs.Ytligpleningglaa.Tarjan Go.Proofs.YtligpleningglaaW.PrintWords Go.Proofs.YtligpleningglaaW.PrintLast Go.Proofs.YtligpleningglaaW.PrintMore Go.Proofs.Ytligpleningglaa.F
attribute [local go_sem] max2_int min2_int max_two min_two max_three min_three
set_option linter.unusedVariables false
set_option linter.unusedSimpArgs false
/-- the walker's edges, in memory that it doesn't write. -/
structure NX (p : Pl) (nx : Nat → List Nat) (w1 : World) (vals : List Value) : Prop where
  o : w1.ownsRow 0 35 1 p.nv p.N vals
  r : ∀ v, v < p.N → w1.ownsRow 0 3 1 (pt vals v) (nx v).length (ints (nx v))
  b : ∀ k, p.nv.ownBlock = some k → k < p.B ∧ ¬ p.own k
  rb : ∀ v, v < p.N → ∀ k, (pt vals v).ownBlock = some k → k < p.B ∧ ¬ p.own k
theorem nx_cells {w0 w1 w : World} {p : Pl} {m : Mm} {nx : Nat → List Nat} {vals : List Value} (h : Ws w0 w1 p w m) (X : NX p nx w1 vals) {v : Nat} (hv : v < p.N) :
    ∃ gn cn A c, p.nv = .slice (some ⟨gn, 0, none⟩) p.N cn ∧ p.N ≤ cn ∧ w.cell? ⟨gn, v, none⟩ = some (.slice A (nx v).length c) ∧ ∀ k, k < (nx v).length → ∃ ga, A = some ⟨ga, 0, none⟩ ∧ (nx v).length ≤ c ∧ w.cell? ⟨ga, k, none⟩ = some (.int .i64 ((nx v).getD k 0 : Nat)) := by
  obtain ⟨gn, cn, e, _, _, hc⟩ := own_form X.o (by omega)
  have hb := X.b gn (by rw [e]; rfl)
  have ho := X.o
  rw [e] at ho
  have h1 : w.cell? ⟨gn, v, none⟩ = w1.cell? ⟨gn, v, none⟩ := World.cell?_of_block (h.fz gn hb.1 hb.2)
  have hl : vals.length = p.N := by have := X.o.1; omega
  have hv2 : vals[v]? = some (pt vals v) := by
    unfold pt
    rw [List.getElem?_eq_getElem (by omega), List.getD_eq_getElem?_getD, List.getElem?_eq_getElem (by omega)]; rfl
  have hr := X.r v hv
  obtain ⟨A, c, e2⟩ := own_slice hr
  refine ⟨gn, cn, A, c, e, hc, by rw [h1, ho.cellAt v (by omega), hv2, e2], fun k hk => ?_⟩
  obtain ⟨ga, ca, e3, _, _, hca⟩ := own_form hr (by omega)
  have hb2 := X.rb v hv ga (by rw [e3]; rfl)
  rw [e2] at e3
  injection e3 with e4 _ e5
  rw [e2, e4] at hr
  refine ⟨ga, e4, by omega, ?_⟩
  have h3 : w.cell? ⟨ga, k, none⟩ = w1.cell? ⟨ga, k, none⟩ := World.cell?_of_block (h.fz ga hb2.1 hb2.2)
  rw [h3, hr.cellAt k (by omega)]
  unfold ints
  rw [List.getElem?_map, List.getElem?_eq_getElem hk, List.getD_eq_getElem?_getD, List.getElem?_eq_getElem hk]; rfl
noncomputable def inC : Code → Code
  | .block _ c => c
  | .loop c => c
  | c => c
noncomputable def frLoop : Code := inC (inC (sndC (bodyC Try.f23)))
noncomputable def frB : Code := inC (sndC frLoop)
noncomputable def frB5 : Code := sndC (sndC frB)
/-- the frame: what stays in it. -/
def FA (p : Pl) (i : Nat) (a : Act) : Prop := a.defers = [] ∧ a.tmps.size = 122 ∧ a.tmps.toList.getD 0 undef = .pointer (some ⟨p.g, 0, none⟩) ∧ a.tmps.toList.getD 1 undef = .int .i64 (i : Nat) ∧ a.tmps.toList.getD 2 undef = .pointer (some ⟨p.bn, 0, none⟩)
theorem list_fn (l : List Value) : l = (List.range l.length).map fun i => l.getD i undef := by
  apply List.ext_getElem
  · simp
  · intro i h1 h2
    simp [List.getD_eq_getElem?_getD, h1]
set_option maxHeartbeats 2000000 in
set_option maxRecDepth 100000 in
theorem fa_open (p : Pl) (i : Nat) (a : Act) (h : FA p i a) : ∃ uu : Nat → Value, a = ({ tmps := ((.pointer (some ⟨p.g, 0, none⟩) : Value) :: (.int .i64 (i : Nat) : Value) :: (.pointer (some ⟨p.bn, 0, none⟩) : Value) :: uu 3 :: uu 4 :: uu 5 :: uu 6 :: uu 7 :: uu 8 :: uu 9 :: uu 10 :: uu 11 :: uu 12 :: uu 13 :: uu 14 :: uu 15 :: uu 16 :: uu 17 :: uu 18 :: uu 19 :: uu 20 :: uu 21 :: uu 22 :: uu 23 :: uu 24 :: uu 25 :: uu 26 :: uu 27 :: uu 28 :: uu 29 :: uu 30 :: uu 31 :: uu 32 :: uu 33 :: uu 34 :: uu 35 :: uu 36 :: uu 37 :: uu 38 :: uu 39 :: uu 40 :: uu 41 :: uu 42 :: uu 43 :: uu 44 :: uu 45 :: uu 46 :: uu 47 :: uu 48 :: uu 49 :: uu 50 :: uu 51 :: uu 52 :: uu 53 :: uu 54 :: uu 55 :: uu 56 :: uu 57 :: uu 58 :: uu 59 :: uu 60 :: uu 61 :: uu 62 :: uu 63 :: uu 64 :: uu 65 :: uu 66 :: uu 67 :: uu 68 :: uu 69 :: uu 70 :: uu 71 :: uu 72 :: uu 73 :: uu 74 :: uu 75 :: uu 76 :: uu 77 :: uu 78 :: uu 79 :: uu 80 :: uu 81 :: uu 82 :: uu 83 :: uu 84 :: uu 85 :: uu 86 :: uu 87 :: uu 88 :: uu 89 :: uu 90 :: uu 91 :: uu 92 :: uu 93 :: uu 94 :: uu 95 :: uu 96 :: uu 97 :: uu 98 :: uu 99 :: uu 100 :: uu 101 :: uu 102 :: uu 103 :: uu 104 :: uu 105 :: uu 106 :: uu 107 :: uu 108 :: uu 109 :: uu 110 :: uu 111 :: uu 112 :: uu 113 :: uu 114 :: uu 115 :: uu 116 :: uu 117 :: uu 118 :: uu 119 :: uu 120 :: uu 121 :: []).toArray, defers := [] } : Act) := by
  obtain ⟨tm, df⟩ := a
  obtain ⟨l⟩ := tm
  obtain ⟨h0, h1, h2, h3, h4⟩ := h
  obtain rfl : df = [] := h0
  have e : l = (List.range 122).map fun i => l.getD i undef := by
    have := list_fn l
    rw [show l.length = 122 from h1] at this
    exact this
  obtain ⟨uu, hu⟩ : ∃ uu : Nat → Value, uu = fun i => l.getD i undef := ⟨_, rfl⟩
  have q0 : uu 0 = .pointer (some ⟨p.g, 0, none⟩) := by rw [hu]; exact h2
  have q1 : uu 1 = .int .i64 (i : Nat) := by rw [hu]; exact h3
  have q2 : uu 2 = .pointer (some ⟨p.bn, 0, none⟩) := by rw [hu]; exact h4
  rw [← hu] at e
  refine ⟨uu, ?_⟩
  rw [← q0, ← q1, ← q2, e]
  rfl
/-- what holds at the loop's head; q: how many rounds may be left. -/
def FS (w0 w1 : World) (p : Pl) (nx : Nat → List Nat) (R : T) (q : Nat) (w' : World) : Prop := ∃ (st : T) (rv wv pv : Value) (ps : List Value), Ws w0 w1 p w' (mm st rv wv pv ps) ∧ Inv nx p.N st ∧ Bd p.N st ∧ total nx p.N st ≤ q ∧ finP cmpN nx p.N st = R
/-- what a round hands on. -/
theorem fs_round {w0 w1 w' : World} {p : Pl} {nx : Nat → List Nat} {R st : T} {q : Nat} {rv wv pv : Value} {ps : List Value} (hnx : ∀ v, ∀ x ∈ nx v, x < p.N) (hw : st.way ≠ []) (I : Inv nx p.N st) (hb : Bd p.N st) (ht : total nx p.N st ≤ q) (hf : finP cmpN nx p.N st = R) (h : Ws w0 w1 p w' (mm (roundP cmpN nx st) rv wv pv ps)) : ∃ q', q' < q ∧ FS w0 w1 p nx R q' w' :=
  ⟨total nx p.N (roundP cmpN nx st), Nat.lt_of_lt_of_le (round_lt I hw) ht, _, rv, wv, pv, ps, h, round_inv cmpN_mem hnx I, hb.round I hnx, Nat.le_refl _, by rw [fin_round cmpN_mem hnx I hw]; exact hf⟩
theorem fr_len {N : Nat} {st : T} {v k : Nat} {r : List (Nat × Nat)} (hb : Bd N st) (hN : N ≤ 5864062014805) (hw : st.way = (v, k) :: r) : ((r.length + 1 : Nat) : Int) = (r.length : Int) + 1 ∧ wrap64 (r.length : Int) = (r.length : Int) ∧ 0 ≤ (r.length : Int) ∧ (0 : Int) < (r.length : Int) + 1 ∧ (r.length : Int) < (r.length : Int) + 1 := by
  have h1 := hb.w
  have h2 := hb.le
  rw [hw] at h1
  simp only [List.length_cons] at h1
  refine ⟨by omega, by unfold wrap64; omega, by omega, by omega, by omega⟩
theorem ilt {v N : Nat} (h : v < N) : 0 ≤ (v : Int) ∧ (v : Int) < (N : Int) := ⟨by omega, by omega⟩
theorem wp_fa {p : Pl} {i : Nat} {code : Code} {Q : Exit → Act → World → Prop} {w : World} {a : Act} (h : FA p i a) (k : ∀ uu : Nat → Value, Code.wp Try.prog code Q ({ tmps := ((.pointer (some ⟨p.g, 0, none⟩) : Value) :: (.int .i64 (i : Nat) : Value) :: (.pointer (some ⟨p.bn, 0, none⟩) : Value) :: uu 3 :: uu 4 :: uu 5 :: uu 6 :: uu 7 :: uu 8 :: uu 9 :: uu 10 :: uu 11 :: uu 12 :: uu 13 :: uu 14 :: uu 15 :: uu 16 :: uu 17 :: uu 18 :: uu 19 :: uu 20 :: uu 21 :: uu 22 :: uu 23 :: uu 24 :: uu 25 :: uu 26 :: uu 27 :: uu 28 :: uu 29 :: uu 30 :: uu 31 :: uu 32 :: uu 33 :: uu 34 :: uu 35 :: uu 36 :: uu 37 :: uu 38 :: uu 39 :: uu 40 :: uu 41 :: uu 42 :: uu 43 :: uu 44 :: uu 45 :: uu 46 :: uu 47 :: uu 48 :: uu 49 :: uu 50 :: uu 51 :: uu 52 :: uu 53 :: uu 54 :: uu 55 :: uu 56 :: uu 57 :: uu 58 :: uu 59 :: uu 60 :: uu 61 :: uu 62 :: uu 63 :: uu 64 :: uu 65 :: uu 66 :: uu 67 :: uu 68 :: uu 69 :: uu 70 :: uu 71 :: uu 72 :: uu 73 :: uu 74 :: uu 75 :: uu 76 :: uu 77 :: uu 78 :: uu 79 :: uu 80 :: uu 81 :: uu 82 :: uu 83 :: uu 84 :: uu 85 :: uu 86 :: uu 87 :: uu 88 :: uu 89 :: uu 90 :: uu 91 :: uu 92 :: uu 93 :: uu 94 :: uu 95 :: uu 96 :: uu 97 :: uu 98 :: uu 99 :: uu 100 :: uu 101 :: uu 102 :: uu 103 :: uu 104 :: uu 105 :: uu 106 :: uu 107 :: uu 108 :: uu 109 :: uu 110 :: uu 111 :: uu 112 :: uu 113 :: uu 114 :: uu 115 :: uu 116 :: uu 117 :: uu 118 :: uu 119 :: uu 120 :: uu 121 :: []).toArray, defers := [] } : Act) w) : Code.wp Try.prog code Q a w := by
  obtain ⟨uu, rfl⟩ := fa_open p i a h
  exact k uu
def FB (p : Pl) (i gy n : Nat) (a : Act) : Prop := a.defers = [] ∧ a.tmps.size = 122 ∧ a.tmps.toList.getD 0 undef = .pointer (some ⟨p.g, 0, none⟩) ∧ a.tmps.toList.getD 1 undef = .int .i64 (i : Nat) ∧ a.tmps.toList.getD 2 undef = .pointer (some ⟨p.bn, 0, none⟩) ∧ a.tmps.toList.getD 6 undef = .pointer (some ⟨gy, n * 2, none⟩)
set_option maxHeartbeats 2000000 in
set_option maxRecDepth 100000 in
theorem wp_fb {p : Pl} {i gy n : Nat} {code : Code} {Q : Exit → Act → World → Prop} {w : World} {a : Act} (h : FB p i gy n a) (k : ∀ uu : Nat → Value, Code.wp Try.prog code Q ({ tmps := ((.pointer (some ⟨p.g, 0, none⟩) : Value) :: (.int .i64 (i : Nat) : Value) :: (.pointer (some ⟨p.bn, 0, none⟩) : Value) :: uu 3 :: uu 4 :: uu 5 :: (.pointer (some ⟨gy, n * 2, none⟩) : Value) :: uu 7 :: uu 8 :: uu 9 :: uu 10 :: uu 11 :: uu 12 :: uu 13 :: uu 14 :: uu 15 :: uu 16 :: uu 17 :: uu 18 :: uu 19 :: uu 20 :: uu 21 :: uu 22 :: uu 23 :: uu 24 :: uu 25 :: uu 26 :: uu 27 :: uu 28 :: uu 29 :: uu 30 :: uu 31 :: uu 32 :: uu 33 :: uu 34 :: uu 35 :: uu 36 :: uu 37 :: uu 38 :: uu 39 :: uu 40 :: uu 41 :: uu 42 :: uu 43 :: uu 44 :: uu 45 :: uu 46 :: uu 47 :: uu 48 :: uu 49 :: uu 50 :: uu 51 :: uu 52 :: uu 53 :: uu 54 :: uu 55 :: uu 56 :: uu 57 :: uu 58 :: uu 59 :: uu 60 :: uu 61 :: uu 62 :: uu 63 :: uu 64 :: uu 65 :: uu 66 :: uu 67 :: uu 68 :: uu 69 :: uu 70 :: uu 71 :: uu 72 :: uu 73 :: uu 74 :: uu 75 :: uu 76 :: uu 77 :: uu 78 :: uu 79 :: uu 80 :: uu 81 :: uu 82 :: uu 83 :: uu 84 :: uu 85 :: uu 86 :: uu 87 :: uu 88 :: uu 89 :: uu 90 :: uu 91 :: uu 92 :: uu 93 :: uu 94 :: uu 95 :: uu 96 :: uu 97 :: uu 98 :: uu 99 :: uu 100 :: uu 101 :: uu 102 :: uu 103 :: uu 104 :: uu 105 :: uu 106 :: uu 107 :: uu 108 :: uu 109 :: uu 110 :: uu 111 :: uu 112 :: uu 113 :: uu 114 :: uu 115 :: uu 116 :: uu 117 :: uu 118 :: uu 119 :: uu 120 :: uu 121 :: []).toArray, defers := [] } : Act) w) : Code.wp Try.prog code Q a w := by
  obtain ⟨tm, df⟩ := a
  obtain ⟨l⟩ := tm
  obtain ⟨h0, h1, h2, h3, h4, h5⟩ := h
  obtain rfl : df = [] := h0
  have e : l = (List.range 122).map fun i => l.getD i undef := by
    have := list_fn l
    rw [show l.length = 122 from h1] at this
    exact this
  obtain ⟨uu, hu⟩ : ∃ uu : Nat → Value, uu = fun i => l.getD i undef := ⟨_, rfl⟩
  have q0 : uu 0 = .pointer (some ⟨p.g, 0, none⟩) := by rw [hu]; exact h2
  have q1 : uu 1 = .int .i64 (i : Nat) := by rw [hu]; exact h3
  have q2 : uu 2 = .pointer (some ⟨p.bn, 0, none⟩) := by rw [hu]; exact h4
  have q6 : uu 6 = .pointer (some ⟨gy, n * 2, none⟩) := by rw [hu]; exact h5
  rw [← hu] at e
  have h7 := k uu
  rw [← q0, ← q1, ← q2, ← q6] at h7
  rw [e]
  exact h7
set_option maxHeartbeats 2000000 in
set_option maxRecDepth 100000 in
theorem from_b5 (nx : Nat → List Nat) (w0 w1 w : World) (p : Pl) (i : Nat) (R : T) (vals : List Value) (q : Nat) (X : NX p nx w1 vals) (hnx : ∀ v, ∀ x ∈ nx v, x < p.N) (hnl : ∀ v, (nx v).length ≤ 5864062014805) (hN : p.N ≤ 5864062014805) (PP : Ending → World → Prop) (K : Act → World → Prop) (hQ : ∀ a' w', FA p i a' → (∃ q', q' < q ∧ FS w0 w1 p nx R q' w') → K a' w') (st : T) (rv pv : Value) (ps : List Value) (gy cy v k : Nat) (r : List (Nat × Nat)) (HW : Ws w0 w1 p w (mm st rv (.slice (some ⟨gy, 0, none⟩) (r.length + 1) cy) pv ps)) (HI : Inv nx p.N st) (HB : Bd p.N st) (HT : total nx p.N st ≤ q) (HF : finP cmpN nx p.N st = R) (hwy : st.way = (v, k) :: r) (hk : k < (nx v).length) (uu : Nat → Value) :
    Code.wp Try.prog frB5 (Exit.inBlock 1 (Exit.then K (Exit.inBlock 0 (bodyPost Try.prog Try.f23 PP)))) ({ tmps := ((.pointer (some ⟨p.g, 0, none⟩) : Value) :: (.int .i64 (i : Nat) : Value) :: (.pointer (some ⟨p.bn, 0, none⟩) : Value) :: uu 3 :: uu 4 :: uu 5 :: (.pointer (some ⟨gy, r.length * 2, none⟩) : Value) :: uu 7 :: uu 8 :: uu 9 :: uu 10 :: uu 11 :: uu 12 :: uu 13 :: uu 14 :: uu 15 :: uu 16 :: uu 17 :: uu 18 :: uu 19 :: uu 20 :: uu 21 :: uu 22 :: uu 23 :: uu 24 :: uu 25 :: uu 26 :: uu 27 :: uu 28 :: uu 29 :: uu 30 :: uu 31 :: uu 32 :: uu 33 :: uu 34 :: uu 35 :: uu 36 :: uu 37 :: uu 38 :: uu 39 :: uu 40 :: uu 41 :: uu 42 :: uu 43 :: uu 44 :: uu 45 :: uu 46 :: uu 47 :: uu 48 :: uu 49 :: uu 50 :: uu 51 :: uu 52 :: uu 53 :: uu 54 :: uu 55 :: uu 56 :: uu 57 :: uu 58 :: uu 59 :: uu 60 :: uu 61 :: uu 62 :: uu 63 :: uu 64 :: uu 65 :: uu 66 :: uu 67 :: uu 68 :: uu 69 :: uu 70 :: uu 71 :: uu 72 :: uu 73 :: uu 74 :: uu 75 :: uu 76 :: uu 77 :: uu 78 :: uu 79 :: uu 80 :: uu 81 :: uu 82 :: uu 83 :: uu 84 :: uu 85 :: uu 86 :: uu 87 :: uu 88 :: uu 89 :: uu 90 :: uu 91 :: uu 92 :: uu 93 :: uu 94 :: uu 95 :: uu 96 :: uu 97 :: uu 98 :: uu 99 :: uu 100 :: uu 101 :: uu 102 :: uu 103 :: uu 104 :: uu 105 :: uu 106 :: uu 107 :: uu 108 :: uu 109 :: uu 110 :: uu 111 :: uu 112 :: uu 113 :: uu 114 :: uu 115 :: uu 116 :: uu 117 :: uu 118 :: uu 119 :: uu 120 :: uu 121 :: []).toArray, defers := [] } : Act) w := by
  have hvr : v ∈ st.row := HI.gr ⟨k, by rw [hwy]; exact List.mem_cons_self⟩
  have hvN : v < p.N := Inv.row_lt HI hvr
  obtain ⟨gn, cn, A, c, env, hcn, xr, hks⟩ := nx_cells HW X hvN
  obtain ⟨ga, hA, hcl, xt⟩ := hks k hk
  subst hA
  obtain ⟨t, ht⟩ : ∃ t, t = (nx v).getD k 0 := ⟨_, rfl⟩
  rw [← ht] at xt
  have htN : t < p.N := by
    rw [ht, List.getD_eq_getElem?_getD, List.getElem?_eq_getElem hk]
    exact hnx v _ (List.getElem_mem hk)
  obtain ⟨xv, xk, hfy⟩ := way_cells (m := mm st rv (.slice (some ⟨gy, 0, none⟩) (r.length + 1) cy) pv ps) HW hwy rfl
  have y0 : w.cell? ⟨p.g, 0, none⟩ = some (.slice (some ⟨gn, 0, none⟩) p.N cn) := by rw [← env]; exact HW.c0
  have yv := xv
  have yk := xk
  have yr := xr
  have yt := xt
  obtain ⟨pv1, qv1⟩ := ilt hvN
  obtain ⟨pt1, qt1⟩ := ilt htN
  obtain ⟨pk1, qk1⟩ := ilt hk
  have hk1 : wrap64 ((k : Int) + 1) = ((k + 1 : Nat) : Int) := by have := hnl v; unfold wrap64; omega
  have hRD : roundP cmpN nx st = (if st.wh t = 0 then meetP t (adv v k r st) else if t ∈ st.row then { adv v k r st with lo := up st.lo v (min (st.lo v) (st.wh t)) } else adv v k r st) := by
    unfold roundP
    rw [hwy, ht]
    exact if_neg (Nat.ne_of_lt hk)
  have hlt := HB.le
  have hml : st.wh t = 0 → st.n < p.N ∧ st.row.length < p.N ∧ ((v, k + 1) :: r).length < p.N := fun h0 => by
    have h1 := HB.lt htN h0
    have h2 := HB.r
    have h3 := HB.w
    rw [hwy] at h3
    simp only [List.length_cons] at h3 ⊢
    exact ⟨h1, by omega, by omega⟩
  have HWA := Aside0.mk HW
  have HRD := Aside0.mk hRD
  have HML := Aside0.mk hml
  have HQ := Aside0.mk (fun a' w' (ha : FA p i a') rv' wv' pv' ps' (h : Ws w0 w1 p w' (mm (roundP cmpN nx st) rv' wv' pv' ps')) => hQ a' w' ha (fs_round hnx (by rw [hwy]; simp) HI HB HT HF h))
  have WY := Aside0.mk hwy
  clear X hnx hnl hQ HI HB HT HF hwy hvr hks xv xk xr xt ht hRD hlt hml env hcl hk HW
  obtain ⟨code, hcode⟩ : ∃ code, frB5 = code := ⟨_, rfl⟩
  rw [hcode]
  unfold frB5 frB frLoop Try.f23 at hcode
  dsimp only [bodyC, sndC, inC, Option.getD] at hcode
  subst hcode
  go_wp2
  refine start_ (n := 17) (S := fun w' => w'.cell? ⟨p.g, 0, none⟩ = some (.slice (some ⟨gn, 0, none⟩) p.N cn) ∧ w'.cell? ⟨gy, r.length * 2, none⟩ = some (.int .i64 (v : Nat)) ∧ w'.cell? ⟨gy, r.length * 2 + 1, none⟩ = some (.int .i64 (k : Nat)) ∧ w'.cell? ⟨gn, v, none⟩ = some (.slice (some ⟨ga, 0, none⟩) (nx v).length c) ∧ w'.cell? ⟨ga, k, none⟩ = some (.int .i64 (t : Nat))) (ds := []) #[false, false, false, false, false, false, false, false, false, false, false, false, false, false, false, false, false] (by kernel_rfl) rfl rfl ⟨(pw_cell_below (below_drew (Below.refl _ _)) y0), (pw_cell_below (below_drew (Below.refl _ _)) yv), (pw_cell_below (below_drew (Below.refl _ _)) yk), (pw_cell_below (below_drew (Below.refl _ _)) yr), (pw_cell_below (below_drew (Below.refl _ _)) yt)⟩ (fun hHeld => ?_)
  refine pure_ (i := 0) (N := some 51) (v := ?_) (a' := ?_) #[true, false, false, false, false, false, false, false, false, false, false, false, false, false, false, false, false] rfl rfl (by kernel_rfl) (fun _ _ _ h => h) (Or.inl ⟨by rfl, ?_⟩) ?_ ?_
  rotate_left
  · intro w'
    go_simp
    with_reducible rfl
  rotate_left
  · simp only [Act.put, List.setIfInBounds_toArray, List.set_cons_zero, List.set_cons_succ, i64_w, i32_w]
    rfl
  refine pure_ (i := 1) (N := some 52) (v := ?_) (a' := ?_) #[true, true, false, false, false, false, false, false, false, false, false, false, false, false, false, false, false] rfl rfl (by kernel_rfl) (fun _ _ _ h => h) (Or.inl ⟨by rfl, ?_⟩) ?_ ?_
  rotate_left
  · intro w'
    go_simp
    with_reducible rfl
  rotate_left
  · simp only [Act.put, List.setIfInBounds_toArray, List.set_cons_zero, List.set_cons_succ, i64_w, i32_w]
    rfl
  refine pure_ (i := 2) (N := some 53) (v := ?_) (a' := ?_) #[true, true, true, false, false, false, false, false, false, false, false, false, false, false, false, false, false] rfl rfl (by kernel_rfl) (fun _ _ _ h => h) (Or.inl ⟨by rfl, ?_⟩) ?_ ?_
  rotate_left
  · intro w'
    go_simp
    with_reducible rfl
  rotate_left
  · simp only [Act.put, List.setIfInBounds_toArray, List.set_cons_zero, List.set_cons_succ, i64_w, i32_w]
    rfl
  refine pure_ (i := 4) (N := some 55) (v := ?_) (a' := ?_) #[true, true, true, false, true, false, false, false, false, false, false, false, false, false, false, false, false] rfl rfl (by kernel_rfl) (fun _ _ _ h => h) (Or.inl ⟨by rfl, ?_⟩) ?_ ?_
  rotate_left
  · intro w'
    go_simp
    with_reducible rfl
  rotate_left
  · simp only [Act.put, List.setIfInBounds_toArray, List.set_cons_zero, List.set_cons_succ, i64_w, i32_w]
    rfl
  refine pure_ (i := 5) (N := some 56) (v := ?_) (a' := ?_) #[true, true, true, false, true, true, false, false, false, false, false, false, false, false, false, false, false] rfl rfl (by kernel_rfl) (fun _ _ _ h => h) (Or.inl ⟨by rfl, ?_⟩) ?_ ?_
  rotate_left
  · intro w'
    go_simp
    with_reducible rfl
  rotate_left
  · simp only [Act.put, List.setIfInBounds_toArray, List.set_cons_zero, List.set_cons_succ, i64_w, i32_w]
    rfl
  refine pure_ (i := 6) (N := some 57) (v := ?_) (a' := ?_) #[true, true, true, false, true, true, true, false, false, false, false, false, false, false, false, false, false] rfl rfl (by kernel_rfl) (fun _ _ _ h => h) (Or.inl ⟨by rfl, ?_⟩) ?_ ?_
  rotate_left
  · intro w'
    go_simp
    with_reducible rfl
  rotate_left
  · simp only [Act.put, List.setIfInBounds_toArray, List.set_cons_zero, List.set_cons_succ, i64_w, i32_w]
    rfl
  refine pure_ (i := 10) (N := some 61) (v := ?_) (a' := ?_) #[true, true, true, false, true, true, true, false, false, false, true, false, false, false, false, false, false] rfl rfl (by kernel_rfl) (fun _ _ _ h => h) (Or.inl ⟨by rfl, ?_⟩) ?_ ?_
  rotate_left
  · intro w'
    go_simp
    with_reducible rfl
  rotate_left
  · simp only [Act.put, List.setIfInBounds_toArray, List.set_cons_zero, List.set_cons_succ, i64_w, i32_w]
    rfl
  refine pure_ (i := 11) (N := some 62) (v := ?_) (a' := ?_) #[true, true, true, false, true, true, true, false, false, false, true, true, false, false, false, false, false] rfl rfl (by kernel_rfl) (fun _ _ _ h => h) (Or.inl ⟨by rfl, ?_⟩) ?_ ?_
  rotate_left
  · intro w'
    go_simp
    with_reducible rfl
  rotate_left
  · simp only [Act.put, List.setIfInBounds_toArray, List.set_cons_zero, List.set_cons_succ, i64_w, i32_w]
    rfl
  refine pure_ (i := 12) (N := some 63) (v := ?_) (a' := ?_) #[true, true, true, false, true, true, true, false, false, false, true, true, true, false, false, false, false] rfl rfl (by kernel_rfl) (fun _ _ _ h => h) (Or.inl ⟨by rfl, ?_⟩) ?_ ?_
  rotate_left
  · intro w'
    go_simp
    with_reducible rfl
  rotate_left
  · simp only [Act.put, List.setIfInBounds_toArray, List.set_cons_zero, List.set_cons_succ, i64_w, i32_w]
    rfl
  refine take_ (i := 3) (N := some 54) (v := ?_) (a' := ?_) #[true, true, true, true, true, true, true, false, false, false, true, true, true, false, false, false, false] rfl rfl (by kernel_rfl) (fun _ _ _ h => h) (Or.inl ⟨by rfl, ?_⟩) hHeld ?_ ?_
  rotate_left
  · rintro w' ⟨s0, s1, s2, s3, s4⟩
    go_simp
    with_reducible rfl
  rotate_left
  · simp only [Act.put, List.setIfInBounds_toArray, List.set_cons_zero, List.set_cons_succ, i64_w, i32_w]
    rfl
  refine take_ (i := 7) (N := some 58) (v := ?_) (a' := ?_) #[true, true, true, true, true, true, true, true, false, false, true, true, true, false, false, false, false] rfl rfl (by kernel_rfl) (fun _ _ _ h => h) (Or.inl ⟨by rfl, ?_⟩) hHeld ?_ ?_
  rotate_left
  · rintro w' ⟨s0, s1, s2, s3, s4⟩
    go_simp
    with_reducible rfl
  rotate_left
  · simp only [Act.put, List.setIfInBounds_toArray, List.set_cons_zero, List.set_cons_succ, i64_w, i32_w]
    rfl
  refine pure_ (i := 8) (N := some 59) (v := ?_) (a' := ?_) #[true, true, true, true, true, true, true, true, true, false, true, true, true, false, false, false, false] rfl rfl (by kernel_rfl) (fun _ _ _ h => h) (Or.inl ⟨by rfl, ?_⟩) ?_ ?_
  rotate_left
  · intro w'
    go_simp
    with_reducible rfl
  rotate_left
  · simp only [Act.put, List.setIfInBounds_toArray, List.set_cons_zero, List.set_cons_succ, i64_w, i32_w]
    rfl
  refine take_ (i := 9) (N := some 60) (v := ?_) (a' := ?_) #[true, true, true, true, true, true, true, true, true, true, true, true, true, false, false, false, false] rfl rfl (by kernel_rfl) (fun _ _ _ h => h) (Or.inl ⟨by rfl, ?_⟩) hHeld ?_ ?_
  rotate_left
  · rintro w' ⟨s0, s1, s2, s3, s4⟩
    go_simp
    with_reducible rfl
  rotate_left
  · simp only [Act.put, List.setIfInBounds_toArray, List.set_cons_zero, List.set_cons_succ, i64_w, i32_w]
    rfl
  refine take_ (i := 13) (N := some 64) (v := ?_) (a' := ?_) #[true, true, true, true, true, true, true, true, true, true, true, true, true, true, false, false, false] rfl rfl (by kernel_rfl) (fun _ _ _ h => h) (Or.inl ⟨by rfl, ?_⟩) hHeld ?_ ?_
  rotate_left
  · rintro w' ⟨s0, s1, s2, s3, s4⟩
    go_simp
    with_reducible rfl
  rotate_left
  · simp only [Act.put, List.setIfInBounds_toArray, List.set_cons_zero, List.set_cons_succ, i64_w, i32_w]
    rfl
  refine pure_ (i := 14) (N := some 65) (v := ?_) (a' := ?_) #[true, true, true, true, true, true, true, true, true, true, true, true, true, true, true, false, false] rfl rfl (by kernel_rfl) (fun _ _ _ h => h) (Or.inl ⟨by rfl, ?_⟩) ?_ ?_
  rotate_left
  · intro w'
    go_simp
    with_reducible rfl
  rotate_left
  · simp only [Act.put, List.setIfInBounds_toArray, List.set_cons_zero, List.set_cons_succ, i64_w, i32_w]
    rfl
  refine take_ (i := 15) (N := some 66) (v := ?_) (a' := ?_) #[true, true, true, true, true, true, true, true, true, true, true, true, true, true, true, true, false] rfl rfl (by kernel_rfl) (fun _ _ _ h => h) (Or.inl ⟨by rfl, ?_⟩) hHeld ?_ ?_
  rotate_left
  · rintro w' ⟨s0, s1, s2, s3, s4⟩
    go_simp
    with_reducible rfl
  rotate_left
  · simp only [Act.put, List.setIfInBounds_toArray, List.set_cons_zero, List.set_cons_succ, i64_w, i32_w]
    rfl
  refine pure_ (i := 16) (N := some 7) (v := ?_) (a' := ?_) #[true, true, true, true, true, true, true, true, true, true, true, true, true, true, true, true, true] rfl rfl (by kernel_rfl) (fun _ _ _ h => h) (Or.inl ⟨by rfl, ?_⟩) ?_ ?_
  rotate_left
  · intro w'
    go_simp
    with_reducible rfl
  rotate_left
  · simp only [Act.put, List.setIfInBounds_toArray, List.set_cons_zero, List.set_cons_succ, i64_w, i32_w]
    rfl
  refine done_ (by kernel_rfl) ?_


  obtain ⟨m2, em2⟩ : ∃ m2 : Mm, m2 = { mm st rv (.slice (some ⟨gy, 0, none⟩) (r.length + 1) cy) pv ps with way := (v, k + 1) :: r } := ⟨_, rfl⟩
  have H2 := Aside0.mk (show Ws w0 w1 p (w.setCell ⟨gy, r.length * 2 + 1, none⟩ (.int .i64 ((k : Int) + 1))).drew m2 by
    rw [em2, show (k : Int) + 1 = ((k + 1 : Nat) : Int) by omega]
    exact (HWA.out.stepWay (m := mm st rv (.slice (some ⟨gy, 0, none⟩) (r.length + 1) cy) pv ps) WY.out rfl).drew)
  have E2 := Aside0.mk em2
  have xk : w.cell? ⟨gy, r.length * 2 + 1, none⟩ = some (.int .i64 (k : Nat)) := yk
  have fk : w.frozen? ⟨gy, r.length * 2 + 1, none⟩ = false := hfy _
  have z1 : w.cell? ⟨p.g, 1, none⟩ = some (.slice (some ⟨p.bw, 0, none⟩) p.N p.N) := HWA.out.c1
  have zw : w.cell? ⟨p.bw, t, none⟩ = some (.int .i64 (st.wh t : Nat)) := HWA.out.ws.cell htN
  have z4 : w.cell? ⟨p.g, 4, none⟩ = some (.slice (some ⟨p.bo, 0, none⟩) p.N p.N) := HWA.out.c4
  have zo : w.cell? ⟨p.bo, t, none⟩ = some (.bool (decide (t ∈ st.row))) := HWA.out.os.cell htN
  have hgy : p.B ≤ gy := (HWA.out.wy.lt gy rfl).1
  have ng : p.g ≠ gy := fun e => by have := HWA.out.gl; omega
  have nb : p.bw ≠ gy := fun e => by have := HWA.out.wl; omega
  have no : p.bo ≠ gy := fun e => by have := HWA.out.ol; omega
  clear em2 hHeld y0 yv yk yr yt hfy hgy
  by_cases hm : st.wh t = 0
  · obtain ⟨w2, ew2⟩ : ∃ w2, w2 = (w.setCell ⟨gy, r.length * 2 + 1, none⟩ (.int .i64 ((k : Int) + 1))).drew := ⟨_, rfl⟩
    have HMC := Aside0.mk (meet_calls w0 w1 w2 p (adv v k r st) rv (.slice (some ⟨gy, 0, none⟩) (r.length + 1) cy) pv ps t (by rw [ew2]; have := H2.out; rw [E2.out] at this; exact this) htN hN (HML.out hm).1 (HML.out hm).2.1 (HML.out hm).2.2)
    rw [ew2] at HMC
    clear ew2 w2
    go_wp2_with (go_at_call 31; refine HMC.out.mono ?_; rintro e w3 ⟨rfl, rv3, wv3, h3⟩; have H3 := Aside0.mk h3; clear h3)
    refine HQ.out _ _ ⟨rfl, rfl, rfl, rfl, rfl⟩ rv3 wv3 pv ps ?_
    rw [HRD.out, if_pos hm]
    exact H3.out
  · have hm' : ¬ ((st.wh t : Nat) : Int) = 0 := fun e => hm (by exact_mod_cast e)
    by_cases ho : t ∈ st.row
    · go_wp2
      obtain ⟨wz, ewz⟩ : ∃ wz, wz = (w.setCell ⟨gy, r.length * 2 + 1, none⟩ (.int .i64 ((k : Int) + 1))).drew := ⟨_, rfl⟩
      rw [← ewz] at H2
      rw [← ewz]
      clear ewz xk fk z1 zw z4 zo hk1
      have z2 : wz.cell? ⟨p.g, 2, none⟩ = some (.slice (some ⟨p.bl, 0, none⟩) p.N p.N) := H2.out.c2
      have z1 : wz.cell? ⟨p.g, 1, none⟩ = some (.slice (some ⟨p.bw, 0, none⟩) p.N p.N) := H2.out.c1
      have zv : wz.cell? ⟨gy, r.length * 2, none⟩ = some (.int .i64 (v : Nat)) := (way_cells (k := k + 1) (g := gy) (c := cy) H2.out (by rw [E2.out]) (by rw [E2.out]; rfl)).1
      have zl : wz.cell? ⟨p.bl, v, none⟩ = some (.int .i64 (st.lo v : Nat)) := by have := H2.out.ls.cell hvN; rw [E2.out] at this; exact this
      have zw : wz.cell? ⟨p.bw, t, none⟩ = some (.int .i64 (st.wh t : Nat)) := by have := H2.out.ws.cell htN; rw [E2.out] at this; exact this
      have fl : wz.frozen? ⟨p.bl, v, none⟩ = false := H2.out.ls.frozen v
      refine start_ (n := 28) (S := fun w' => w'.cell? ⟨p.g, 2, none⟩ = some (.slice (some ⟨p.bl, 0, none⟩) p.N p.N) ∧ w'.cell? ⟨p.g, 1, none⟩ = some (.slice (some ⟨p.bw, 0, none⟩) p.N p.N) ∧ w'.cell? ⟨gy, r.length * 2, none⟩ = some (.int .i64 (v : Nat)) ∧ w'.cell? ⟨p.bl, v, none⟩ = some (.int .i64 (st.lo v : Nat)) ∧ w'.cell? ⟨p.bw, t, none⟩ = some (.int .i64 (st.wh t : Nat))) (ds := [27]) #[false, false, false, false, false, false, false, false, false, false, false, false, false, false, false, false, false, false, false, false, false, false, false, false, false, false, false, false] (by kernel_rfl) rfl rfl ⟨(pw_cell_below (below_drew (Below.refl _ _)) z2), (pw_cell_below (below_drew (Below.refl _ _)) z1), (pw_cell_below (below_drew (Below.refl _ _)) zv), (pw_cell_below (below_drew (Below.refl _ _)) zl), (pw_cell_below (below_drew (Below.refl _ _)) zw)⟩ (fun hHeld => ?_)
      refine pure_ (i := 0) (N := some 95) (v := ?_) (a' := ?_) #[true, false, false, false, false, false, false, false, false, false, false, false, false, false, false, false, false, false, false, false, false, false, false, false, false, false, false, false] rfl rfl (by kernel_rfl) (fun _ _ _ h => h) (Or.inl ⟨by rfl, ?_⟩) ?_ ?_
      rotate_left
      · intro w'
        go_simp
        with_reducible rfl
      rotate_left
      · simp only [Act.put, List.setIfInBounds_toArray, List.set_cons_zero, List.set_cons_succ, i64_w, i32_w]
        rfl
      refine pure_ (i := 1) (N := some 96) (v := ?_) (a' := ?_) #[true, true, false, false, false, false, false, false, false, false, false, false, false, false, false, false, false, false, false, false, false, false, false, false, false, false, false, false] rfl rfl (by kernel_rfl) (fun _ _ _ h => h) (Or.inl ⟨by rfl, ?_⟩) ?_ ?_
      rotate_left
      · intro w'
        go_simp
        with_reducible rfl
      rotate_left
      · simp only [Act.put, List.setIfInBounds_toArray, List.set_cons_zero, List.set_cons_succ, i64_w, i32_w]
        rfl
      refine pure_ (i := 2) (N := some 97) (v := ?_) (a' := ?_) #[true, true, true, false, false, false, false, false, false, false, false, false, false, false, false, false, false, false, false, false, false, false, false, false, false, false, false, false] rfl rfl (by kernel_rfl) (fun _ _ _ h => h) (Or.inl ⟨by rfl, ?_⟩) ?_ ?_
      rotate_left
      · intro w'
        go_simp
        with_reducible rfl
      rotate_left
      · simp only [Act.put, List.setIfInBounds_toArray, List.set_cons_zero, List.set_cons_succ, i64_w, i32_w]
        rfl
      refine pure_ (i := 4) (N := some 99) (v := ?_) (a' := ?_) #[true, true, true, false, true, false, false, false, false, false, false, false, false, false, false, false, false, false, false, false, false, false, false, false, false, false, false, false] rfl rfl (by kernel_rfl) (fun _ _ _ h => h) (Or.inl ⟨by rfl, ?_⟩) ?_ ?_
      rotate_left
      · intro w'
        go_simp
        with_reducible rfl
      rotate_left
      · simp only [Act.put, List.setIfInBounds_toArray, List.set_cons_zero, List.set_cons_succ, i64_w, i32_w]
        rfl
      refine pure_ (i := 5) (N := some 100) (v := ?_) (a' := ?_) #[true, true, true, false, true, true, false, false, false, false, false, false, false, false, false, false, false, false, false, false, false, false, false, false, false, false, false, false] rfl rfl (by kernel_rfl) (fun _ _ _ h => h) (Or.inl ⟨by rfl, ?_⟩) ?_ ?_
      rotate_left
      · intro w'
        go_simp
        with_reducible rfl
      rotate_left
      · simp only [Act.put, List.setIfInBounds_toArray, List.set_cons_zero, List.set_cons_succ, i64_w, i32_w]
        rfl
      refine pure_ (i := 6) (N := some 101) (v := ?_) (a' := ?_) #[true, true, true, false, true, true, true, false, false, false, false, false, false, false, false, false, false, false, false, false, false, false, false, false, false, false, false, false] rfl rfl (by kernel_rfl) (fun _ _ _ h => h) (Or.inl ⟨by rfl, ?_⟩) ?_ ?_
      rotate_left
      · intro w'
        go_simp
        with_reducible rfl
      rotate_left
      · simp only [Act.put, List.setIfInBounds_toArray, List.set_cons_zero, List.set_cons_succ, i64_w, i32_w]
        rfl
      refine pure_ (i := 8) (N := some 103) (v := ?_) (a' := ?_) #[true, true, true, false, true, true, true, false, true, false, false, false, false, false, false, false, false, false, false, false, false, false, false, false, false, false, false, false] rfl rfl (by kernel_rfl) (fun _ _ _ h => h) (Or.inl ⟨by rfl, ?_⟩) ?_ ?_
      rotate_left
      · intro w'
        go_simp
        with_reducible rfl
      rotate_left
      · simp only [Act.put, List.setIfInBounds_toArray, List.set_cons_zero, List.set_cons_succ, i64_w, i32_w]
        rfl
      refine pure_ (i := 9) (N := some 104) (v := ?_) (a' := ?_) #[true, true, true, false, true, true, true, false, true, true, false, false, false, false, false, false, false, false, false, false, false, false, false, false, false, false, false, false] rfl rfl (by kernel_rfl) (fun _ _ _ h => h) (Or.inl ⟨by rfl, ?_⟩) ?_ ?_
      rotate_left
      · intro w'
        go_simp
        with_reducible rfl
      rotate_left
      · simp only [Act.put, List.setIfInBounds_toArray, List.set_cons_zero, List.set_cons_succ, i64_w, i32_w]
        rfl
      refine pure_ (i := 10) (N := some 105) (v := ?_) (a' := ?_) #[true, true, true, false, true, true, true, false, true, true, true, false, false, false, false, false, false, false, false, false, false, false, false, false, false, false, false, false] rfl rfl (by kernel_rfl) (fun _ _ _ h => h) (Or.inl ⟨by rfl, ?_⟩) ?_ ?_
      rotate_left
      · intro w'
        go_simp
        with_reducible rfl
      rotate_left
      · simp only [Act.put, List.setIfInBounds_toArray, List.set_cons_zero, List.set_cons_succ, i64_w, i32_w]
        rfl
      refine pure_ (i := 12) (N := some 107) (v := ?_) (a' := ?_) #[true, true, true, false, true, true, true, false, true, true, true, false, true, false, false, false, false, false, false, false, false, false, false, false, false, false, false, false] rfl rfl (by kernel_rfl) (fun _ _ _ h => h) (Or.inl ⟨by rfl, ?_⟩) ?_ ?_
      rotate_left
      · intro w'
        go_simp
        with_reducible rfl
      rotate_left
      · simp only [Act.put, List.setIfInBounds_toArray, List.set_cons_zero, List.set_cons_succ, i64_w, i32_w]
        rfl
      refine pure_ (i := 13) (N := some 108) (v := ?_) (a' := ?_) #[true, true, true, false, true, true, true, false, true, true, true, false, true, true, false, false, false, false, false, false, false, false, false, false, false, false, false, false] rfl rfl (by kernel_rfl) (fun _ _ _ h => h) (Or.inl ⟨by rfl, ?_⟩) ?_ ?_
      rotate_left
      · intro w'
        go_simp
        with_reducible rfl
      rotate_left
      · simp only [Act.put, List.setIfInBounds_toArray, List.set_cons_zero, List.set_cons_succ, i64_w, i32_w]
        rfl
      refine pure_ (i := 14) (N := some 109) (v := ?_) (a' := ?_) #[true, true, true, false, true, true, true, false, true, true, true, false, true, true, true, false, false, false, false, false, false, false, false, false, false, false, false, false] rfl rfl (by kernel_rfl) (fun _ _ _ h => h) (Or.inl ⟨by rfl, ?_⟩) ?_ ?_
      rotate_left
      · intro w'
        go_simp
        with_reducible rfl
      rotate_left
      · simp only [Act.put, List.setIfInBounds_toArray, List.set_cons_zero, List.set_cons_succ, i64_w, i32_w]
        rfl
      refine pure_ (i := 18) (N := some 113) (v := ?_) (a' := ?_) #[true, true, true, false, true, true, true, false, true, true, true, false, true, true, true, false, false, false, true, false, false, false, false, false, false, false, false, false] rfl rfl (by kernel_rfl) (fun _ _ _ h => h) (Or.inl ⟨by rfl, ?_⟩) ?_ ?_
      rotate_left
      · intro w'
        go_simp
        with_reducible rfl
      rotate_left
      · simp only [Act.put, List.setIfInBounds_toArray, List.set_cons_zero, List.set_cons_succ, i64_w, i32_w]
        rfl
      refine pure_ (i := 19) (N := some 114) (v := ?_) (a' := ?_) #[true, true, true, false, true, true, true, false, true, true, true, false, true, true, true, false, false, false, true, true, false, false, false, false, false, false, false, false] rfl rfl (by kernel_rfl) (fun _ _ _ h => h) (Or.inl ⟨by rfl, ?_⟩) ?_ ?_
      rotate_left
      · intro w'
        go_simp
        with_reducible rfl
      rotate_left
      · simp only [Act.put, List.setIfInBounds_toArray, List.set_cons_zero, List.set_cons_succ, i64_w, i32_w]
        rfl
      refine pure_ (i := 20) (N := some 115) (v := ?_) (a' := ?_) #[true, true, true, false, true, true, true, false, true, true, true, false, true, true, true, false, false, false, true, true, true, false, false, false, false, false, false, false] rfl rfl (by kernel_rfl) (fun _ _ _ h => h) (Or.inl ⟨by rfl, ?_⟩) ?_ ?_
      rotate_left
      · intro w'
        go_simp
        with_reducible rfl
      rotate_left
      · simp only [Act.put, List.setIfInBounds_toArray, List.set_cons_zero, List.set_cons_succ, i64_w, i32_w]
        rfl
      refine pure_ (i := 22) (N := some 117) (v := ?_) (a' := ?_) #[true, true, true, false, true, true, true, false, true, true, true, false, true, true, true, false, false, false, true, true, true, false, true, false, false, false, false, false] rfl rfl (by kernel_rfl) (fun _ _ _ h => h) (Or.inl ⟨by rfl, ?_⟩) ?_ ?_
      rotate_left
      · intro w'
        go_simp
        with_reducible rfl
      rotate_left
      · simp only [Act.put, List.setIfInBounds_toArray, List.set_cons_zero, List.set_cons_succ, i64_w, i32_w]
        rfl
      refine take_ (i := 3) (N := some 98) (v := ?_) (a' := ?_) #[true, true, true, true, true, true, true, false, true, true, true, false, true, true, true, false, false, false, true, true, true, false, true, false, false, false, false, false] rfl rfl (by kernel_rfl) (fun _ _ _ h => h) (Or.inl ⟨by rfl, ?_⟩) hHeld ?_ ?_
      rotate_left
      · rintro w' ⟨s0, s1, s2, s3, s4⟩
        go_simp
        with_reducible rfl
      rotate_left
      · simp only [Act.put, List.setIfInBounds_toArray, List.set_cons_zero, List.set_cons_succ, i64_w, i32_w]
        rfl
      refine take_ (i := 7) (N := some 102) (v := ?_) (a' := ?_) #[true, true, true, true, true, true, true, true, true, true, true, false, true, true, true, false, false, false, true, true, true, false, true, false, false, false, false, false] rfl rfl (by kernel_rfl) (fun _ _ _ h => h) (Or.inl ⟨by rfl, ?_⟩) hHeld ?_ ?_
      rotate_left
      · rintro w' ⟨s0, s1, s2, s3, s4⟩
        go_simp
        with_reducible rfl
      rotate_left
      · simp only [Act.put, List.setIfInBounds_toArray, List.set_cons_zero, List.set_cons_succ, i64_w, i32_w]
        rfl
      refine take_ (i := 11) (N := some 106) (v := ?_) (a' := ?_) #[true, true, true, true, true, true, true, true, true, true, true, true, true, true, true, false, false, false, true, true, true, false, true, false, false, false, false, false] rfl rfl (by kernel_rfl) (fun _ _ _ h => h) (Or.inl ⟨by rfl, ?_⟩) hHeld ?_ ?_
      rotate_left
      · rintro w' ⟨s0, s1, s2, s3, s4⟩
        go_simp
        with_reducible rfl
      rotate_left
      · simp only [Act.put, List.setIfInBounds_toArray, List.set_cons_zero, List.set_cons_succ, i64_w, i32_w]
        rfl
      refine take_ (i := 15) (N := some 110) (v := ?_) (a' := ?_) #[true, true, true, true, true, true, true, true, true, true, true, true, true, true, true, true, false, false, true, true, true, false, true, false, false, false, false, false] rfl rfl (by kernel_rfl) (fun _ _ _ h => h) (Or.inl ⟨by rfl, ?_⟩) hHeld ?_ ?_
      rotate_left
      · rintro w' ⟨s0, s1, s2, s3, s4⟩
        go_simp
        with_reducible rfl
      rotate_left
      · simp only [Act.put, List.setIfInBounds_toArray, List.set_cons_zero, List.set_cons_succ, i64_w, i32_w]
        rfl
      refine pure_ (i := 16) (N := some 111) (v := ?_) (a' := ?_) #[true, true, true, true, true, true, true, true, true, true, true, true, true, true, true, true, true, false, true, true, true, false, true, false, false, false, false, false] rfl rfl (by kernel_rfl) (fun _ _ _ h => h) (Or.inl ⟨by rfl, ?_⟩) ?_ ?_
      rotate_left
      · intro w'
        go_simp
        with_reducible rfl
      rotate_left
      · simp only [Act.put, List.setIfInBounds_toArray, List.set_cons_zero, List.set_cons_succ, i64_w, i32_w]
        rfl
      refine take_ (i := 17) (N := some 112) (v := ?_) (a' := ?_) #[true, true, true, true, true, true, true, true, true, true, true, true, true, true, true, true, true, true, true, true, true, false, true, false, false, false, false, false] rfl rfl (by kernel_rfl) (fun _ _ _ h => h) (Or.inl ⟨by rfl, ?_⟩) hHeld ?_ ?_
      rotate_left
      · rintro w' ⟨s0, s1, s2, s3, s4⟩
        go_simp
        with_reducible rfl
      rotate_left
      · simp only [Act.put, List.setIfInBounds_toArray, List.set_cons_zero, List.set_cons_succ, i64_w, i32_w]
        rfl
      refine take_ (i := 21) (N := some 116) (v := ?_) (a' := ?_) #[true, true, true, true, true, true, true, true, true, true, true, true, true, true, true, true, true, true, true, true, true, true, true, false, false, false, false, false] rfl rfl (by kernel_rfl) (fun _ _ _ h => h) (Or.inl ⟨by rfl, ?_⟩) hHeld ?_ ?_
      rotate_left
      · rintro w' ⟨s0, s1, s2, s3, s4⟩
        go_simp
        with_reducible rfl
      rotate_left
      · simp only [Act.put, List.setIfInBounds_toArray, List.set_cons_zero, List.set_cons_succ, i64_w, i32_w]
        rfl
      refine pure_ (i := 23) (N := some 118) (v := ?_) (a' := ?_) #[true, true, true, true, true, true, true, true, true, true, true, true, true, true, true, true, true, true, true, true, true, true, true, true, false, false, false, false] rfl rfl (by kernel_rfl) (fun _ _ _ h => h) (Or.inl ⟨by rfl, ?_⟩) ?_ ?_
      rotate_left
      · intro w'
        go_simp
        with_reducible rfl
      rotate_left
      · simp only [Act.put, List.setIfInBounds_toArray, List.set_cons_zero, List.set_cons_succ, i64_w, i32_w]
        rfl
      refine take_ (i := 24) (N := some 119) (v := ?_) (a' := ?_) #[true, true, true, true, true, true, true, true, true, true, true, true, true, true, true, true, true, true, true, true, true, true, true, true, true, false, false, false] rfl rfl (by kernel_rfl) (fun _ _ _ h => h) (Or.inl ⟨by rfl, ?_⟩) hHeld ?_ ?_
      rotate_left
      · rintro w' ⟨s0, s1, s2, s3, s4⟩
        go_simp
        with_reducible rfl
      rotate_left
      · simp only [Act.put, List.setIfInBounds_toArray, List.set_cons_zero, List.set_cons_succ, i64_w, i32_w]
        rfl
      refine pure_ (i := 25) (N := some 120) (v := ?_) (a' := ?_) #[true, true, true, true, true, true, true, true, true, true, true, true, true, true, true, true, true, true, true, true, true, true, true, true, true, true, false, false] rfl rfl (by kernel_rfl) (fun _ _ _ h => h) (Or.inl ⟨by rfl, ?_⟩) ?_ ?_
      rotate_left
      · intro w'
        go_simp
        with_reducible rfl
      rotate_left
      · simp only [Act.put, List.setIfInBounds_toArray, List.set_cons_zero, List.set_cons_succ, i64_w, i32_w]
        rfl
      refine pure_ (i := 26) (N := some 121) (v := ?_) (a' := ?_) #[true, true, true, true, true, true, true, true, true, true, true, true, true, true, true, true, true, true, true, true, true, true, true, true, true, true, true, false] rfl rfl (by kernel_rfl) (fun _ _ _ h => h) (Or.inl ⟨by rfl, ?_⟩) ?_ ?_
      rotate_left
      · intro w'
        go_simp
        with_reducible rfl
      rotate_left
      · simp only [Act.put, List.setIfInBounds_toArray, List.set_cons_zero, List.set_cons_succ, i64_w, i32_w]
        rfl
      refine last_ (i := 27) (N := none) #[true, true, true, true, true, true, true, true, true, true, true, true, true, true, true, true, true, true, true, true, true, true, true, true, true, true, true, true] rfl rfl (by kernel_rfl) (by decide) (fun K hK => ?_)
      refine skip_ (w1 := ?_) (by rfl) rfl ?_ ?_
      rotate_left
      · go_simp
        rfl
      refine hK.out _ _ ?_
      clear hK K
      refine done_ (by kernel_rfl) ?_


      simp only [Exit.inBlock, Exit.then]
      refine HQ.out _ _ ⟨rfl, rfl, rfl, rfl, rfl⟩ rv (.slice (some ⟨gy, 0, none⟩) (r.length + 1) cy) pv ps ?_
      rw [HRD.out, if_neg hm, if_pos ho, show (if st.wh t < st.lo v then ((st.wh t : Nat) : Int) else ((st.lo v : Nat) : Int)) = ((min (st.lo v) (st.wh t) : Nat) : Int) by split <;> omega]
      have := (H2.out.setL v (min (st.lo v) (st.wh t))).drew
      rw [E2.out] at this
      exact this
    · go_wp2
      refine HQ.out _ _ ⟨rfl, rfl, rfl, rfl, rfl⟩ rv (.slice (some ⟨gy, 0, none⟩) (r.length + 1) cy) pv ps ?_
      rw [HRD.out, if_neg hm, if_neg ho]
      have := H2.out
      rw [E2.out] at this
      exact this
set_option maxHeartbeats 2000000 in
set_option maxRecDepth 100000 in
theorem from_b2 (nx : Nat → List Nat) (w0 w1 w : World) (p : Pl) (i : Nat) (R : T) (vals : List Value) (q : Nat) (X : NX p nx w1 vals) (hnx : ∀ v, ∀ x ∈ nx v, x < p.N) (hnl : ∀ v, (nx v).length ≤ 5864062014805) (hN : p.N ≤ 5864062014805) (PP : Ending → World → Prop) (K : Act → World → Prop) (hQ : ∀ a' w', FA p i a' → (∃ q', q' < q ∧ FS w0 w1 p nx R q' w') → K a' w') (st : T) (rv pv : Value) (ps : List Value) (gy cy v k : Nat) (r : List (Nat × Nat)) (HW : Ws w0 w1 p w (mm st rv (.slice (some ⟨gy, 0, none⟩) (r.length + 1) cy) pv ps)) (HI : Inv nx p.N st) (HB : Bd p.N st) (HT : total nx p.N st ≤ q) (HF : finP cmpN nx p.N st = R) (hwy : st.way = (v, k) :: r) (uu : Nat → Value) :
    Code.wp Try.prog frB (Exit.inBlock 1 (Exit.then K (Exit.inBlock 0 (bodyPost Try.prog Try.f23 PP)))) ({ tmps := ((.pointer (some ⟨p.g, 0, none⟩) : Value) :: (.int .i64 (i : Nat) : Value) :: (.pointer (some ⟨p.bn, 0, none⟩) : Value) :: uu 3 :: uu 4 :: uu 5 :: uu 6 :: uu 7 :: uu 8 :: uu 9 :: uu 10 :: uu 11 :: uu 12 :: uu 13 :: uu 14 :: uu 15 :: uu 16 :: uu 17 :: uu 18 :: uu 19 :: uu 20 :: uu 21 :: uu 22 :: uu 23 :: uu 24 :: uu 25 :: uu 26 :: uu 27 :: uu 28 :: uu 29 :: uu 30 :: uu 31 :: uu 32 :: uu 33 :: uu 34 :: uu 35 :: uu 36 :: uu 37 :: uu 38 :: uu 39 :: uu 40 :: uu 41 :: uu 42 :: uu 43 :: uu 44 :: uu 45 :: uu 46 :: uu 47 :: uu 48 :: uu 49 :: uu 50 :: uu 51 :: uu 52 :: uu 53 :: uu 54 :: uu 55 :: uu 56 :: uu 57 :: uu 58 :: uu 59 :: uu 60 :: uu 61 :: uu 62 :: uu 63 :: uu 64 :: uu 65 :: uu 66 :: uu 67 :: uu 68 :: uu 69 :: uu 70 :: uu 71 :: uu 72 :: uu 73 :: uu 74 :: uu 75 :: uu 76 :: uu 77 :: uu 78 :: uu 79 :: uu 80 :: uu 81 :: uu 82 :: uu 83 :: uu 84 :: uu 85 :: uu 86 :: uu 87 :: uu 88 :: uu 89 :: uu 90 :: uu 91 :: uu 92 :: uu 93 :: uu 94 :: uu 95 :: uu 96 :: uu 97 :: uu 98 :: uu 99 :: uu 100 :: uu 101 :: uu 102 :: uu 103 :: uu 104 :: uu 105 :: uu 106 :: uu 107 :: uu 108 :: uu 109 :: uu 110 :: uu 111 :: uu 112 :: uu 113 :: uu 114 :: uu 115 :: uu 116 :: uu 117 :: uu 118 :: uu 119 :: uu 120 :: uu 121 :: []).toArray, defers := [] } : Act) w := by
  have hvr : v ∈ st.row := HI.gr ⟨k, by rw [hwy]; exact List.mem_cons_self⟩
  have hvN : v < p.N := Inv.row_lt HI hvr
  have hkl : k ≤ (nx v).length := (HI.wr (v, k) (by rw [hwy]; exact List.mem_cons_self)).2
  obtain ⟨gn, cn, A, c, env, hcn, xr, hks⟩ := nx_cells HW X hvN
  obtain ⟨xv, xk, hfy⟩ := way_cells (m := mm st rv (.slice (some ⟨gy, 0, none⟩) (r.length + 1) cy) pv ps) HW hwy rfl
  have x0 : w.cell? ⟨p.g, 0, none⟩ = some (.slice (some ⟨gn, 0, none⟩) p.N cn) := by rw [← env]; exact HW.c0
  have x5 : w.cell? ⟨p.g, 5, none⟩ = some (.slice (some ⟨gy, 0, none⟩) (r.length + 1) cy) := HW.c5
  obtain ⟨e1, hwr, p1, pos, q1⟩ := fr_len HB hN hwy
  obtain ⟨pv1, qv1⟩ := ilt hvN
  have HWA := Aside0.mk HW
  have L5 := Aside0.mk (fun (W : World) (hW : Ws w0 w1 p W (mm st rv (.slice (some ⟨gy, 0, none⟩) (r.length + 1) cy) pv ps)) (hk : k < (nx v).length) (uu : Nat → Value) => from_b5 nx w0 w1 W p i R vals q X hnx hnl hN PP K hQ st rv pv ps gy cy v k r hW HI HB HT HF hwy hk uu)
  have LV := Aside0.mk (fun (W : World) (hW : Ws w0 w1 p W (mm st rv (.slice (some ⟨gy, 0, none⟩) (r.length + 1) cy) pv ps)) => leave_calls nx w0 w1 W p st rv (.slice (some ⟨gy, 0, none⟩) (r.length + 1) cy) pv ps v k r hW HI hwy hN HB)
  have HRD := Aside0.mk (show k = (nx v).length → roundP cmpN nx st = leaveP cmpN v st from fun e => by
    unfold roundP
    rw [hwy]
    exact if_pos e)
  have HQ := Aside0.mk (fun a' w' (ha : FA p i a') rv' wv' pv' ps' (h : Ws w0 w1 p w' (mm (roundP cmpN nx st) rv' wv' pv' ps')) => hQ a' w' ha (fs_round hnx (by rw [hwy]; simp) HI HB HT HF h))
  have HKL := Aside0.mk hkl
  clear X hnx hnl hQ HI HB HT HF hwy hvr hks env hfy HW hkl
  obtain ⟨code, hcode⟩ : ∃ code, frB = code := ⟨_, rfl⟩
  rw [hcode]
  unfold frB frLoop Try.f23 at hcode
  dsimp only [bodyC, sndC, inC, Option.getD] at hcode
  subst hcode
  go_wp2
  refine start_ (n := 12) (S := fun w' => w'.cell? ⟨p.g, 5, none⟩ = some (.slice (some ⟨gy, 0, none⟩) (r.length + 1) cy)) (ds := []) #[false, false, false, false, false, false, false, false, false, false, false, false] (by kernel_rfl) rfl rfl ((pw_cell_below (below_drew (Below.refl _ _)) x5)) (fun hHeld => ?_)
  refine pure_ (i := 0) (N := some 18) (v := ?_) (a' := ?_) #[true, false, false, false, false, false, false, false, false, false, false, false] rfl rfl (by kernel_rfl) (fun _ _ _ h => h) (Or.inl ⟨by rfl, ?_⟩) ?_ ?_
  rotate_left
  · intro w'
    go_simp
    with_reducible rfl
  rotate_left
  · simp only [Act.put, List.setIfInBounds_toArray, List.set_cons_zero, List.set_cons_succ, i64_w, i32_w]
    rfl
  refine pure_ (i := 1) (N := some 19) (v := ?_) (a' := ?_) #[true, true, false, false, false, false, false, false, false, false, false, false] rfl rfl (by kernel_rfl) (fun _ _ _ h => h) (Or.inl ⟨by rfl, ?_⟩) ?_ ?_
  rotate_left
  · intro w'
    go_simp
    with_reducible rfl
  rotate_left
  · simp only [Act.put, List.setIfInBounds_toArray, List.set_cons_zero, List.set_cons_succ, i64_w, i32_w]
    rfl
  refine pure_ (i := 2) (N := some 20) (v := ?_) (a' := ?_) #[true, true, true, false, false, false, false, false, false, false, false, false] rfl rfl (by kernel_rfl) (fun _ _ _ h => h) (Or.inl ⟨by rfl, ?_⟩) ?_ ?_
  rotate_left
  · intro w'
    go_simp
    with_reducible rfl
  rotate_left
  · simp only [Act.put, List.setIfInBounds_toArray, List.set_cons_zero, List.set_cons_succ, i64_w, i32_w]
    rfl
  refine pure_ (i := 4) (N := some 22) (v := ?_) (a' := ?_) #[true, true, true, false, true, false, false, false, false, false, false, false] rfl rfl (by kernel_rfl) (fun _ _ _ h => h) (Or.inl ⟨by rfl, ?_⟩) ?_ ?_
  rotate_left
  · intro w'
    go_simp
    with_reducible rfl
  rotate_left
  · simp only [Act.put, List.setIfInBounds_toArray, List.set_cons_zero, List.set_cons_succ, i64_w, i32_w]
    rfl
  refine pure_ (i := 5) (N := some 23) (v := ?_) (a' := ?_) #[true, true, true, false, true, true, false, false, false, false, false, false] rfl rfl (by kernel_rfl) (fun _ _ _ h => h) (Or.inl ⟨by rfl, ?_⟩) ?_ ?_
  rotate_left
  · intro w'
    go_simp
    with_reducible rfl
  rotate_left
  · simp only [Act.put, List.setIfInBounds_toArray, List.set_cons_zero, List.set_cons_succ, i64_w, i32_w]
    rfl
  refine pure_ (i := 6) (N := some 24) (v := ?_) (a' := ?_) #[true, true, true, false, true, true, true, false, false, false, false, false] rfl rfl (by kernel_rfl) (fun _ _ _ h => h) (Or.inl ⟨by rfl, ?_⟩) ?_ ?_
  rotate_left
  · intro w'
    go_simp
    with_reducible rfl
  rotate_left
  · simp only [Act.put, List.setIfInBounds_toArray, List.set_cons_zero, List.set_cons_succ, i64_w, i32_w]
    rfl
  refine take_ (i := 3) (N := some 21) (v := ?_) (a' := ?_) #[true, true, true, true, true, true, true, false, false, false, false, false] rfl rfl (by kernel_rfl) (fun _ _ _ h => h) (Or.inl ⟨by rfl, ?_⟩) hHeld ?_ ?_
  rotate_left
  · intro w' s0
    go_simp
    with_reducible rfl
  rotate_left
  · simp only [Act.put, List.setIfInBounds_toArray, List.set_cons_zero, List.set_cons_succ, i64_w, i32_w]
    rfl
  refine take_ (i := 7) (N := some 25) (v := ?_) (a' := ?_) #[true, true, true, true, true, true, true, true, false, false, false, false] rfl rfl (by kernel_rfl) (fun _ _ _ h => h) (Or.inl ⟨by rfl, ?_⟩) hHeld ?_ ?_
  rotate_left
  · intro w' s0
    go_simp
    with_reducible rfl
  rotate_left
  · simp only [Act.put, List.setIfInBounds_toArray, List.set_cons_zero, List.set_cons_succ, i64_w, i32_w]
    rfl
  refine pure_ (i := 8) (N := some 26) (v := ?_) (a' := ?_) #[true, true, true, true, true, true, true, true, true, false, false, false] rfl rfl (by kernel_rfl) (fun _ _ _ h => h) (Or.inl ⟨by rfl, ?_⟩) ?_ ?_
  rotate_left
  · intro w'
    go_simp
    with_reducible rfl
  rotate_left
  · simp only [Act.put, List.setIfInBounds_toArray, List.set_cons_zero, List.set_cons_succ, i64_w, i32_w]
    rfl
  refine pure_ (i := 9) (N := some 27) (v := ?_) (a' := ?_) #[true, true, true, true, true, true, true, true, true, true, false, false] rfl rfl (by kernel_rfl) (fun _ _ _ h => h) (Or.inl ⟨by rfl, ?_⟩) ?_ ?_
  rotate_left
  · intro w'
    go_simp
    with_reducible rfl
  rotate_left
  · simp only [Act.put, List.setIfInBounds_toArray, List.set_cons_zero, List.set_cons_succ, i64_w, i32_w]
    rfl
  refine pure_ (i := 10) (N := some 28) (v := ?_) (a' := ?_) #[true, true, true, true, true, true, true, true, true, true, true, false] rfl rfl (by kernel_rfl) (fun _ _ _ h => h) (Or.inl ⟨by rfl, ?_⟩) ?_ ?_
  rotate_left
  · intro w'
    go_simp
    with_reducible rfl
  rotate_left
  · simp only [Act.put, List.setIfInBounds_toArray, List.set_cons_zero, List.set_cons_succ, i64_w, i32_w]
    rfl
  refine pure_ (i := 11) (N := some 6) (v := ?_) (a' := ?_) #[true, true, true, true, true, true, true, true, true, true, true, true] rfl rfl (by kernel_rfl) (fun _ _ _ h => h) (Or.inl ⟨by rfl, ?_⟩) ?_ ?_
  rotate_left
  · intro w'
    go_simp
    with_reducible rfl
  rotate_left
  · simp only [Act.put, List.setIfInBounds_toArray, List.set_cons_zero, List.set_cons_succ, i64_w, i32_w]
    rfl
  refine done_ (by kernel_rfl) ?_


  clear hHeld x5 e1 hwr p1 pos q1
  have y0 : w.drew.cell? ⟨p.g, 0, none⟩ = some (.slice (some ⟨gn, 0, none⟩) p.N cn) := x0
  obtain ⟨wd, ewd⟩ : ∃ wd, wd = w.drew := ⟨_, rfl⟩
  have HD := Aside0.mk (show Ws w0 w1 p wd (mm st rv (.slice (some ⟨gy, 0, none⟩) (r.length + 1) cy) pv ps) by rw [ewd]; exact HWA.out.drew)
  replace x0 : wd.cell? ⟨p.g, 0, none⟩ = some (.slice (some ⟨gn, 0, none⟩) p.N cn) := by rw [ewd]; exact x0
  replace xv : wd.cell? ⟨gy, r.length * 2, none⟩ = some (.int .i64 (v : Nat)) := by rw [ewd]; exact xv
  replace xk : wd.cell? ⟨gy, r.length * 2 + 1, none⟩ = some (.int .i64 (k : Nat)) := by rw [ewd]; exact xk
  replace xr : wd.cell? ⟨gn, v, none⟩ = some (.slice A (nx v).length c) := by rw [ewd]; exact xr
  rw [← ewd]
  clear ewd y0
  (try simp only [Exit.then])
  rename_i K1 a1
  refine a1 _ _ ?_
  refine wp_seq_k (fun K2 hK2 => ?_)
  have HK2 := Aside0.mk hK2
  clear hK2 a1 K1
  go_wp2
  refine start_ (n := 16) (S := fun w' => w'.cell? ⟨p.g, 0, none⟩ = some (.slice (some ⟨gn, 0, none⟩) p.N cn) ∧ w'.cell? ⟨gy, r.length * 2, none⟩ = some (.int .i64 (v : Nat)) ∧ w'.cell? ⟨gy, r.length * 2 + 1, none⟩ = some (.int .i64 (k : Nat)) ∧ w'.cell? ⟨gn, v, none⟩ = some (.slice A (nx v).length c)) (ds := []) #[false, false, false, false, false, false, false, false, false, false, false, false, false, false, false, false] (by kernel_rfl) rfl rfl ⟨(pw_cell_below (below_drew (Below.refl _ _)) x0), (pw_cell_below (below_drew (Below.refl _ _)) xv), (pw_cell_below (below_drew (Below.refl _ _)) xk), (pw_cell_below (below_drew (Below.refl _ _)) xr)⟩ (fun hHeld => ?_)
  refine pure_ (i := 0) (N := some 29) (v := ?_) (a' := ?_) #[true, false, false, false, false, false, false, false, false, false, false, false, false, false, false, false] rfl rfl (by kernel_rfl) (fun _ _ _ h => h) (Or.inl ⟨by rfl, ?_⟩) ?_ ?_
  rotate_left
  · intro w'
    go_simp
    with_reducible rfl
  rotate_left
  · simp only [Act.put, List.setIfInBounds_toArray, List.set_cons_zero, List.set_cons_succ, i64_w, i32_w]
    rfl
  refine pure_ (i := 1) (N := some 30) (v := ?_) (a' := ?_) #[true, true, false, false, false, false, false, false, false, false, false, false, false, false, false, false] rfl rfl (by kernel_rfl) (fun _ _ _ h => h) (Or.inl ⟨by rfl, ?_⟩) ?_ ?_
  rotate_left
  · intro w'
    go_simp
    with_reducible rfl
  rotate_left
  · simp only [Act.put, List.setIfInBounds_toArray, List.set_cons_zero, List.set_cons_succ, i64_w, i32_w]
    rfl
  refine pure_ (i := 2) (N := some 31) (v := ?_) (a' := ?_) #[true, true, true, false, false, false, false, false, false, false, false, false, false, false, false, false] rfl rfl (by kernel_rfl) (fun _ _ _ h => h) (Or.inl ⟨by rfl, ?_⟩) ?_ ?_
  rotate_left
  · intro w'
    go_simp
    with_reducible rfl
  rotate_left
  · simp only [Act.put, List.setIfInBounds_toArray, List.set_cons_zero, List.set_cons_succ, i64_w, i32_w]
    rfl
  refine pure_ (i := 4) (N := some 33) (v := ?_) (a' := ?_) #[true, true, true, false, true, false, false, false, false, false, false, false, false, false, false, false] rfl rfl (by kernel_rfl) (fun _ _ _ h => h) (Or.inl ⟨by rfl, ?_⟩) ?_ ?_
  rotate_left
  · intro w'
    go_simp
    with_reducible rfl
  rotate_left
  · simp only [Act.put, List.setIfInBounds_toArray, List.set_cons_zero, List.set_cons_succ, i64_w, i32_w]
    rfl
  refine pure_ (i := 5) (N := some 34) (v := ?_) (a' := ?_) #[true, true, true, false, true, true, false, false, false, false, false, false, false, false, false, false] rfl rfl (by kernel_rfl) (fun _ _ _ h => h) (Or.inl ⟨by rfl, ?_⟩) ?_ ?_
  rotate_left
  · intro w'
    go_simp
    with_reducible rfl
  rotate_left
  · simp only [Act.put, List.setIfInBounds_toArray, List.set_cons_zero, List.set_cons_succ, i64_w, i32_w]
    rfl
  refine pure_ (i := 6) (N := some 35) (v := ?_) (a' := ?_) #[true, true, true, false, true, true, true, false, false, false, false, false, false, false, false, false] rfl rfl (by kernel_rfl) (fun _ _ _ h => h) (Or.inl ⟨by rfl, ?_⟩) ?_ ?_
  rotate_left
  · intro w'
    go_simp
    with_reducible rfl
  rotate_left
  · simp only [Act.put, List.setIfInBounds_toArray, List.set_cons_zero, List.set_cons_succ, i64_w, i32_w]
    rfl
  refine pure_ (i := 8) (N := some 37) (v := ?_) (a' := ?_) #[true, true, true, false, true, true, true, false, true, false, false, false, false, false, false, false] rfl rfl (by kernel_rfl) (fun _ _ _ h => h) (Or.inl ⟨by rfl, ?_⟩) ?_ ?_
  rotate_left
  · intro w'
    go_simp
    with_reducible rfl
  rotate_left
  · simp only [Act.put, List.setIfInBounds_toArray, List.set_cons_zero, List.set_cons_succ, i64_w, i32_w]
    rfl
  refine pure_ (i := 9) (N := some 38) (v := ?_) (a' := ?_) #[true, true, true, false, true, true, true, false, true, true, false, false, false, false, false, false] rfl rfl (by kernel_rfl) (fun _ _ _ h => h) (Or.inl ⟨by rfl, ?_⟩) ?_ ?_
  rotate_left
  · intro w'
    go_simp
    with_reducible rfl
  rotate_left
  · simp only [Act.put, List.setIfInBounds_toArray, List.set_cons_zero, List.set_cons_succ, i64_w, i32_w]
    rfl
  refine pure_ (i := 10) (N := some 39) (v := ?_) (a' := ?_) #[true, true, true, false, true, true, true, false, true, true, true, false, false, false, false, false] rfl rfl (by kernel_rfl) (fun _ _ _ h => h) (Or.inl ⟨by rfl, ?_⟩) ?_ ?_
  rotate_left
  · intro w'
    go_simp
    with_reducible rfl
  rotate_left
  · simp only [Act.put, List.setIfInBounds_toArray, List.set_cons_zero, List.set_cons_succ, i64_w, i32_w]
    rfl
  refine take_ (i := 3) (N := some 32) (v := ?_) (a' := ?_) #[true, true, true, true, true, true, true, false, true, true, true, false, false, false, false, false] rfl rfl (by kernel_rfl) (fun _ _ _ h => h) (Or.inl ⟨by rfl, ?_⟩) hHeld ?_ ?_
  rotate_left
  · rintro w' ⟨s0, s1, s2, s3⟩
    go_simp
    with_reducible rfl
  rotate_left
  · simp only [Act.put, List.setIfInBounds_toArray, List.set_cons_zero, List.set_cons_succ, i64_w, i32_w]
    rfl
  refine take_ (i := 7) (N := some 36) (v := ?_) (a' := ?_) #[true, true, true, true, true, true, true, true, true, true, true, false, false, false, false, false] rfl rfl (by kernel_rfl) (fun _ _ _ h => h) (Or.inl ⟨by rfl, ?_⟩) hHeld ?_ ?_
  rotate_left
  · rintro w' ⟨s0, s1, s2, s3⟩
    go_simp
    with_reducible rfl
  rotate_left
  · simp only [Act.put, List.setIfInBounds_toArray, List.set_cons_zero, List.set_cons_succ, i64_w, i32_w]
    rfl
  refine take_ (i := 11) (N := some 40) (v := ?_) (a' := ?_) #[true, true, true, true, true, true, true, true, true, true, true, true, false, false, false, false] rfl rfl (by kernel_rfl) (fun _ _ _ h => h) (Or.inl ⟨by rfl, ?_⟩) hHeld ?_ ?_
  rotate_left
  · rintro w' ⟨s0, s1, s2, s3⟩
    go_simp
    with_reducible rfl
  rotate_left
  · simp only [Act.put, List.setIfInBounds_toArray, List.set_cons_zero, List.set_cons_succ, i64_w, i32_w]
    rfl
  refine pure_ (i := 12) (N := some 41) (v := ?_) (a' := ?_) #[true, true, true, true, true, true, true, true, true, true, true, true, true, false, false, false] rfl rfl (by kernel_rfl) (fun _ _ _ h => h) (Or.inl ⟨by rfl, ?_⟩) ?_ ?_
  rotate_left
  · intro w'
    go_simp
    with_reducible rfl
  rotate_left
  · simp only [Act.put, List.setIfInBounds_toArray, List.set_cons_zero, List.set_cons_succ, i64_w, i32_w]
    rfl
  refine take_ (i := 13) (N := some 42) (v := ?_) (a' := ?_) #[true, true, true, true, true, true, true, true, true, true, true, true, true, true, false, false] rfl rfl (by kernel_rfl) (fun _ _ _ h => h) (Or.inl ⟨by rfl, ?_⟩) hHeld ?_ ?_
  rotate_left
  · rintro w' ⟨s0, s1, s2, s3⟩
    go_simp
    with_reducible rfl
  rotate_left
  · simp only [Act.put, List.setIfInBounds_toArray, List.set_cons_zero, List.set_cons_succ, i64_w, i32_w]
    rfl
  refine pure_ (i := 14) (N := some 43) (v := ?_) (a' := ?_) #[true, true, true, true, true, true, true, true, true, true, true, true, true, true, true, false] rfl rfl (by kernel_rfl) (fun _ _ _ h => h) (Or.inl ⟨by rfl, ?_⟩) ?_ ?_
  rotate_left
  · intro w'
    go_simp
    with_reducible rfl
  rotate_left
  · simp only [Act.put, List.setIfInBounds_toArray, List.set_cons_zero, List.set_cons_succ, i64_w, i32_w]
    rfl
  refine pure_ (i := 15) (N := some 44) (v := ?_) (a' := ?_) #[true, true, true, true, true, true, true, true, true, true, true, true, true, true, true, true] rfl rfl (by kernel_rfl) (fun _ _ _ h => h) (Or.inl ⟨by rfl, ?_⟩) ?_ ?_
  rotate_left
  · intro w'
    go_simp
    with_reducible rfl
  rotate_left
  · simp only [Act.put, List.setIfInBounds_toArray, List.set_cons_zero, List.set_cons_succ, i64_w, i32_w]
    rfl
  refine done_ (by kernel_rfl) ?_


  clear hHeld
  obtain ⟨wz, ewz⟩ : ∃ wz, wz = wd.drew := ⟨_, rfl⟩
  have HZ := Aside0.mk (show Ws w0 w1 p wz (mm st rv (.slice (some ⟨gy, 0, none⟩) (r.length + 1) cy) pv ps) by rw [ewz]; exact HD.out.drew)
  replace xv : wz.cell? ⟨gy, r.length * 2, none⟩ = some (.int .i64 (v : Nat)) := by rw [ewz]; exact xv
  rw [← ewz]
  clear ewz x0 xk xr
  by_cases hk : k = (nx v).length
  · have hk' : ((k : Nat) : Int) = (((nx v).length : Nat) : Int) := by rw [hk]
    have LV1 := Aside0.mk (LV.out wz HZ.out)
    have HR := Aside0.mk (HRD.out hk)
    obtain ⟨L, hL⟩ : ∃ L, L = (nx v).length := ⟨_, rfl⟩
    rw [← hL] at hk hk' ⊢
    clear hL hk'
    subst hk
    go_wp2_with (go_at_call 32; refine LV1.out.mono ?_; rintro e w3 ⟨rfl, rv3, wv3, pv3, ps3, h3⟩; have H3 := Aside0.mk h3; clear h3)
    (try simp only [Exit.inBlock, Exit.then])
    refine HQ.out _ _ ⟨rfl, rfl, rfl, rfl, rfl⟩ rv3 wv3 pv3 ps3 ?_
    rw [HR.out]
    exact H3.out
  · have hkL := Aside0.mk (show k < (nx v).length by have := HKL.out; omega)
    have hk' : ¬ ((k : Nat) : Int) = (((nx v).length : Nat) : Int) := fun e => hk (by exact_mod_cast e)
    go_wp2
    (try simp only [Exit.inBlock, Exit.then])
    refine HK2.out _ _ ?_
    exact wp_fb ⟨rfl, rfl, rfl, rfl, rfl, rfl⟩ (fun uu => L5.out wz HZ.out hkL.out uu)
set_option maxHeartbeats 2000000 in
set_option maxRecDepth 100000 in
theorem from_round (nx : Nat → List Nat) (w0 w1 w : World) (p : Pl) (i : Nat) (R : T) (vals : List Value) (q : Nat) (X : NX p nx w1 vals) (hnx : ∀ v, ∀ x ∈ nx v, x < p.N) (hnl : ∀ v, (nx v).length ≤ 5864062014805) (hN : p.N ≤ 5864062014805) (PP : Ending → World → Prop) (K : Act → World → Prop) (hQ : ∀ a' w', FA p i a' → (∃ q', q' < q ∧ FS w0 w1 p nx R q' w') → K a' w') (hE : ∀ w', (∃ rv' wv' pv' ps', Ws w0 w1 p w' (mm R rv' wv' pv' ps')) → PP (.returned (.tuple #[])) w') (a : Act) (ha : FA p i a) (hS : FS w0 w1 p nx R q w) :
    Code.wp Try.prog frLoop (Exit.then K (Exit.inBlock 0 (bodyPost Try.prog Try.f23 PP))) a w := by
  obtain ⟨st, rv, wv, pv, ps, HW, HI, HB, HT, HF⟩ := hS
  obtain ⟨uu, rfl⟩ := fa_open p i a ha
  obtain ⟨code, hcode⟩ : ∃ code, frLoop = code := ⟨_, rfl⟩
  rw [hcode]
  unfold frLoop Try.f23 at hcode
  dsimp only [bodyC, sndC, inC, Option.getD] at hcode
  subst hcode
  refine wp_seq_k (fun K2 hK2 => ?_)
  have HK2 := Aside0.mk hK2
  clear hK2
  rcases hwy : st.way with _ | ⟨⟨v, k⟩, r⟩
  case' nil =>
    obtain ⟨A, c, ewv⟩ := own_slice HW.wy
    have ewv : wv = .slice A 0 c := by have e : wv = .slice A st.way.length c := ewv
                                       rw [hwy] at e; exact e
    subst ewv
    have x5 : w.cell? ⟨p.g, 5, none⟩ = some (.slice A 0 c) := HW.c5
    have HFE : st = R := by have := HF; rw [fin_end hwy] at this; exact this
    have HE := Aside0.mk (hE w ⟨rv, .slice A 0 c, pv, ps, by rw [← HFE]; exact HW⟩)
    clear hwy HFE HF HT HB HI HW hE hQ X hnx hnl HK2
    go_wp2
    (try simp only [Exit.inBlock, Exit.then])
    first | go_end0 | ((try simp only [Exit.inBlock, Exit.then]); refine bodyPost_ret (results_none rfl _ _ _) rfl ?_)
    exact HE.out
  case' cons =>
    obtain ⟨gy, cy, ewv, hgy, hgl, hcy⟩ := own_form HW.wy (show 0 < (mm st rv wv pv ps).way.length by show 0 < st.way.length; rw [hwy]; simp)
    have ewv : wv = .slice (some ⟨gy, 0, none⟩) (r.length + 1) cy := by have e : wv = .slice (some ⟨gy, 0, none⟩) st.way.length cy := ewv
                                                                        rw [hwy] at e; exact e
    subst ewv
    have x5 : w.cell? ⟨p.g, 5, none⟩ = some (.slice (some ⟨gy, 0, none⟩) (r.length + 1) cy) := HW.c5
    obtain ⟨e1, hwr, p1, pos, q1⟩ := fr_len HB hN hwy
    have L2 := Aside0.mk (fun (uu : Nat → Value) => from_b2 nx w0 w1 w p i R vals q X hnx hnl hN PP K hQ st rv pv ps gy cy v k r HW HI HB HT HF hwy uu)
    clear hwy HF HT HB HI HW hE hQ X hnx hnl hgy hgl hcy hwr q1 ewv
    go_wp2
    (try simp only [Exit.then])
    refine HK2.out _ _ ?_
    refine wp_block ?_
    exact wp_fa ⟨rfl, rfl, rfl, rfl, rfl⟩ L2.out
set_option maxHeartbeats 2000000 in
set_option maxRecDepth 100000 in
theorem from_calls (nx : Nat → List Nat) (w0 w1 w : World) (p : Pl) (s : T) (rv wv pv : Value) (ps vals : List Value) (i : Nat) (h : Ws w0 w1 p w (mm s rv wv pv ps)) (X : NX p nx w1 vals) (I : Inv nx p.N s) (hway : s.way = []) (hb : Bd p.N s) (hi : i < p.N) (hm : s.wh i = 0) (hnx : ∀ v, ∀ x ∈ nx v, x < p.N) (hnl : ∀ v, (nx v).length ≤ 5864062014805) (hN : p.N ≤ 5864062014805) :
    Calls Try.prog 23 #[.pointer (some ⟨p.g, 0, none⟩), .int .i64 (i : Nat), .pointer (some ⟨p.bn, 0, none⟩)] w fun e w' => e = .returned (.tuple #[]) ∧ ∃ rv' wv' pv' ps', Ws w0 w1 p w' (mm (fromP cmpN nx p.N i s) rv' wv' pv' ps') := by
  have hbl := hb.lt hi hm
  have M := Aside0.mk (meet_calls w0 w1 w p s rv wv pv ps i h hi hN hbl (by have := hb.r; omega) (by have := hb.w; omega))
  have I0 := start_inv I hway (row_nil I hway) hi hm
  have B0 := hb.meet hi hm
  obtain ⟨R, hR⟩ : ∃ R, R = finP cmpN nx p.N (meetP i s) := ⟨_, rfl⟩
  have FR := Aside0.mk (show fromP cmpN nx p.N i s = R by rw [fin_from i hm, hR])
  have L := Aside0.mk (fun (PP : Ending → World → Prop) hE (q : Nat) (a : Act) (w' : World) (hI : FA p i a ∧ FS w0 w1 p nx R q w') => from_round nx w0 w1 w' p i R vals q X hnx hnl hN PP (fun a' w' => ∃ q', q' < q ∧ FA p i a' ∧ FS w0 w1 p nx R q' w') (fun a' w' ha hs => by obtain ⟨q', h1, h2⟩ := hs; exact ⟨q', h1, ha, h2⟩) hE a hI.1 hI.2)
  have S0 := Aside0.mk (fun (w' : World) (rv wv : Value) (h : Ws w0 w1 p w' (mm (meetP i s) rv wv pv ps)) => (⟨meetP i s, rv, wv, pv, ps, h, I0, B0, Nat.le_refl _, hR.symm⟩ : FS w0 w1 p nx R (total nx p.N (meetP i s)) w'))
  clear X I hb hnx hR h hway hm hbl hnl I0 B0
  go_enter Try.func23, Try.ntmps23
  go_wp2_with (go_at_call 31; refine M.out.mono ?_; rintro e w2 ⟨rfl, rv2, wv2, h2⟩; have H2 := Aside0.mk (S0.out w2 rv2 wv2 h2); clear h2)
  clear M S0
  refine wp_loop_ghost (fun q a w' => FA p i a ∧ FS w0 w1 p nx R q w') (total nx p.N (meetP i s)) ⟨⟨rfl, rfl, rfl, rfl, rfl⟩, H2.out⟩ (fun q a w' hI => ?_)
  exact L.out _ (fun w' hw => ⟨rfl, by rw [FR.out]; exact hw⟩) q a w' hI
end Go.Proofs.Ytligpleningglaa.Cw
