/- Texts of this proof, joined in build order: Fr, Ps, Pt. -/
import Derived.Test.YtligpleningglaaGreatCz
import Derived.Test.YtligpleningglaaGreatC05
import Derived.Deep.RegionWith
set_option linter.unusedVariables false
set_option linter.unusedSimpArgs false
set_option linter.unusedSectionVars false
set_option maxHeartbeats 8000000
set_option maxRecDepth 100000
namespace Go.Proofs.YtligpleningglaaGreat.Cw
open Go Go.RowKit Go.Proofs.YtligpleningglaaGreat.Tarjan Go.Proofs.YtligpleningglaaGreatW.PrintWords Go.Proofs.YtligpleningglaaGreatW.PrintLast Go.Proofs.YtligpleningglaaGreatW.PrintMore Go.Proofs.YtligpleningglaaGreat.F
attribute [local go_sem] min2_int min_two
structure NX (p : Pl) (nx : Nat → List Nat) (w1 : World) (vals : List Value) : Prop where
  o : w1.ownsRow 0 44 1 p.nv p.N vals
  r : ∀ v, v < p.N → w1.ownsRow 0 3 1 (pt vals v) (nx v).length (ints (nx v))
  b : ∀ k, p.nv.ownBlock = some k → k < p.B ∧ ¬ p.own k
  rb : ∀ v, v < p.N → ∀ k, (pt vals v).ownBlock = some k → k < p.B ∧ ¬ p.own k
theorem nx_cells {w0 w1 w : World} {p : Pl} {m : Mm} {nx : Nat → List Nat} {vals : List Value} (h : Ws w0 w1 p w m) (X : NX p nx w1 vals) {v : Nat} (hv : v < p.N) :
    ∃ gn cn A c, p.nv = .slice (some ⟨gn, 0, none⟩) p.N cn ∧ p.N ≤ cn ∧ w.cell? ⟨gn, v, none⟩ = some (.slice A (nx v).length c) ∧ ∀ k, k < (nx v).length → ∃ ga, A = some ⟨ga, 0, none⟩ ∧ (nx v).length ≤ c ∧ w.cell? ⟨ga, k, none⟩ = some (.int .i64 ((nx v).getD k 0 : Nat)) := by
  obtain ⟨gn, cn, e, _, _, hc⟩ := own_form X.o cq2
  have hb := X.b gn (by rw [e]; rfl)
  have ho := X.o
  rw [e] at ho
  have h1 : w.cell? ⟨gn, v, none⟩ = w1.cell? ⟨gn, v, none⟩ := World.cell?_of_block (h.fz gn hb.1 hb.2)
  have hl : vals.length = p.N := by have := X.o.1; omega
  have hv2 : vals[v]? = some (pt vals v) := by
    unfold pt
    rw [qE cq2, qD, qE cq2]; rfl
  have hr := X.r v hv
  obtain ⟨A, c, e2⟩ := own_slice hr
  refine ⟨gn, cn, A, c, e, hc, by rw [h1, ho.cellAt v cq2, hv2, e2], fun k hk => ?_⟩
  obtain ⟨ga, ca, e3, _, _, hca⟩ := own_form hr cq2
  have hb2 := X.rb v hv ga (by rw [e3]; rfl)
  rw [e2] at e3
  injection e3 with e4 _ e5
  rw [e2, e4] at hr
  refine ⟨ga, e4, by omega, ?_⟩
  have h3 : w.cell? ⟨ga, k, none⟩ = w1.cell? ⟨ga, k, none⟩ := World.cell?_of_block (h.fz ga hb2.1 hb2.2)
  rw [h3, hr.cellAt k cq2]
  unfold ints
  rw [List.getElem?_map, qE hk, qD, qE hk]; rfl
noncomputable def inC : Code → Code
  | .block _ c => c
  | .loop c => c
  | c => c
noncomputable def frLoop : Code := inC (inC (sndC (bodyC Tryz.f28)))
noncomputable def frB : Code := inC (sndC frLoop)
noncomputable def frB5 : Code := sndC (sndC frB)
def FA (p : Pl) (i : Nat) (a : Act) : Prop := a.defers = [] ∧ a.tmps.size = 122 ∧ a.tmps.toList.getD 0 undef = .pointer (some ⟨p.g, 0, none⟩) ∧ a.tmps.toList.getD 1 undef = .int .i64 (i : Nat) ∧ a.tmps.toList.getD 2 undef = .pointer (some ⟨p.bn, 0, none⟩)
theorem list_fn (l : List Value) : l = (List.range l.length).map fun i => l.getD i undef := by
  apply List.ext_getElem
  · simp
  · intro i h1 h2
    simp [qD, h1]
theorem fa_open (p : Pl) (i : Nat) (a : Act) (h : FA p i a) : ∃ uu : Nat → Value, a = ({ tmps := ((.pointer (some ⟨p.g, 0, none⟩) : Value) :: (.int .i64 (i : Nat) : Value) :: (.pointer (some ⟨p.bn, 0, none⟩) : Value) :: uu 3 :: uu 4 :: uu 5 :: uu 6 :: uu 7 :: uu 8 :: uu 9 :: uu 10 :: uu 11 :: uu 12 :: uu 13 :: uu 14 :: uu 15 :: uu 16 :: uu 17 :: uu 18 :: uu 19 :: uu 20 :: uu 21 :: uu 22 :: uu 23 :: uu 24 :: uu 25 :: uu 26 :: uu 27 :: uu 28 :: uu 29 :: uu 30 :: uu 31 :: uu 32 :: uu 33 :: uu 34 :: uu 35 :: uu 36 :: uu 37 :: uu 38 :: uu 39 :: uu 40 :: uu 41 :: uu 42 :: uu 43 :: uu 44 :: uu 45 :: uu 46 :: uu 47 :: uu 48 :: uu 49 :: uu 50 :: uu 51 :: uu 52 :: uu 53 :: uu 54 :: uu 55 :: uu 56 :: uu 57 :: uu 58 :: uu 59 :: uu 60 :: uu 61 :: uu 62 :: uu 63 :: uu 64 :: uu 65 :: uu 66 :: uu 67 :: uu 68 :: uu 69 :: uu 70 :: uu 71 :: uu 72 :: uu 73 :: uu 74 :: uu 75 :: uu 76 :: uu 77 :: uu 78 :: uu 79 :: uu 80 :: uu 81 :: uu 82 :: uu 83 :: uu 84 :: uu 85 :: uu 86 :: uu 87 :: uu 88 :: uu 89 :: uu 90 :: uu 91 :: uu 92 :: uu 93 :: uu 94 :: uu 95 :: uu 96 :: uu 97 :: uu 98 :: uu 99 :: uu 100 :: uu 101 :: uu 102 :: uu 103 :: uu 104 :: uu 105 :: uu 106 :: uu 107 :: uu 108 :: uu 109 :: uu 110 :: uu 111 :: uu 112 :: uu 113 :: uu 114 :: uu 115 :: uu 116 :: uu 117 :: uu 118 :: uu 119 :: uu 120 :: uu 121 :: []).toArray, defers := [] } : Act) := by
  obtain ⟨tm, df⟩ := a
  obtain ⟨l⟩ := tm
  obtain ⟨h0, h1, h2, h3, h4⟩ := h
  obtain rfl : df = [] := h0
  have e : l = (List.range 122).map fun i => l.getD i undef := by
    have := list_fn l
    rw [show l.length = 122 from h1] at this
    exact this
  obtain ⟨uu, hu⟩ : ∃ uu : Nat → Value, uu = fun i => l.getD i undef := ⟨_, rfl⟩
  have q0 : uu 0 = .pointer (some ⟨p.g, 0, none⟩) := by rw [hu]; exact h2
  have q1 : uu 1 = .int .i64 (i : Nat) := by rw [hu]; exact h3
  have q2 : uu 2 = .pointer (some ⟨p.bn, 0, none⟩) := by rw [hu]; exact h4
  rw [← hu] at e
  refine ⟨uu, ?_⟩
  rw [← q0, ← q1, ← q2, e]
  rfl
def FS (w0 w1 : World) (p : Pl) (nx : Nat → List Nat) (R : T) (q : Nat) (w' : World) : Prop := ∃ (st : T) (rv wv pv : Value) (ps : List Value), Ws w0 w1 p w' (mm st rv wv pv ps) ∧ Inv nx p.N st ∧ Bd p.N st ∧ total nx p.N st ≤ q ∧ finP cmpN nx p.N st = R
theorem fs_round {w0 w1 w' : World} {p : Pl} {nx : Nat → List Nat} {R st : T} {q : Nat} {rv wv pv : Value} {ps : List Value} (hnx : ∀ v, ∀ x ∈ nx v, x < p.N) (hw : st.way ≠ []) (I : Inv nx p.N st) (hb : Bd p.N st) (ht : total nx p.N st ≤ q) (hf : finP cmpN nx p.N st = R) (h : Ws w0 w1 p w' (mm (roundP cmpN nx st) rv wv pv ps)) : ∃ q', q' < q ∧ FS w0 w1 p nx R q' w' :=
  ⟨total nx p.N (roundP cmpN nx st), Nat.lt_of_lt_of_le (round_lt I hw) ht, _, rv, wv, pv, ps, h, round_inv cmpN_mem hnx I, hb.round I hnx, Nat.le_refl _, by rw [fin_round cmpN_mem hnx I hw]; exact hf⟩
theorem fr_len {N : Nat} {st : T} {v k : Nat} {r : List (Nat × Nat)} (hb : Bd N st) (hN : N ≤ 5864062014805) (hw : st.way = (v, k) :: r) : ((r.length + 1 : Nat) : Int) = (r.length : Int) + 1 ∧ wrap64 (r.length : Int) = (r.length : Int) ∧ 0 ≤ (r.length : Int) ∧ (0 : Int) < (r.length : Int) + 1 ∧ (r.length : Int) < (r.length : Int) + 1 := by
  have h1 := hb.w
  have h2 := hb.le
  rw [hw] at h1
  simp only [List.length_cons] at h1
  refine ⟨by omega, by unfold wrap64; omega, by omega, by omega, by omega⟩
theorem ilt {v N : Nat} (h : v < N) : 0 ≤ (v : Int) ∧ (v : Int) < (N : Int) := ⟨by omega, by omega⟩
theorem wp_fa {p : Pl} {i : Nat} {code : Code} {Q : Exit → Act → World → Prop} {w : World} {a : Act} (h : FA p i a) (k : ∀ uu : Nat → Value, Code.wp Tryz.prog code Q ({ tmps := ((.pointer (some ⟨p.g, 0, none⟩) : Value) :: (.int .i64 (i : Nat) : Value) :: (.pointer (some ⟨p.bn, 0, none⟩) : Value) :: uu 3 :: uu 4 :: uu 5 :: uu 6 :: uu 7 :: uu 8 :: uu 9 :: uu 10 :: uu 11 :: uu 12 :: uu 13 :: uu 14 :: uu 15 :: uu 16 :: uu 17 :: uu 18 :: uu 19 :: uu 20 :: uu 21 :: uu 22 :: uu 23 :: uu 24 :: uu 25 :: uu 26 :: uu 27 :: uu 28 :: uu 29 :: uu 30 :: uu 31 :: uu 32 :: uu 33 :: uu 34 :: uu 35 :: uu 36 :: uu 37 :: uu 38 :: uu 39 :: uu 40 :: uu 41 :: uu 42 :: uu 43 :: uu 44 :: uu 45 :: uu 46 :: uu 47 :: uu 48 :: uu 49 :: uu 50 :: uu 51 :: uu 52 :: uu 53 :: uu 54 :: uu 55 :: uu 56 :: uu 57 :: uu 58 :: uu 59 :: uu 60 :: uu 61 :: uu 62 :: uu 63 :: uu 64 :: uu 65 :: uu 66 :: uu 67 :: uu 68 :: uu 69 :: uu 70 :: uu 71 :: uu 72 :: uu 73 :: uu 74 :: uu 75 :: uu 76 :: uu 77 :: uu 78 :: uu 79 :: uu 80 :: uu 81 :: uu 82 :: uu 83 :: uu 84 :: uu 85 :: uu 86 :: uu 87 :: uu 88 :: uu 89 :: uu 90 :: uu 91 :: uu 92 :: uu 93 :: uu 94 :: uu 95 :: uu 96 :: uu 97 :: uu 98 :: uu 99 :: uu 100 :: uu 101 :: uu 102 :: uu 103 :: uu 104 :: uu 105 :: uu 106 :: uu 107 :: uu 108 :: uu 109 :: uu 110 :: uu 111 :: uu 112 :: uu 113 :: uu 114 :: uu 115 :: uu 116 :: uu 117 :: uu 118 :: uu 119 :: uu 120 :: uu 121 :: []).toArray, defers := [] } : Act) w) : Code.wp Tryz.prog code Q a w := by
  obtain ⟨uu, rfl⟩ := fa_open p i a h
  exact k uu
def FB (p : Pl) (i gy n : Nat) (a : Act) : Prop := a.defers = [] ∧ a.tmps.size = 122 ∧ a.tmps.toList.getD 0 undef = .pointer (some ⟨p.g, 0, none⟩) ∧ a.tmps.toList.getD 1 undef = .int .i64 (i : Nat) ∧ a.tmps.toList.getD 2 undef = .pointer (some ⟨p.bn, 0, none⟩) ∧ a.tmps.toList.getD 6 undef = .pointer (some ⟨gy, n * 2, none⟩)
theorem wp_fb {p : Pl} {i gy n : Nat} {code : Code} {Q : Exit → Act → World → Prop} {w : World} {a : Act} (h : FB p i gy n a) (k : ∀ uu : Nat → Value, Code.wp Tryz.prog code Q ({ tmps := ((.pointer (some ⟨p.g, 0, none⟩) : Value) :: (.int .i64 (i : Nat) : Value) :: (.pointer (some ⟨p.bn, 0, none⟩) : Value) :: uu 3 :: uu 4 :: uu 5 :: (.pointer (some ⟨gy, n * 2, none⟩) : Value) :: uu 7 :: uu 8 :: uu 9 :: uu 10 :: uu 11 :: uu 12 :: uu 13 :: uu 14 :: uu 15 :: uu 16 :: uu 17 :: uu 18 :: uu 19 :: uu 20 :: uu 21 :: uu 22 :: uu 23 :: uu 24 :: uu 25 :: uu 26 :: uu 27 :: uu 28 :: uu 29 :: uu 30 :: uu 31 :: uu 32 :: uu 33 :: uu 34 :: uu 35 :: uu 36 :: uu 37 :: uu 38 :: uu 39 :: uu 40 :: uu 41 :: uu 42 :: uu 43 :: uu 44 :: uu 45 :: uu 46 :: uu 47 :: uu 48 :: uu 49 :: uu 50 :: uu 51 :: uu 52 :: uu 53 :: uu 54 :: uu 55 :: uu 56 :: uu 57 :: uu 58 :: uu 59 :: uu 60 :: uu 61 :: uu 62 :: uu 63 :: uu 64 :: uu 65 :: uu 66 :: uu 67 :: uu 68 :: uu 69 :: uu 70 :: uu 71 :: uu 72 :: uu 73 :: uu 74 :: uu 75 :: uu 76 :: uu 77 :: uu 78 :: uu 79 :: uu 80 :: uu 81 :: uu 82 :: uu 83 :: uu 84 :: uu 85 :: uu 86 :: uu 87 :: uu 88 :: uu 89 :: uu 90 :: uu 91 :: uu 92 :: uu 93 :: uu 94 :: uu 95 :: uu 96 :: uu 97 :: uu 98 :: uu 99 :: uu 100 :: uu 101 :: uu 102 :: uu 103 :: uu 104 :: uu 105 :: uu 106 :: uu 107 :: uu 108 :: uu 109 :: uu 110 :: uu 111 :: uu 112 :: uu 113 :: uu 114 :: uu 115 :: uu 116 :: uu 117 :: uu 118 :: uu 119 :: uu 120 :: uu 121 :: []).toArray, defers := [] } : Act) w) : Code.wp Tryz.prog code Q a w := by
  obtain ⟨tm, df⟩ := a
  obtain ⟨l⟩ := tm
  obtain ⟨h0, h1, h2, h3, h4, h5⟩ := h
  obtain rfl : df = [] := h0
  have e : l = (List.range 122).map fun i => l.getD i undef := by
    have := list_fn l
    rw [show l.length = 122 from h1] at this
    exact this
  obtain ⟨uu, hu⟩ : ∃ uu : Nat → Value, uu = fun i => l.getD i undef := ⟨_, rfl⟩
  have q0 : uu 0 = .pointer (some ⟨p.g, 0, none⟩) := by rw [hu]; exact h2
  have q1 : uu 1 = .int .i64 (i : Nat) := by rw [hu]; exact h3
  have q2 : uu 2 = .pointer (some ⟨p.bn, 0, none⟩) := by rw [hu]; exact h4
  have q6 : uu 6 = .pointer (some ⟨gy, n * 2, none⟩) := by rw [hu]; exact h5
  rw [← hu] at e
  have h7 := k uu
  rw [← q0, ← q1, ← q2, ← q6] at h7
  rw [e]
  exact h7
theorem from_b5 (nx : Nat → List Nat) (w0 w1 w : World) (p : Pl) (i : Nat) (R : T) (vals : List Value) (q : Nat) (X : NX p nx w1 vals) (hnx : ∀ v, ∀ x ∈ nx v, x < p.N) (hnl : ∀ v, (nx v).length ≤ 5864062014805) (hN : p.N ≤ 5864062014805) (PP : Ending → World → Prop) (K : Act → World → Prop) (hQ : ∀ a' w', FA p i a' → (∃ q', q' < q ∧ FS w0 w1 p nx R q' w') → K a' w') (st : T) (rv pv : Value) (ps : List Value) (gy cy v k : Nat) (r : List (Nat × Nat)) (HW : Ws w0 w1 p w (mm st rv (.slice (some ⟨gy, 0, none⟩) (r.length + 1) cy) pv ps)) (HI : Inv nx p.N st) (HB : Bd p.N st) (HT : total nx p.N st ≤ q) (HF : finP cmpN nx p.N st = R) (hwy : st.way = (v, k) :: r) (hk : k < (nx v).length) (uu : Nat → Value) :
    Code.wp Tryz.prog frB5 (Exit.inBlock 1 (Exit.then K (Exit.inBlock 0 (bodyPost Tryz.prog Tryz.f28 PP)))) ({ tmps := ((.pointer (some ⟨p.g, 0, none⟩) : Value) :: (.int .i64 (i : Nat) : Value) :: (.pointer (some ⟨p.bn, 0, none⟩) : Value) :: uu 3 :: uu 4 :: uu 5 :: (.pointer (some ⟨gy, r.length * 2, none⟩) : Value) :: uu 7 :: uu 8 :: uu 9 :: uu 10 :: uu 11 :: uu 12 :: uu 13 :: uu 14 :: uu 15 :: uu 16 :: uu 17 :: uu 18 :: uu 19 :: uu 20 :: uu 21 :: uu 22 :: uu 23 :: uu 24 :: uu 25 :: uu 26 :: uu 27 :: uu 28 :: uu 29 :: uu 30 :: uu 31 :: uu 32 :: uu 33 :: uu 34 :: uu 35 :: uu 36 :: uu 37 :: uu 38 :: uu 39 :: uu 40 :: uu 41 :: uu 42 :: uu 43 :: uu 44 :: uu 45 :: uu 46 :: uu 47 :: uu 48 :: uu 49 :: uu 50 :: uu 51 :: uu 52 :: uu 53 :: uu 54 :: uu 55 :: uu 56 :: uu 57 :: uu 58 :: uu 59 :: uu 60 :: uu 61 :: uu 62 :: uu 63 :: uu 64 :: uu 65 :: uu 66 :: uu 67 :: uu 68 :: uu 69 :: uu 70 :: uu 71 :: uu 72 :: uu 73 :: uu 74 :: uu 75 :: uu 76 :: uu 77 :: uu 78 :: uu 79 :: uu 80 :: uu 81 :: uu 82 :: uu 83 :: uu 84 :: uu 85 :: uu 86 :: uu 87 :: uu 88 :: uu 89 :: uu 90 :: uu 91 :: uu 92 :: uu 93 :: uu 94 :: uu 95 :: uu 96 :: uu 97 :: uu 98 :: uu 99 :: uu 100 :: uu 101 :: uu 102 :: uu 103 :: uu 104 :: uu 105 :: uu 106 :: uu 107 :: uu 108 :: uu 109 :: uu 110 :: uu 111 :: uu 112 :: uu 113 :: uu 114 :: uu 115 :: uu 116 :: uu 117 :: uu 118 :: uu 119 :: uu 120 :: uu 121 :: []).toArray, defers := [] } : Act) w := by
  have hvr : v ∈ st.row := HI.gr ⟨k, by rw [hwy]; exact List.mem_cons_self⟩
  have hvN : v < p.N := Inv.row_lt HI hvr
  obtain ⟨gn, cn, A, c, env, hcn, xr, hks⟩ := nx_cells HW X hvN
  obtain ⟨ga, hA, hcl, xt⟩ := hks k hk
  subst hA
  obtain ⟨t, ht⟩ : ∃ t, t = (nx v).getD k 0 := ⟨_, rfl⟩
  rw [← ht] at xt
  have htN : t < p.N := by
    rw [ht, qD, qE hk]
    exact hnx v _ (List.getElem_mem hk)
  obtain ⟨xv, xk, hfy⟩ := way_cells (m := mm st rv (.slice (some ⟨gy, 0, none⟩) (r.length + 1) cy) pv ps) HW hwy rfl
  have y0 : w.cell? ⟨p.g, 0, none⟩ = some (.slice (some ⟨gn, 0, none⟩) p.N cn) := by rw [← env]; exact HW.c0
  have yv := xv
  have yk := xk
  have yr := xr
  have yt := xt
  obtain ⟨pv1, qv1⟩ := ilt hvN
  obtain ⟨pt1, qt1⟩ := ilt htN
  obtain ⟨pk1, qk1⟩ := ilt hk
  have hk1 : wrap64 ((k : Int) + 1) = ((k + 1 : Nat) : Int) := by have := hnl v; unfold wrap64; omega
  have hRD : roundP cmpN nx st = (if st.wh t = 0 then meetP t (adv v k r st) else if t ∈ st.row then { adv v k r st with lo := up st.lo v (min (st.lo v) (st.wh t)) } else adv v k r st) := by
    unfold roundP
    rw [hwy, ht]
    exact if_neg (Nat.ne_of_lt hk)
  have hlt := HB.le
  have hml : st.wh t = 0 → st.n < p.N ∧ st.row.length < p.N ∧ ((v, k + 1) :: r).length < p.N := fun h0 => by
    have h1 := HB.lt htN h0
    have h2 := HB.r
    have h3 := HB.w
    rw [hwy] at h3
    simp only [List.length_cons] at h3 ⊢
    exact ⟨h1, by omega, by omega⟩
  have HWA := qA HW
  have HRD := qA hRD
  have HML := qA hml
  have HQ := qA (fun a' w' (ha : FA p i a') rv' wv' pv' ps' (h : Ws w0 w1 p w' (mm (roundP cmpN nx st) rv' wv' pv' ps')) => hQ a' w' ha (fs_round hnx (by rw [hwy]; simp) HI HB HT HF h))
  have WY := qA hwy
  clear X hnx hnl hQ HI HB HT HF hwy hvr hks xv xk xr xt ht hRD hlt hml env hcl hk HW
  obtain ⟨code, hcode⟩ : ∃ code, frB5 = code := ⟨_, rfl⟩
  rw [hcode]
  unfold frB5 frB frLoop Tryz.f28 at hcode
  dsimp only [bodyC, sndC, inC, Option.getD] at hcode
  subst hcode
  go_wp2
  refine start_ (n := 17) (S := fun w' => w'.cell? ⟨p.g, 0, none⟩ = some (.slice (some ⟨gn, 0, none⟩) p.N cn) ∧ w'.cell? ⟨gy, r.length * 2, none⟩ = some (.int .i64 (v : Nat)) ∧ w'.cell? ⟨gy, r.length * 2 + 1, none⟩ = some (.int .i64 (k : Nat)) ∧ w'.cell? ⟨gn, v, none⟩ = some (.slice (some ⟨ga, 0, none⟩) (nx v).length c) ∧ w'.cell? ⟨ga, k, none⟩ = some (.int .i64 (t : Nat))) (ds := []) #[false, false, false, false, false, false, false, false, false, false, false, false, false, false, false, false, false] cq3 rfl rfl ⟨(pw_cell_below (below_drew (Below.refl _ _)) y0), (pw_cell_below (below_drew (Below.refl _ _)) yv), (pw_cell_below (below_drew (Below.refl _ _)) yk), (pw_cell_below (below_drew (Below.refl _ _)) yr), (pw_cell_below (below_drew (Below.refl _ _)) yt)⟩ (fun hHeld => ?_)
  refine pure_ (i := 0) (N := some 51) (v := ?_) (a' := ?_) #[true, false, false, false, false, false, false, false, false, false, false, false, false, false, false, false, false] rfl rfl cq3 (fun _ _ _ h => h) (Or.inl ⟨by rfl, ?_⟩) ?_ ?_
  rotate_left
  · intro w'
    go_simp
    with_reducible rfl
  rotate_left
  · simp only [Act.put, qS, qZ, qN, i64_w, i32_w]
    rfl
  refine pure_ (i := 1) (N := some 52) (v := ?_) (a' := ?_) #[true, true, false, false, false, false, false, false, false, false, false, false, false, false, false, false, false] rfl rfl cq3 (fun _ _ _ h => h) (Or.inl ⟨by rfl, ?_⟩) ?_ ?_
  rotate_left
  · intro w'
    go_simp
    with_reducible rfl
  rotate_left
  · simp only [Act.put, qS, qZ, qN, i64_w, i32_w]
    rfl
  refine pure_ (i := 2) (N := some 53) (v := ?_) (a' := ?_) #[true, true, true, false, false, false, false, false, false, false, false, false, false, false, false, false, false] rfl rfl cq3 (fun _ _ _ h => h) (Or.inl ⟨by rfl, ?_⟩) ?_ ?_
  rotate_left
  · intro w'
    go_simp
    with_reducible rfl
  rotate_left
  · simp only [Act.put, qS, qZ, qN, i64_w, i32_w]
    rfl
  refine pure_ (i := 4) (N := some 55) (v := ?_) (a' := ?_) #[true, true, true, false, true, false, false, false, false, false, false, false, false, false, false, false, false] rfl rfl cq3 (fun _ _ _ h => h) (Or.inl ⟨by rfl, ?_⟩) ?_ ?_
  rotate_left
  · intro w'
    go_simp
    with_reducible rfl
  rotate_left
  · simp only [Act.put, qS, qZ, qN, i64_w, i32_w]
    rfl
  refine pure_ (i := 5) (N := some 56) (v := ?_) (a' := ?_) #[true, true, true, false, true, true, false, false, false, false, false, false, false, false, false, false, false] rfl rfl cq3 (fun _ _ _ h => h) (Or.inl ⟨by rfl, ?_⟩) ?_ ?_
  rotate_left
  · intro w'
    go_simp
    with_reducible rfl
  rotate_left
  · simp only [Act.put, qS, qZ, qN, i64_w, i32_w]
    rfl
  refine pure_ (i := 6) (N := some 57) (v := ?_) (a' := ?_) #[true, true, true, false, true, true, true, false, false, false, false, false, false, false, false, false, false] rfl rfl cq3 (fun _ _ _ h => h) (Or.inl ⟨by rfl, ?_⟩) ?_ ?_
  rotate_left
  · intro w'
    go_simp
    with_reducible rfl
  rotate_left
  · simp only [Act.put, qS, qZ, qN, i64_w, i32_w]
    rfl
  refine pure_ (i := 10) (N := some 61) (v := ?_) (a' := ?_) #[true, true, true, false, true, true, true, false, false, false, true, false, false, false, false, false, false] rfl rfl cq3 (fun _ _ _ h => h) (Or.inl ⟨by rfl, ?_⟩) ?_ ?_
  rotate_left
  · intro w'
    go_simp
    with_reducible rfl
  rotate_left
  · simp only [Act.put, qS, qZ, qN, i64_w, i32_w]
    rfl
  refine pure_ (i := 11) (N := some 62) (v := ?_) (a' := ?_) #[true, true, true, false, true, true, true, false, false, false, true, true, false, false, false, false, false] rfl rfl cq3 (fun _ _ _ h => h) (Or.inl ⟨by rfl, ?_⟩) ?_ ?_
  rotate_left
  · intro w'
    go_simp
    with_reducible rfl
  rotate_left
  · simp only [Act.put, qS, qZ, qN, i64_w, i32_w]
    rfl
  refine pure_ (i := 12) (N := some 63) (v := ?_) (a' := ?_) #[true, true, true, false, true, true, true, false, false, false, true, true, true, false, false, false, false] rfl rfl cq3 (fun _ _ _ h => h) (Or.inl ⟨by rfl, ?_⟩) ?_ ?_
  rotate_left
  · intro w'
    go_simp
    with_reducible rfl
  rotate_left
  · simp only [Act.put, qS, qZ, qN, i64_w, i32_w]
    rfl
  refine take_ (i := 3) (N := some 54) (v := ?_) (a' := ?_) #[true, true, true, true, true, true, true, false, false, false, true, true, true, false, false, false, false] rfl rfl cq3 (fun _ _ _ h => h) (Or.inl ⟨by rfl, ?_⟩) hHeld ?_ ?_
  rotate_left
  · rintro w' ⟨s0, s1, s2, s3, s4⟩
    go_simp
    with_reducible rfl
  rotate_left
  · simp only [Act.put, qS, qZ, qN, i64_w, i32_w]
    rfl
  refine take_ (i := 7) (N := some 58) (v := ?_) (a' := ?_) #[true, true, true, true, true, true, true, true, false, false, true, true, true, false, false, false, false] rfl rfl cq3 (fun _ _ _ h => h) (Or.inl ⟨by rfl, ?_⟩) hHeld ?_ ?_
  rotate_left
  · rintro w' ⟨s0, s1, s2, s3, s4⟩
    go_simp
    with_reducible rfl
  rotate_left
  · simp only [Act.put, qS, qZ, qN, i64_w, i32_w]
    rfl
  refine pure_ (i := 8) (N := some 59) (v := ?_) (a' := ?_) #[true, true, true, true, true, true, true, true, true, false, true, true, true, false, false, false, false] rfl rfl cq3 (fun _ _ _ h => h) (Or.inl ⟨by rfl, ?_⟩) ?_ ?_
  rotate_left
  · intro w'
    go_simp
    with_reducible rfl
  rotate_left
  · simp only [Act.put, qS, qZ, qN, i64_w, i32_w]
    rfl
  refine take_ (i := 9) (N := some 60) (v := ?_) (a' := ?_) #[true, true, true, true, true, true, true, true, true, true, true, true, true, false, false, false, false] rfl rfl cq3 (fun _ _ _ h => h) (Or.inl ⟨by rfl, ?_⟩) hHeld ?_ ?_
  rotate_left
  · rintro w' ⟨s0, s1, s2, s3, s4⟩
    go_simp
    with_reducible rfl
  rotate_left
  · simp only [Act.put, qS, qZ, qN, i64_w, i32_w]
    rfl
  refine take_ (i := 13) (N := some 64) (v := ?_) (a' := ?_) #[true, true, true, true, true, true, true, true, true, true, true, true, true, true, false, false, false] rfl rfl cq3 (fun _ _ _ h => h) (Or.inl ⟨by rfl, ?_⟩) hHeld ?_ ?_
  rotate_left
  · rintro w' ⟨s0, s1, s2, s3, s4⟩
    go_simp
    with_reducible rfl
  rotate_left
  · simp only [Act.put, qS, qZ, qN, i64_w, i32_w]
    rfl
  refine pure_ (i := 14) (N := some 65) (v := ?_) (a' := ?_) #[true, true, true, true, true, true, true, true, true, true, true, true, true, true, true, false, false] rfl rfl cq3 (fun _ _ _ h => h) (Or.inl ⟨by rfl, ?_⟩) ?_ ?_
  rotate_left
  · intro w'
    go_simp
    with_reducible rfl
  rotate_left
  · simp only [Act.put, qS, qZ, qN, i64_w, i32_w]
    rfl
  refine take_ (i := 15) (N := some 66) (v := ?_) (a' := ?_) #[true, true, true, true, true, true, true, true, true, true, true, true, true, true, true, true, false] rfl rfl cq3 (fun _ _ _ h => h) (Or.inl ⟨by rfl, ?_⟩) hHeld ?_ ?_
  rotate_left
  · rintro w' ⟨s0, s1, s2, s3, s4⟩
    go_simp
    with_reducible rfl
  rotate_left
  · simp only [Act.put, qS, qZ, qN, i64_w, i32_w]
    rfl
  refine pure_ (i := 16) (N := some 7) (v := ?_) (a' := ?_) #[true, true, true, true, true, true, true, true, true, true, true, true, true, true, true, true, true] rfl rfl cq3 (fun _ _ _ h => h) (Or.inl ⟨by rfl, ?_⟩) ?_ ?_
  rotate_left
  · intro w'
    go_simp
    with_reducible rfl
  rotate_left
  · simp only [Act.put, qS, qZ, qN, i64_w, i32_w]
    rfl
  refine done_ cq3 ?_


  obtain ⟨m2, em2⟩ : ∃ m2 : Mm, m2 = { mm st rv (.slice (some ⟨gy, 0, none⟩) (r.length + 1) cy) pv ps with way := (v, k + 1) :: r } := ⟨_, rfl⟩
  have H2 := qA (show Ws w0 w1 p (w.setCell ⟨gy, r.length * 2 + 1, none⟩ (.int .i64 ((k : Int) + 1))).drew m2 by
    rw [em2, show (k : Int) + 1 = ((k + 1 : Nat) : Int) by omega]
    exact (HWA.out.stepWay (m := mm st rv (.slice (some ⟨gy, 0, none⟩) (r.length + 1) cy) pv ps) WY.out rfl).drew)
  have E2 := qA em2
  have xk : w.cell? ⟨gy, r.length * 2 + 1, none⟩ = some (.int .i64 (k : Nat)) := yk
  have fk : w.frozen? ⟨gy, r.length * 2 + 1, none⟩ = false := hfy _
  have z1 : w.cell? ⟨p.g, 1, none⟩ = some (.slice (some ⟨p.bw, 0, none⟩) p.N p.N) := HWA.out.c1
  have zw : w.cell? ⟨p.bw, t, none⟩ = some (.int .i64 (st.wh t : Nat)) := HWA.out.ws.cell htN
  have z4 : w.cell? ⟨p.g, 4, none⟩ = some (.slice (some ⟨p.bo, 0, none⟩) p.N p.N) := HWA.out.c4
  have zo : w.cell? ⟨p.bo, t, none⟩ = some (.bool (decide (t ∈ st.row))) := HWA.out.os.cell htN
  have hgy : p.B ≤ gy := (HWA.out.wy.lt gy rfl).1
  have ng : p.g ≠ gy := fun e => by have := HWA.out.gl; omega
  have nb : p.bw ≠ gy := fun e => by have := HWA.out.wl; omega
  have no : p.bo ≠ gy := fun e => by have := HWA.out.ol; omega
  clear em2 hHeld y0 yv yk yr yt hfy hgy
  by_cases hm : st.wh t = 0
  · obtain ⟨w2, ew2⟩ : ∃ w2, w2 = (w.setCell ⟨gy, r.length * 2 + 1, none⟩ (.int .i64 ((k : Int) + 1))).drew := ⟨_, rfl⟩
    have HMC := qA (meet_calls w0 w1 w2 p (adv v k r st) rv (.slice (some ⟨gy, 0, none⟩) (r.length + 1) cy) pv ps t (by rw [ew2]; have := H2.out; rw [E2.out] at this; exact this) htN hN (HML.out hm).1 (HML.out hm).2.1 (HML.out hm).2.2)
    rw [ew2] at HMC
    clear ew2 w2
    go_wp2_with (go_at_call 49; refine HMC.out.mono ?_; rintro e w3 ⟨rfl, rv3, wv3, h3⟩; have H3 := qA h3; clear h3)
    refine HQ.out _ _ ⟨rfl, rfl, rfl, rfl, rfl⟩ rv3 wv3 pv ps ?_
    rw [HRD.out, if_pos hm]
    exact H3.out
  · have hm' : ¬ ((st.wh t : Nat) : Int) = 0 := fun e => hm (by exact_mod_cast e)
    by_cases ho : t ∈ st.row
    · go_wp2
      obtain ⟨wz, ewz⟩ : ∃ wz, wz = (w.setCell ⟨gy, r.length * 2 + 1, none⟩ (.int .i64 ((k : Int) + 1))).drew := ⟨_, rfl⟩
      rw [← ewz] at H2
      rw [← ewz]
      clear ewz xk fk z1 zw z4 zo hk1
      have z2 : wz.cell? ⟨p.g, 2, none⟩ = some (.slice (some ⟨p.bl, 0, none⟩) p.N p.N) := H2.out.c2
      have z1 : wz.cell? ⟨p.g, 1, none⟩ = some (.slice (some ⟨p.bw, 0, none⟩) p.N p.N) := H2.out.c1
      have zv : wz.cell? ⟨gy, r.length * 2, none⟩ = some (.int .i64 (v : Nat)) := (way_cells (k := k + 1) (g := gy) (c := cy) H2.out (by rw [E2.out]) (by rw [E2.out]; rfl)).1
      have zl : wz.cell? ⟨p.bl, v, none⟩ = some (.int .i64 (st.lo v : Nat)) := by have := H2.out.ls.cell hvN; rw [E2.out] at this; exact this
      have zw : wz.cell? ⟨p.bw, t, none⟩ = some (.int .i64 (st.wh t : Nat)) := by have := H2.out.ws.cell htN; rw [E2.out] at this; exact this
      have fl : wz.frozen? ⟨p.bl, v, none⟩ = false := H2.out.ls.frozen v
      refine start_ (n := 28) (S := fun w' => w'.cell? ⟨p.g, 2, none⟩ = some (.slice (some ⟨p.bl, 0, none⟩) p.N p.N) ∧ w'.cell? ⟨p.g, 1, none⟩ = some (.slice (some ⟨p.bw, 0, none⟩) p.N p.N) ∧ w'.cell? ⟨gy, r.length * 2, none⟩ = some (.int .i64 (v : Nat)) ∧ w'.cell? ⟨p.bl, v, none⟩ = some (.int .i64 (st.lo v : Nat)) ∧ w'.cell? ⟨p.bw, t, none⟩ = some (.int .i64 (st.wh t : Nat))) (ds := [27]) #[false, false, false, false, false, false, false, false, false, false, false, false, false, false, false, false, false, false, false, false, false, false, false, false, false, false, false, false] cq3 rfl rfl ⟨(pw_cell_below (below_drew (Below.refl _ _)) z2), (pw_cell_below (below_drew (Below.refl _ _)) z1), (pw_cell_below (below_drew (Below.refl _ _)) zv), (pw_cell_below (below_drew (Below.refl _ _)) zl), (pw_cell_below (below_drew (Below.refl _ _)) zw)⟩ (fun hHeld => ?_)
      refine pure_ (i := 0) (N := some 95) (v := ?_) (a' := ?_) #[true, false, false, false, false, false, false, false, false, false, false, false, false, false, false, false, false, false, false, false, false, false, false, false, false, false, false, false] rfl rfl cq3 (fun _ _ _ h => h) (Or.inl ⟨by rfl, ?_⟩) ?_ ?_
      rotate_left
      · intro w'
        go_simp
        with_reducible rfl
      rotate_left
      · simp only [Act.put, qS, qZ, qN, i64_w, i32_w]
        rfl
      refine pure_ (i := 1) (N := some 96) (v := ?_) (a' := ?_) #[true, true, false, false, false, false, false, false, false, false, false, false, false, false, false, false, false, false, false, false, false, false, false, false, false, false, false, false] rfl rfl cq3 (fun _ _ _ h => h) (Or.inl ⟨by rfl, ?_⟩) ?_ ?_
      rotate_left
      · intro w'
        go_simp
        with_reducible rfl
      rotate_left
      · simp only [Act.put, qS, qZ, qN, i64_w, i32_w]
        rfl
      refine pure_ (i := 2) (N := some 97) (v := ?_) (a' := ?_) #[true, true, true, false, false, false, false, false, false, false, false, false, false, false, false, false, false, false, false, false, false, false, false, false, false, false, false, false] rfl rfl cq3 (fun _ _ _ h => h) (Or.inl ⟨by rfl, ?_⟩) ?_ ?_
      rotate_left
      · intro w'
        go_simp
        with_reducible rfl
      rotate_left
      · simp only [Act.put, qS, qZ, qN, i64_w, i32_w]
        rfl
      refine pure_ (i := 4) (N := some 99) (v := ?_) (a' := ?_) #[true, true, true, false, true, false, false, false, false, false, false, false, false, false, false, false, false, false, false, false, false, false, false, false, false, false, false, false] rfl rfl cq3 (fun _ _ _ h => h) (Or.inl ⟨by rfl, ?_⟩) ?_ ?_
      rotate_left
      · intro w'
        go_simp
        with_reducible rfl
      rotate_left
      · simp only [Act.put, qS, qZ, qN, i64_w, i32_w]
        rfl
      refine pure_ (i := 5) (N := some 100) (v := ?_) (a' := ?_) #[true, true, true, false, true, true, false, false, false, false, false, false, false, false, false, false, false, false, false, false, false, false, false, false, false, false, false, false] rfl rfl cq3 (fun _ _ _ h => h) (Or.inl ⟨by rfl, ?_⟩) ?_ ?_
      rotate_left
      · intro w'
        go_simp
        with_reducible rfl
      rotate_left
      · simp only [Act.put, qS, qZ, qN, i64_w, i32_w]
        rfl
      refine pure_ (i := 6) (N := some 101) (v := ?_) (a' := ?_) #[true, true, true, false, true, true, true, false, false, false, false, false, false, false, false, false, false, false, false, false, false, false, false, false, false, false, false, false] rfl rfl cq3 (fun _ _ _ h => h) (Or.inl ⟨by rfl, ?_⟩) ?_ ?_
      rotate_left
      · intro w'
        go_simp
        with_reducible rfl
      rotate_left
      · simp only [Act.put, qS, qZ, qN, i64_w, i32_w]
        rfl
      refine pure_ (i := 8) (N := some 103) (v := ?_) (a' := ?_) #[true, true, true, false, true, true, true, false, true, false, false, false, false, false, false, false, false, false, false, false, false, false, false, false, false, false, false, false] rfl rfl cq3 (fun _ _ _ h => h) (Or.inl ⟨by rfl, ?_⟩) ?_ ?_
      rotate_left
      · intro w'
        go_simp
        with_reducible rfl
      rotate_left
      · simp only [Act.put, qS, qZ, qN, i64_w, i32_w]
        rfl
      refine pure_ (i := 9) (N := some 104) (v := ?_) (a' := ?_) #[true, true, true, false, true, true, true, false, true, true, false, false, false, false, false, false, false, false, false, false, false, false, false, false, false, false, false, false] rfl rfl cq3 (fun _ _ _ h => h) (Or.inl ⟨by rfl, ?_⟩) ?_ ?_
      rotate_left
      · intro w'
        go_simp
        with_reducible rfl
      rotate_left
      · simp only [Act.put, qS, qZ, qN, i64_w, i32_w]
        rfl
      refine pure_ (i := 10) (N := some 105) (v := ?_) (a' := ?_) #[true, true, true, false, true, true, true, false, true, true, true, false, false, false, false, false, false, false, false, false, false, false, false, false, false, false, false, false] rfl rfl cq3 (fun _ _ _ h => h) (Or.inl ⟨by rfl, ?_⟩) ?_ ?_
      rotate_left
      · intro w'
        go_simp
        with_reducible rfl
      rotate_left
      · simp only [Act.put, qS, qZ, qN, i64_w, i32_w]
        rfl
      refine pure_ (i := 12) (N := some 107) (v := ?_) (a' := ?_) #[true, true, true, false, true, true, true, false, true, true, true, false, true, false, false, false, false, false, false, false, false, false, false, false, false, false, false, false] rfl rfl cq3 (fun _ _ _ h => h) (Or.inl ⟨by rfl, ?_⟩) ?_ ?_
      rotate_left
      · intro w'
        go_simp
        with_reducible rfl
      rotate_left
      · simp only [Act.put, qS, qZ, qN, i64_w, i32_w]
        rfl
      refine pure_ (i := 13) (N := some 108) (v := ?_) (a' := ?_) #[true, true, true, false, true, true, true, false, true, true, true, false, true, true, false, false, false, false, false, false, false, false, false, false, false, false, false, false] rfl rfl cq3 (fun _ _ _ h => h) (Or.inl ⟨by rfl, ?_⟩) ?_ ?_
      rotate_left
      · intro w'
        go_simp
        with_reducible rfl
      rotate_left
      · simp only [Act.put, qS, qZ, qN, i64_w, i32_w]
        rfl
      refine pure_ (i := 14) (N := some 109) (v := ?_) (a' := ?_) #[true, true, true, false, true, true, true, false, true, true, true, false, true, true, true, false, false, false, false, false, false, false, false, false, false, false, false, false] rfl rfl cq3 (fun _ _ _ h => h) (Or.inl ⟨by rfl, ?_⟩) ?_ ?_
      rotate_left
      · intro w'
        go_simp
        with_reducible rfl
      rotate_left
      · simp only [Act.put, qS, qZ, qN, i64_w, i32_w]
        rfl
      refine pure_ (i := 18) (N := some 113) (v := ?_) (a' := ?_) #[true, true, true, false, true, true, true, false, true, true, true, false, true, true, true, false, false, false, true, false, false, false, false, false, false, false, false, false] rfl rfl cq3 (fun _ _ _ h => h) (Or.inl ⟨by rfl, ?_⟩) ?_ ?_
      rotate_left
      · intro w'
        go_simp
        with_reducible rfl
      rotate_left
      · simp only [Act.put, qS, qZ, qN, i64_w, i32_w]
        rfl
      refine pure_ (i := 19) (N := some 114) (v := ?_) (a' := ?_) #[true, true, true, false, true, true, true, false, true, true, true, false, true, true, true, false, false, false, true, true, false, false, false, false, false, false, false, false] rfl rfl cq3 (fun _ _ _ h => h) (Or.inl ⟨by rfl, ?_⟩) ?_ ?_
      rotate_left
      · intro w'
        go_simp
        with_reducible rfl
      rotate_left
      · simp only [Act.put, qS, qZ, qN, i64_w, i32_w]
        rfl
      refine pure_ (i := 20) (N := some 115) (v := ?_) (a' := ?_) #[true, true, true, false, true, true, true, false, true, true, true, false, true, true, true, false, false, false, true, true, true, false, false, false, false, false, false, false] rfl rfl cq3 (fun _ _ _ h => h) (Or.inl ⟨by rfl, ?_⟩) ?_ ?_
      rotate_left
      · intro w'
        go_simp
        with_reducible rfl
      rotate_left
      · simp only [Act.put, qS, qZ, qN, i64_w, i32_w]
        rfl
      refine pure_ (i := 22) (N := some 117) (v := ?_) (a' := ?_) #[true, true, true, false, true, true, true, false, true, true, true, false, true, true, true, false, false, false, true, true, true, false, true, false, false, false, false, false] rfl rfl cq3 (fun _ _ _ h => h) (Or.inl ⟨by rfl, ?_⟩) ?_ ?_
      rotate_left
      · intro w'
        go_simp
        with_reducible rfl
      rotate_left
      · simp only [Act.put, qS, qZ, qN, i64_w, i32_w]
        rfl
      refine take_ (i := 3) (N := some 98) (v := ?_) (a' := ?_) #[true, true, true, true, true, true, true, false, true, true, true, false, true, true, true, false, false, false, true, true, true, false, true, false, false, false, false, false] rfl rfl cq3 (fun _ _ _ h => h) (Or.inl ⟨by rfl, ?_⟩) hHeld ?_ ?_
      rotate_left
      · rintro w' ⟨s0, s1, s2, s3, s4⟩
        go_simp
        with_reducible rfl
      rotate_left
      · simp only [Act.put, qS, qZ, qN, i64_w, i32_w]
        rfl
      refine take_ (i := 7) (N := some 102) (v := ?_) (a' := ?_) #[true, true, true, true, true, true, true, true, true, true, true, false, true, true, true, false, false, false, true, true, true, false, true, false, false, false, false, false] rfl rfl cq3 (fun _ _ _ h => h) (Or.inl ⟨by rfl, ?_⟩) hHeld ?_ ?_
      rotate_left
      · rintro w' ⟨s0, s1, s2, s3, s4⟩
        go_simp
        with_reducible rfl
      rotate_left
      · simp only [Act.put, qS, qZ, qN, i64_w, i32_w]
        rfl
      refine take_ (i := 11) (N := some 106) (v := ?_) (a' := ?_) #[true, true, true, true, true, true, true, true, true, true, true, true, true, true, true, false, false, false, true, true, true, false, true, false, false, false, false, false] rfl rfl cq3 (fun _ _ _ h => h) (Or.inl ⟨by rfl, ?_⟩) hHeld ?_ ?_
      rotate_left
      · rintro w' ⟨s0, s1, s2, s3, s4⟩
        go_simp
        with_reducible rfl
      rotate_left
      · simp only [Act.put, qS, qZ, qN, i64_w, i32_w]
        rfl
      refine take_ (i := 15) (N := some 110) (v := ?_) (a' := ?_) #[true, true, true, true, true, true, true, true, true, true, true, true, true, true, true, true, false, false, true, true, true, false, true, false, false, false, false, false] rfl rfl cq3 (fun _ _ _ h => h) (Or.inl ⟨by rfl, ?_⟩) hHeld ?_ ?_
      rotate_left
      · rintro w' ⟨s0, s1, s2, s3, s4⟩
        go_simp
        with_reducible rfl
      rotate_left
      · simp only [Act.put, qS, qZ, qN, i64_w, i32_w]
        rfl
      refine pure_ (i := 16) (N := some 111) (v := ?_) (a' := ?_) #[true, true, true, true, true, true, true, true, true, true, true, true, true, true, true, true, true, false, true, true, true, false, true, false, false, false, false, false] rfl rfl cq3 (fun _ _ _ h => h) (Or.inl ⟨by rfl, ?_⟩) ?_ ?_
      rotate_left
      · intro w'
        go_simp
        with_reducible rfl
      rotate_left
      · simp only [Act.put, qS, qZ, qN, i64_w, i32_w]
        rfl
      refine take_ (i := 17) (N := some 112) (v := ?_) (a' := ?_) #[true, true, true, true, true, true, true, true, true, true, true, true, true, true, true, true, true, true, true, true, true, false, true, false, false, false, false, false] rfl rfl cq3 (fun _ _ _ h => h) (Or.inl ⟨by rfl, ?_⟩) hHeld ?_ ?_
      rotate_left
      · rintro w' ⟨s0, s1, s2, s3, s4⟩
        go_simp
        with_reducible rfl
      rotate_left
      · simp only [Act.put, qS, qZ, qN, i64_w, i32_w]
        rfl
      refine take_ (i := 21) (N := some 116) (v := ?_) (a' := ?_) #[true, true, true, true, true, true, true, true, true, true, true, true, true, true, true, true, true, true, true, true, true, true, true, false, false, false, false, false] rfl rfl cq3 (fun _ _ _ h => h) (Or.inl ⟨by rfl, ?_⟩) hHeld ?_ ?_
      rotate_left
      · rintro w' ⟨s0, s1, s2, s3, s4⟩
        go_simp
        with_reducible rfl
      rotate_left
      · simp only [Act.put, qS, qZ, qN, i64_w, i32_w]
        rfl
      refine pure_ (i := 23) (N := some 118) (v := ?_) (a' := ?_) #[true, true, true, true, true, true, true, true, true, true, true, true, true, true, true, true, true, true, true, true, true, true, true, true, false, false, false, false] rfl rfl cq3 (fun _ _ _ h => h) (Or.inl ⟨by rfl, ?_⟩) ?_ ?_
      rotate_left
      · intro w'
        go_simp
        with_reducible rfl
      rotate_left
      · simp only [Act.put, qS, qZ, qN, i64_w, i32_w]
        rfl
      refine take_ (i := 24) (N := some 119) (v := ?_) (a' := ?_) #[true, true, true, true, true, true, true, true, true, true, true, true, true, true, true, true, true, true, true, true, true, true, true, true, true, false, false, false] rfl rfl cq3 (fun _ _ _ h => h) (Or.inl ⟨by rfl, ?_⟩) hHeld ?_ ?_
      rotate_left
      · rintro w' ⟨s0, s1, s2, s3, s4⟩
        go_simp
        with_reducible rfl
      rotate_left
      · simp only [Act.put, qS, qZ, qN, i64_w, i32_w]
        rfl
      refine pure_ (i := 25) (N := some 120) (v := ?_) (a' := ?_) #[true, true, true, true, true, true, true, true, true, true, true, true, true, true, true, true, true, true, true, true, true, true, true, true, true, true, false, false] rfl rfl cq3 (fun _ _ _ h => h) (Or.inl ⟨by rfl, ?_⟩) ?_ ?_
      rotate_left
      · intro w'
        go_simp
        with_reducible rfl
      rotate_left
      · simp only [Act.put, qS, qZ, qN, i64_w, i32_w]
        rfl
      refine pure_ (i := 26) (N := some 121) (v := ?_) (a' := ?_) #[true, true, true, true, true, true, true, true, true, true, true, true, true, true, true, true, true, true, true, true, true, true, true, true, true, true, true, false] rfl rfl cq3 (fun _ _ _ h => h) (Or.inl ⟨by rfl, ?_⟩) ?_ ?_
      rotate_left
      · intro w'
        go_simp
        with_reducible rfl
      rotate_left
      · simp only [Act.put, qS, qZ, qN, i64_w, i32_w]
        rfl
      refine last_ (i := 27) (N := none) #[true, true, true, true, true, true, true, true, true, true, true, true, true, true, true, true, true, true, true, true, true, true, true, true, true, true, true, true] rfl rfl cq3 cq6 (fun K hK => ?_)
      refine skip_ (w1 := ?_) cq60 rfl ?_ ?_
      rotate_left
      · go_simp
        rfl
      refine hK.out _ _ ?_
      clear hK K
      refine done_ cq3 ?_


      simp only [Exit.inBlock, Exit.then]
      refine HQ.out _ _ ⟨rfl, rfl, rfl, rfl, rfl⟩ rv (.slice (some ⟨gy, 0, none⟩) (r.length + 1) cy) pv ps ?_
      rw [HRD.out, if_neg hm, if_pos ho, show (if st.wh t < st.lo v then ((st.wh t : Nat) : Int) else ((st.lo v : Nat) : Int)) = ((min (st.lo v) (st.wh t) : Nat) : Int) by split <;> omega]
      have := (H2.out.setL v (min (st.lo v) (st.wh t))).drew
      rw [E2.out] at this
      exact this
    · go_wp2
      refine HQ.out _ _ ⟨rfl, rfl, rfl, rfl, rfl⟩ rv (.slice (some ⟨gy, 0, none⟩) (r.length + 1) cy) pv ps ?_
      rw [HRD.out, if_neg hm, if_neg ho]
      have := H2.out
      rw [E2.out] at this
      exact this
theorem from_b2 (nx : Nat → List Nat) (w0 w1 w : World) (p : Pl) (i : Nat) (R : T) (vals : List Value) (q : Nat) (X : NX p nx w1 vals) (hnx : ∀ v, ∀ x ∈ nx v, x < p.N) (hnl : ∀ v, (nx v).length ≤ 5864062014805) (hN : p.N ≤ 5864062014805) (PP : Ending → World → Prop) (K : Act → World → Prop) (hQ : ∀ a' w', FA p i a' → (∃ q', q' < q ∧ FS w0 w1 p nx R q' w') → K a' w') (st : T) (rv pv : Value) (ps : List Value) (gy cy v k : Nat) (r : List (Nat × Nat)) (HW : Ws w0 w1 p w (mm st rv (.slice (some ⟨gy, 0, none⟩) (r.length + 1) cy) pv ps)) (HI : Inv nx p.N st) (HB : Bd p.N st) (HT : total nx p.N st ≤ q) (HF : finP cmpN nx p.N st = R) (hwy : st.way = (v, k) :: r) (uu : Nat → Value) :
    Code.wp Tryz.prog frB (Exit.inBlock 1 (Exit.then K (Exit.inBlock 0 (bodyPost Tryz.prog Tryz.f28 PP)))) ({ tmps := ((.pointer (some ⟨p.g, 0, none⟩) : Value) :: (.int .i64 (i : Nat) : Value) :: (.pointer (some ⟨p.bn, 0, none⟩) : Value) :: uu 3 :: uu 4 :: uu 5 :: uu 6 :: uu 7 :: uu 8 :: uu 9 :: uu 10 :: uu 11 :: uu 12 :: uu 13 :: uu 14 :: uu 15 :: uu 16 :: uu 17 :: uu 18 :: uu 19 :: uu 20 :: uu 21 :: uu 22 :: uu 23 :: uu 24 :: uu 25 :: uu 26 :: uu 27 :: uu 28 :: uu 29 :: uu 30 :: uu 31 :: uu 32 :: uu 33 :: uu 34 :: uu 35 :: uu 36 :: uu 37 :: uu 38 :: uu 39 :: uu 40 :: uu 41 :: uu 42 :: uu 43 :: uu 44 :: uu 45 :: uu 46 :: uu 47 :: uu 48 :: uu 49 :: uu 50 :: uu 51 :: uu 52 :: uu 53 :: uu 54 :: uu 55 :: uu 56 :: uu 57 :: uu 58 :: uu 59 :: uu 60 :: uu 61 :: uu 62 :: uu 63 :: uu 64 :: uu 65 :: uu 66 :: uu 67 :: uu 68 :: uu 69 :: uu 70 :: uu 71 :: uu 72 :: uu 73 :: uu 74 :: uu 75 :: uu 76 :: uu 77 :: uu 78 :: uu 79 :: uu 80 :: uu 81 :: uu 82 :: uu 83 :: uu 84 :: uu 85 :: uu 86 :: uu 87 :: uu 88 :: uu 89 :: uu 90 :: uu 91 :: uu 92 :: uu 93 :: uu 94 :: uu 95 :: uu 96 :: uu 97 :: uu 98 :: uu 99 :: uu 100 :: uu 101 :: uu 102 :: uu 103 :: uu 104 :: uu 105 :: uu 106 :: uu 107 :: uu 108 :: uu 109 :: uu 110 :: uu 111 :: uu 112 :: uu 113 :: uu 114 :: uu 115 :: uu 116 :: uu 117 :: uu 118 :: uu 119 :: uu 120 :: uu 121 :: []).toArray, defers := [] } : Act) w := by
  have hvr : v ∈ st.row := HI.gr ⟨k, by rw [hwy]; exact List.mem_cons_self⟩
  have hvN : v < p.N := Inv.row_lt HI hvr
  have hkl : k ≤ (nx v).length := (HI.wr (v, k) (by rw [hwy]; exact List.mem_cons_self)).2
  obtain ⟨gn, cn, A, c, env, hcn, xr, hks⟩ := nx_cells HW X hvN
  obtain ⟨xv, xk, hfy⟩ := way_cells (m := mm st rv (.slice (some ⟨gy, 0, none⟩) (r.length + 1) cy) pv ps) HW hwy rfl
  have x0 : w.cell? ⟨p.g, 0, none⟩ = some (.slice (some ⟨gn, 0, none⟩) p.N cn) := by rw [← env]; exact HW.c0
  have x5 : w.cell? ⟨p.g, 5, none⟩ = some (.slice (some ⟨gy, 0, none⟩) (r.length + 1) cy) := HW.c5
  obtain ⟨e1, hwr, p1, pos, q1⟩ := fr_len HB hN hwy
  obtain ⟨pv1, qv1⟩ := ilt hvN
  have HWA := qA HW
  have L5 := qA (fun (W : World) (hW : Ws w0 w1 p W (mm st rv (.slice (some ⟨gy, 0, none⟩) (r.length + 1) cy) pv ps)) (hk : k < (nx v).length) (uu : Nat → Value) => from_b5 nx w0 w1 W p i R vals q X hnx hnl hN PP K hQ st rv pv ps gy cy v k r hW HI HB HT HF hwy hk uu)
  have LV := qA (fun (W : World) (hW : Ws w0 w1 p W (mm st rv (.slice (some ⟨gy, 0, none⟩) (r.length + 1) cy) pv ps)) => leave_calls nx w0 w1 W p st rv (.slice (some ⟨gy, 0, none⟩) (r.length + 1) cy) pv ps v k r hW HI hwy hN HB)
  have HRD := qA (show k = (nx v).length → roundP cmpN nx st = leaveP cmpN v st from fun e => by
    unfold roundP
    rw [hwy]
    exact if_pos e)
  have HQ := qA (fun a' w' (ha : FA p i a') rv' wv' pv' ps' (h : Ws w0 w1 p w' (mm (roundP cmpN nx st) rv' wv' pv' ps')) => hQ a' w' ha (fs_round hnx (by rw [hwy]; simp) HI HB HT HF h))
  have HKL := qA hkl
  clear X hnx hnl hQ HI HB HT HF hwy hvr hks env hfy HW hkl
  obtain ⟨code, hcode⟩ : ∃ code, frB = code := ⟨_, rfl⟩
  rw [hcode]
  unfold frB frLoop Tryz.f28 at hcode
  dsimp only [bodyC, sndC, inC, Option.getD] at hcode
  subst hcode
  go_wp2
  refine start_ (n := 12) (S := fun w' => w'.cell? ⟨p.g, 5, none⟩ = some (.slice (some ⟨gy, 0, none⟩) (r.length + 1) cy)) (ds := []) #[false, false, false, false, false, false, false, false, false, false, false, false] cq3 rfl rfl ((pw_cell_below (below_drew (Below.refl _ _)) x5)) (fun hHeld => ?_)
  refine pure_ (i := 0) (N := some 18) (v := ?_) (a' := ?_) #[true, false, false, false, false, false, false, false, false, false, false, false] rfl rfl cq3 (fun _ _ _ h => h) (Or.inl ⟨by rfl, ?_⟩) ?_ ?_
  rotate_left
  · intro w'
    go_simp
    with_reducible rfl
  rotate_left
  · simp only [Act.put, qS, qZ, qN, i64_w, i32_w]
    rfl
  refine pure_ (i := 1) (N := some 19) (v := ?_) (a' := ?_) #[true, true, false, false, false, false, false, false, false, false, false, false] rfl rfl cq3 (fun _ _ _ h => h) (Or.inl ⟨by rfl, ?_⟩) ?_ ?_
  rotate_left
  · intro w'
    go_simp
    with_reducible rfl
  rotate_left
  · simp only [Act.put, qS, qZ, qN, i64_w, i32_w]
    rfl
  refine pure_ (i := 2) (N := some 20) (v := ?_) (a' := ?_) #[true, true, true, false, false, false, false, false, false, false, false, false] rfl rfl cq3 (fun _ _ _ h => h) (Or.inl ⟨by rfl, ?_⟩) ?_ ?_
  rotate_left
  · intro w'
    go_simp
    with_reducible rfl
  rotate_left
  · simp only [Act.put, qS, qZ, qN, i64_w, i32_w]
    rfl
  refine pure_ (i := 4) (N := some 22) (v := ?_) (a' := ?_) #[true, true, true, false, true, false, false, false, false, false, false, false] rfl rfl cq3 (fun _ _ _ h => h) (Or.inl ⟨by rfl, ?_⟩) ?_ ?_
  rotate_left
  · intro w'
    go_simp
    with_reducible rfl
  rotate_left
  · simp only [Act.put, qS, qZ, qN, i64_w, i32_w]
    rfl
  refine pure_ (i := 5) (N := some 23) (v := ?_) (a' := ?_) #[true, true, true, false, true, true, false, false, false, false, false, false] rfl rfl cq3 (fun _ _ _ h => h) (Or.inl ⟨by rfl, ?_⟩) ?_ ?_
  rotate_left
  · intro w'
    go_simp
    with_reducible rfl
  rotate_left
  · simp only [Act.put, qS, qZ, qN, i64_w, i32_w]
    rfl
  refine pure_ (i := 6) (N := some 24) (v := ?_) (a' := ?_) #[true, true, true, false, true, true, true, false, false, false, false, false] rfl rfl cq3 (fun _ _ _ h => h) (Or.inl ⟨by rfl, ?_⟩) ?_ ?_
  rotate_left
  · intro w'
    go_simp
    with_reducible rfl
  rotate_left
  · simp only [Act.put, qS, qZ, qN, i64_w, i32_w]
    rfl
  refine take_ (i := 3) (N := some 21) (v := ?_) (a' := ?_) #[true, true, true, true, true, true, true, false, false, false, false, false] rfl rfl cq3 (fun _ _ _ h => h) (Or.inl ⟨by rfl, ?_⟩) hHeld ?_ ?_
  rotate_left
  · intro w' s0
    go_simp
    with_reducible rfl
  rotate_left
  · simp only [Act.put, qS, qZ, qN, i64_w, i32_w]
    rfl
  refine take_ (i := 7) (N := some 25) (v := ?_) (a' := ?_) #[true, true, true, true, true, true, true, true, false, false, false, false] rfl rfl cq3 (fun _ _ _ h => h) (Or.inl ⟨by rfl, ?_⟩) hHeld ?_ ?_
  rotate_left
  · intro w' s0
    go_simp
    with_reducible rfl
  rotate_left
  · simp only [Act.put, qS, qZ, qN, i64_w, i32_w]
    rfl
  refine pure_ (i := 8) (N := some 26) (v := ?_) (a' := ?_) #[true, true, true, true, true, true, true, true, true, false, false, false] rfl rfl cq3 (fun _ _ _ h => h) (Or.inl ⟨by rfl, ?_⟩) ?_ ?_
  rotate_left
  · intro w'
    go_simp
    with_reducible rfl
  rotate_left
  · simp only [Act.put, qS, qZ, qN, i64_w, i32_w]
    rfl
  refine pure_ (i := 9) (N := some 27) (v := ?_) (a' := ?_) #[true, true, true, true, true, true, true, true, true, true, false, false] rfl rfl cq3 (fun _ _ _ h => h) (Or.inl ⟨by rfl, ?_⟩) ?_ ?_
  rotate_left
  · intro w'
    go_simp
    with_reducible rfl
  rotate_left
  · simp only [Act.put, qS, qZ, qN, i64_w, i32_w]
    rfl
  refine pure_ (i := 10) (N := some 28) (v := ?_) (a' := ?_) #[true, true, true, true, true, true, true, true, true, true, true, false] rfl rfl cq3 (fun _ _ _ h => h) (Or.inl ⟨by rfl, ?_⟩) ?_ ?_
  rotate_left
  · intro w'
    go_simp
    with_reducible rfl
  rotate_left
  · simp only [Act.put, qS, qZ, qN, i64_w, i32_w]
    rfl
  refine pure_ (i := 11) (N := some 6) (v := ?_) (a' := ?_) #[true, true, true, true, true, true, true, true, true, true, true, true] rfl rfl cq3 (fun _ _ _ h => h) (Or.inl ⟨by rfl, ?_⟩) ?_ ?_
  rotate_left
  · intro w'
    go_simp
    with_reducible rfl
  rotate_left
  · simp only [Act.put, qS, qZ, qN, i64_w, i32_w]
    rfl
  refine done_ cq3 ?_


  clear hHeld x5 e1 hwr p1 pos q1
  have y0 : w.drew.cell? ⟨p.g, 0, none⟩ = some (.slice (some ⟨gn, 0, none⟩) p.N cn) := x0
  obtain ⟨wd, ewd⟩ : ∃ wd, wd = w.drew := ⟨_, rfl⟩
  have HD := qA (show Ws w0 w1 p wd (mm st rv (.slice (some ⟨gy, 0, none⟩) (r.length + 1) cy) pv ps) by rw [ewd]; exact HWA.out.drew)
  replace x0 : wd.cell? ⟨p.g, 0, none⟩ = some (.slice (some ⟨gn, 0, none⟩) p.N cn) := by rw [ewd]; exact x0
  replace xv : wd.cell? ⟨gy, r.length * 2, none⟩ = some (.int .i64 (v : Nat)) := by rw [ewd]; exact xv
  replace xk : wd.cell? ⟨gy, r.length * 2 + 1, none⟩ = some (.int .i64 (k : Nat)) := by rw [ewd]; exact xk
  replace xr : wd.cell? ⟨gn, v, none⟩ = some (.slice A (nx v).length c) := by rw [ewd]; exact xr
  rw [← ewd]
  clear ewd y0
  (try simp only [Exit.then])
  rename_i K1 a1
  refine a1 _ _ ?_
  refine wp_seq_k (fun K2 hK2 => ?_)
  have HK2 := qA hK2
  clear hK2 a1 K1
  go_wp2
  refine start_ (n := 16) (S := fun w' => w'.cell? ⟨p.g, 0, none⟩ = some (.slice (some ⟨gn, 0, none⟩) p.N cn) ∧ w'.cell? ⟨gy, r.length * 2, none⟩ = some (.int .i64 (v : Nat)) ∧ w'.cell? ⟨gy, r.length * 2 + 1, none⟩ = some (.int .i64 (k : Nat)) ∧ w'.cell? ⟨gn, v, none⟩ = some (.slice A (nx v).length c)) (ds := []) #[false, false, false, false, false, false, false, false, false, false, false, false, false, false, false, false] cq3 rfl rfl ⟨(pw_cell_below (below_drew (Below.refl _ _)) x0), (pw_cell_below (below_drew (Below.refl _ _)) xv), (pw_cell_below (below_drew (Below.refl _ _)) xk), (pw_cell_below (below_drew (Below.refl _ _)) xr)⟩ (fun hHeld => ?_)
  refine pure_ (i := 0) (N := some 29) (v := ?_) (a' := ?_) #[true, false, false, false, false, false, false, false, false, false, false, false, false, false, false, false] rfl rfl cq3 (fun _ _ _ h => h) (Or.inl ⟨by rfl, ?_⟩) ?_ ?_
  rotate_left
  · intro w'
    go_simp
    with_reducible rfl
  rotate_left
  · simp only [Act.put, qS, qZ, qN, i64_w, i32_w]
    rfl
  refine pure_ (i := 1) (N := some 30) (v := ?_) (a' := ?_) #[true, true, false, false, false, false, false, false, false, false, false, false, false, false, false, false] rfl rfl cq3 (fun _ _ _ h => h) (Or.inl ⟨by rfl, ?_⟩) ?_ ?_
  rotate_left
  · intro w'
    go_simp
    with_reducible rfl
  rotate_left
  · simp only [Act.put, qS, qZ, qN, i64_w, i32_w]
    rfl
  refine pure_ (i := 2) (N := some 31) (v := ?_) (a' := ?_) #[true, true, true, false, false, false, false, false, false, false, false, false, false, false, false, false] rfl rfl cq3 (fun _ _ _ h => h) (Or.inl ⟨by rfl, ?_⟩) ?_ ?_
  rotate_left
  · intro w'
    go_simp
    with_reducible rfl
  rotate_left
  · simp only [Act.put, qS, qZ, qN, i64_w, i32_w]
    rfl
  refine pure_ (i := 4) (N := some 33) (v := ?_) (a' := ?_) #[true, true, true, false, true, false, false, false, false, false, false, false, false, false, false, false] rfl rfl cq3 (fun _ _ _ h => h) (Or.inl ⟨by rfl, ?_⟩) ?_ ?_
  rotate_left
  · intro w'
    go_simp
    with_reducible rfl
  rotate_left
  · simp only [Act.put, qS, qZ, qN, i64_w, i32_w]
    rfl
  refine pure_ (i := 5) (N := some 34) (v := ?_) (a' := ?_) #[true, true, true, false, true, true, false, false, false, false, false, false, false, false, false, false] rfl rfl cq3 (fun _ _ _ h => h) (Or.inl ⟨by rfl, ?_⟩) ?_ ?_
  rotate_left
  · intro w'
    go_simp
    with_reducible rfl
  rotate_left
  · simp only [Act.put, qS, qZ, qN, i64_w, i32_w]
    rfl
  refine pure_ (i := 6) (N := some 35) (v := ?_) (a' := ?_) #[true, true, true, false, true, true, true, false, false, false, false, false, false, false, false, false] rfl rfl cq3 (fun _ _ _ h => h) (Or.inl ⟨by rfl, ?_⟩) ?_ ?_
  rotate_left
  · intro w'
    go_simp
    with_reducible rfl
  rotate_left
  · simp only [Act.put, qS, qZ, qN, i64_w, i32_w]
    rfl
  refine pure_ (i := 8) (N := some 37) (v := ?_) (a' := ?_) #[true, true, true, false, true, true, true, false, true, false, false, false, false, false, false, false] rfl rfl cq3 (fun _ _ _ h => h) (Or.inl ⟨by rfl, ?_⟩) ?_ ?_
  rotate_left
  · intro w'
    go_simp
    with_reducible rfl
  rotate_left
  · simp only [Act.put, qS, qZ, qN, i64_w, i32_w]
    rfl
  refine pure_ (i := 9) (N := some 38) (v := ?_) (a' := ?_) #[true, true, true, false, true, true, true, false, true, true, false, false, false, false, false, false] rfl rfl cq3 (fun _ _ _ h => h) (Or.inl ⟨by rfl, ?_⟩) ?_ ?_
  rotate_left
  · intro w'
    go_simp
    with_reducible rfl
  rotate_left
  · simp only [Act.put, qS, qZ, qN, i64_w, i32_w]
    rfl
  refine pure_ (i := 10) (N := some 39) (v := ?_) (a' := ?_) #[true, true, true, false, true, true, true, false, true, true, true, false, false, false, false, false] rfl rfl cq3 (fun _ _ _ h => h) (Or.inl ⟨by rfl, ?_⟩) ?_ ?_
  rotate_left
  · intro w'
    go_simp
    with_reducible rfl
  rotate_left
  · simp only [Act.put, qS, qZ, qN, i64_w, i32_w]
    rfl
  refine take_ (i := 3) (N := some 32) (v := ?_) (a' := ?_) #[true, true, true, true, true, true, true, false, true, true, true, false, false, false, false, false] rfl rfl cq3 (fun _ _ _ h => h) (Or.inl ⟨by rfl, ?_⟩) hHeld ?_ ?_
  rotate_left
  · rintro w' ⟨s0, s1, s2, s3⟩
    go_simp
    with_reducible rfl
  rotate_left
  · simp only [Act.put, qS, qZ, qN, i64_w, i32_w]
    rfl
  refine take_ (i := 7) (N := some 36) (v := ?_) (a' := ?_) #[true, true, true, true, true, true, true, true, true, true, true, false, false, false, false, false] rfl rfl cq3 (fun _ _ _ h => h) (Or.inl ⟨by rfl, ?_⟩) hHeld ?_ ?_
  rotate_left
  · rintro w' ⟨s0, s1, s2, s3⟩
    go_simp
    with_reducible rfl
  rotate_left
  · simp only [Act.put, qS, qZ, qN, i64_w, i32_w]
    rfl
  refine take_ (i := 11) (N := some 40) (v := ?_) (a' := ?_) #[true, true, true, true, true, true, true, true, true, true, true, true, false, false, false, false] rfl rfl cq3 (fun _ _ _ h => h) (Or.inl ⟨by rfl, ?_⟩) hHeld ?_ ?_
  rotate_left
  · rintro w' ⟨s0, s1, s2, s3⟩
    go_simp
    with_reducible rfl
  rotate_left
  · simp only [Act.put, qS, qZ, qN, i64_w, i32_w]
    rfl
  refine pure_ (i := 12) (N := some 41) (v := ?_) (a' := ?_) #[true, true, true, true, true, true, true, true, true, true, true, true, true, false, false, false] rfl rfl cq3 (fun _ _ _ h => h) (Or.inl ⟨by rfl, ?_⟩) ?_ ?_
  rotate_left
  · intro w'
    go_simp
    with_reducible rfl
  rotate_left
  · simp only [Act.put, qS, qZ, qN, i64_w, i32_w]
    rfl
  refine take_ (i := 13) (N := some 42) (v := ?_) (a' := ?_) #[true, true, true, true, true, true, true, true, true, true, true, true, true, true, false, false] rfl rfl cq3 (fun _ _ _ h => h) (Or.inl ⟨by rfl, ?_⟩) hHeld ?_ ?_
  rotate_left
  · rintro w' ⟨s0, s1, s2, s3⟩
    go_simp
    with_reducible rfl
  rotate_left
  · simp only [Act.put, qS, qZ, qN, i64_w, i32_w]
    rfl
  refine pure_ (i := 14) (N := some 43) (v := ?_) (a' := ?_) #[true, true, true, true, true, true, true, true, true, true, true, true, true, true, true, false] rfl rfl cq3 (fun _ _ _ h => h) (Or.inl ⟨by rfl, ?_⟩) ?_ ?_
  rotate_left
  · intro w'
    go_simp
    with_reducible rfl
  rotate_left
  · simp only [Act.put, qS, qZ, qN, i64_w, i32_w]
    rfl
  refine pure_ (i := 15) (N := some 44) (v := ?_) (a' := ?_) #[true, true, true, true, true, true, true, true, true, true, true, true, true, true, true, true] rfl rfl cq3 (fun _ _ _ h => h) (Or.inl ⟨by rfl, ?_⟩) ?_ ?_
  rotate_left
  · intro w'
    go_simp
    with_reducible rfl
  rotate_left
  · simp only [Act.put, qS, qZ, qN, i64_w, i32_w]
    rfl
  refine done_ cq3 ?_


  clear hHeld
  obtain ⟨wz, ewz⟩ : ∃ wz, wz = wd.drew := ⟨_, rfl⟩
  have HZ := qA (show Ws w0 w1 p wz (mm st rv (.slice (some ⟨gy, 0, none⟩) (r.length + 1) cy) pv ps) by rw [ewz]; exact HD.out.drew)
  replace xv : wz.cell? ⟨gy, r.length * 2, none⟩ = some (.int .i64 (v : Nat)) := by rw [ewz]; exact xv
  rw [← ewz]
  clear ewz x0 xk xr
  by_cases hk : k = (nx v).length
  · have hk' : ((k : Nat) : Int) = (((nx v).length : Nat) : Int) := by rw [hk]
    have LV1 := qA (LV.out wz HZ.out)
    have HR := qA (HRD.out hk)
    obtain ⟨L, hL⟩ : ∃ L, L = (nx v).length := ⟨_, rfl⟩
    rw [← hL] at hk hk' ⊢
    clear hL hk'
    subst hk
    go_wp2_with (go_at_call 50; refine LV1.out.mono ?_; rintro e w3 ⟨rfl, rv3, wv3, pv3, ps3, h3⟩; have H3 := qA h3; clear h3)
    (try simp only [Exit.inBlock, Exit.then])
    refine HQ.out _ _ ⟨rfl, rfl, rfl, rfl, rfl⟩ rv3 wv3 pv3 ps3 ?_
    rw [HR.out]
    exact H3.out
  · have hkL := qA (show k < (nx v).length by have := HKL.out; omega)
    have hk' : ¬ ((k : Nat) : Int) = (((nx v).length : Nat) : Int) := fun e => hk (by exact_mod_cast e)
    go_wp2
    (try simp only [Exit.inBlock, Exit.then])
    refine HK2.out _ _ ?_
    exact wp_fb ⟨rfl, rfl, rfl, rfl, rfl, rfl⟩ (fun uu => L5.out wz HZ.out hkL.out uu)
theorem from_round (nx : Nat → List Nat) (w0 w1 w : World) (p : Pl) (i : Nat) (R : T) (vals : List Value) (q : Nat) (X : NX p nx w1 vals) (hnx : ∀ v, ∀ x ∈ nx v, x < p.N) (hnl : ∀ v, (nx v).length ≤ 5864062014805) (hN : p.N ≤ 5864062014805) (PP : Ending → World → Prop) (K : Act → World → Prop) (hQ : ∀ a' w', FA p i a' → (∃ q', q' < q ∧ FS w0 w1 p nx R q' w') → K a' w') (hE : ∀ w', (∃ rv' wv' pv' ps', Ws w0 w1 p w' (mm R rv' wv' pv' ps')) → PP (.returned (.tuple #[])) w') (a : Act) (ha : FA p i a) (hS : FS w0 w1 p nx R q w) :
    Code.wp Tryz.prog frLoop (Exit.then K (Exit.inBlock 0 (bodyPost Tryz.prog Tryz.f28 PP))) a w := by
  obtain ⟨st, rv, wv, pv, ps, HW, HI, HB, HT, HF⟩ := hS
  obtain ⟨uu, rfl⟩ := fa_open p i a ha
  obtain ⟨code, hcode⟩ : ∃ code, frLoop = code := ⟨_, rfl⟩
  rw [hcode]
  unfold frLoop Tryz.f28 at hcode
  dsimp only [bodyC, sndC, inC, Option.getD] at hcode
  subst hcode
  refine wp_seq_k (fun K2 hK2 => ?_)
  have HK2 := qA hK2
  clear hK2
  rcases hwy : st.way with _ | ⟨⟨v, k⟩, r⟩
  case' nil =>
    obtain ⟨A, c, ewv⟩ := own_slice HW.wy
    have ewv : wv = .slice A 0 c := by have e : wv = .slice A st.way.length c := ewv
                                       rw [hwy] at e; exact e
    subst ewv
    have x5 : w.cell? ⟨p.g, 5, none⟩ = some (.slice A 0 c) := HW.c5
    have HFE : st = R := by have := HF; rw [fin_end hwy] at this; exact this
    have HE := qA (hE w ⟨rv, .slice A 0 c, pv, ps, by rw [← HFE]; exact HW⟩)
    clear hwy HFE HF HT HB HI HW hE hQ X hnx hnl HK2
    go_wp2
    (try simp only [Exit.inBlock, Exit.then])
    first | go_end0 | ((try simp only [Exit.inBlock, Exit.then]); refine bodyPost_ret (results_none rfl _ _ _) rfl ?_)
    exact HE.out
  case' cons =>
    obtain ⟨gy, cy, ewv, hgy, hgl, hcy⟩ := own_form HW.wy (show 0 < (mm st rv wv pv ps).way.length by show 0 < st.way.length; rw [hwy]; simp)
    have ewv : wv = .slice (some ⟨gy, 0, none⟩) (r.length + 1) cy := by have e : wv = .slice (some ⟨gy, 0, none⟩) st.way.length cy := ewv
                                                                        rw [hwy] at e; exact e
    subst ewv
    have x5 : w.cell? ⟨p.g, 5, none⟩ = some (.slice (some ⟨gy, 0, none⟩) (r.length + 1) cy) := HW.c5
    obtain ⟨e1, hwr, p1, pos, q1⟩ := fr_len HB hN hwy
    have L2 := qA (fun (uu : Nat → Value) => from_b2 nx w0 w1 w p i R vals q X hnx hnl hN PP K hQ st rv pv ps gy cy v k r HW HI HB HT HF hwy uu)
    clear hwy HF HT HB HI HW hE hQ X hnx hnl hgy hgl hcy hwr q1 ewv
    go_wp2
    (try simp only [Exit.then])
    refine HK2.out _ _ ?_
    refine wp_block ?_
    exact wp_fa ⟨rfl, rfl, rfl, rfl, rfl⟩ L2.out
theorem from_calls (nx : Nat → List Nat) (w0 w1 w : World) (p : Pl) (s : T) (rv wv pv : Value) (ps vals : List Value) (i : Nat) (h : Ws w0 w1 p w (mm s rv wv pv ps)) (X : NX p nx w1 vals) (I : Inv nx p.N s) (hway : s.way = []) (hb : Bd p.N s) (hi : i < p.N) (hm : s.wh i = 0) (hnx : ∀ v, ∀ x ∈ nx v, x < p.N) (hnl : ∀ v, (nx v).length ≤ 5864062014805) (hN : p.N ≤ 5864062014805) :
    Calls Tryz.prog 28 #[.pointer (some ⟨p.g, 0, none⟩), .int .i64 (i : Nat), .pointer (some ⟨p.bn, 0, none⟩)] w fun e w' => e = .returned (.tuple #[]) ∧ ∃ rv' wv' pv' ps', Ws w0 w1 p w' (mm (fromP cmpN nx p.N i s) rv' wv' pv' ps') := by
  have hbl := hb.lt hi hm
  have M := qA (meet_calls w0 w1 w p s rv wv pv ps i h hi hN hbl (by have := hb.r; omega) (by have := hb.w; omega))
  have I0 := start_inv I hway (row_nil I hway) hi hm
  have B0 := hb.meet hi hm
  obtain ⟨R, hR⟩ : ∃ R, R = finP cmpN nx p.N (meetP i s) := ⟨_, rfl⟩
  have FR := qA (show fromP cmpN nx p.N i s = R by rw [fin_from i hm, hR])
  have L := qA (fun (PP : Ending → World → Prop) hE (q : Nat) (a : Act) (w' : World) (hI : FA p i a ∧ FS w0 w1 p nx R q w') => from_round nx w0 w1 w' p i R vals q X hnx hnl hN PP (fun a' w' => ∃ q', q' < q ∧ FA p i a' ∧ FS w0 w1 p nx R q' w') (fun a' w' ha hs => by obtain ⟨q', h1, h2⟩ := hs; exact ⟨q', h1, ha, h2⟩) hE a hI.1 hI.2)
  have S0 := qA (fun (w' : World) (rv wv : Value) (h : Ws w0 w1 p w' (mm (meetP i s) rv wv pv ps)) => (⟨meetP i s, rv, wv, pv, ps, h, I0, B0, Nat.le_refl _, hR.symm⟩ : FS w0 w1 p nx R (total nx p.N (meetP i s)) w'))
  clear X I hb hnx hR h hway hm hbl hnl I0 B0
  go_enter Tryz.func28, Tryz.ntmps28
  go_wp2_with (go_at_call 49; refine M.out.mono ?_; rintro e w2 ⟨rfl, rv2, wv2, h2⟩; have H2 := qA (S0.out w2 rv2 wv2 h2); clear h2)
  clear M S0
  refine wp_loop_ghost (fun q a w' => FA p i a ∧ FS w0 w1 p nx R q w') (total nx p.N (meetP i s)) ⟨⟨rfl, rfl, rfl, rfl, rfl⟩, H2.out⟩ (fun q a w' hI => ?_)
  exact L.out _ (fun w' hw => ⟨rfl, by rw [FR.out]; exact hw⟩) q a w' hI
end Go.Proofs.YtligpleningglaaGreat.Cw
namespace Go.Proofs.YtligpleningglaaGreat.Cw
open Go Go.RowKit Go.Proofs.YtligpleningglaaGreat.Tarjan Go.Proofs.YtligpleningglaaGreatW.PrintWords Go.Proofs.YtligpleningglaaGreatW.PrintLast Go.Proofs.YtligpleningglaaGreatW.PrintMore Go.Proofs.YtligpleningglaaGreat.F
theorem R_ints {w : World} {B : Nat} {v : Value} {xs : List Int} (h : w.ownsRow B 3 1 v xs.length (xs.map (Value.int .i64))) : Kd.R (Kd.int .i64) 3 w B (fun k => some k = v.ownBlock) v xs :=
  Kd.R_of_own h (fun k hk => hk.symm)
theorem S_rows {w : World} {B : Nat} {v : Value} {ps : List Value} {rows : List (List Int)} (h : w.ownsRow B 44 1 v rows.length ps) (hr : ∀ j, j < rows.length → w.ownsRow B 3 1 (pt ps j) (rows.getD j []).length ((rows.getD j []).map (Value.int .i64)))
    (ha : ∀ i j, i < j → j < rows.length → (pt ps i).ownBlock = none ∨ (pt ps i).ownBlock ≠ (pt ps j).ownBlock) : Kd.S (Kd.slice 3 (Kd.int .i64)) 44 w B (fun _ => True) v rows := by
  classical
  have hpl : ps.length = rows.length := by have := h.1; omega
  obtain ⟨f, hf⟩ : ∃ f : Nat → Nat, ∀ i b, i < rows.length → (pt ps i).ownBlock = some b → f b = i := by
    refine ⟨fun b => if h : ∃ i, i < rows.length ∧ (pt ps i).ownBlock = some b then Classical.choose h else 0, fun i b hi hbv => ?_⟩
    have hx : ∃ i, i < rows.length ∧ (pt ps i).ownBlock = some b := ⟨i, hi, hbv⟩
    simp only [dif_pos hx]
    obtain ⟨hi2, hb2⟩ := Classical.choose_spec hx
    rcases Nat.lt_trichotomy (Classical.choose hx) i with h1 | h1 | h1
    · rcases ha _ _ h1 hi with h2 | h2
      · rw [h2] at hb2; cases hb2
      · exact absurd (hb2.trans hbv.symm) h2
    · exact h1
    · rcases ha _ _ h1 hi2 with h2 | h2
      · rw [h2] at hbv; cases hbv
      · exact absurd (hbv.trans hb2.symm) h2
  have hcl : ps.length = rows.zipIdx.length * 1 := by rw [Nat.mul_one, List.length_zipIdx]; exact hpl
  refine ⟨f, fun _ _ => trivial, ps, by rw [List.length_zipIdx]; exact h, hcl, fun j q hj => ?_⟩
  obtain ⟨x, i⟩ := q
  have hjl : j < rows.length := by
    have := (List.getElem?_eq_some_iff.1 hj).1
    simpa using this
  have hxi : rows[j] = x ∧ j = i := by
    rw [List.getElem?_zipIdx, qE hjl] at hj
    simpa using hj
  obtain ⟨rfl, rfl⟩ := hxi
  have h5 := hr j hjl
  have hp : rows.getD j [] = rows[j] := by rw [qD, qE hjl]; rfl
  rw [hp] at h5
  have hv4 : ps[j]? = some (pt ps j) := by
    unfold pt
    rw [qE cq2, qD, qE cq2]; rfl
  refine ⟨pt ps j, ?_, ?_⟩
  · rw [show (Kd.tag f (Kd.slice 3 (Kd.int .i64))).sz = 1 from rfl, Nat.mul_one]
    apply List.ext_getElem?
    intro i
    cases i with
    | zero => simpa using hv4
    | succ i => simp [List.getElem?_take]
  · refine Kd.R_mono (R_ints h5) (fun k hk => ?_)
    have hk' : (pt ps j).ownBlock = some k := hk.symm
    refine ⟨⟨trivial, fun e => ?_⟩, hf j k hjl hk'⟩
    rcases own_tne h5 h cq6 with h6 | h6
    · rw [h6] at hk'; cases hk'
    · exact h6 (hk'.trans e)
def pbF (bw bl bo N : Nat) (nv : Value) : Nat → Value
  | 0 => nv
  | 1 => rowV bw N
  | 2 => rowV bl N
  | 3 => nilV
  | 4 => rowV bo N
  | 5 => nilV
  | _ => nilV
structure PB (w0 w : World) (g bw bl bo N : Nat) (nv : Value) (vals : List Value) (rows : List (List Nat)) : Prop where
  gs : w.rowIs g 68 7 (pbF bw bl bo N nv)
  ws : w.rowIs bw 3 N (fun _ => .int .i64 0)
  ls : w.rowIs bl 3 N (fun _ => .int .i64 0)
  os : w.rowIs bo 4 N (fun _ => .bool false)
  d1 : bw ≠ bl
  nvo : w.ownsRow w0.heap.size 44 1 nv rows.length vals
  vr : ∀ v, v < rows.length → w.ownsRow w0.heap.size 3 1 (pt vals v) (rows.getD v []).length (ints (rows.getD v []))
  vb : ∀ v, v < rows.length → ∀ k, (pt vals v).ownBlock = some k → k ≠ bw ∧ k ≠ bl
  ge : w0.heap.size ≤ g ∧ w0.heap.size ≤ bw ∧ w0.heap.size ≤ bl ∧ w0.heap.size ≤ bo
  fr : Below w0.heap.size w0 w
theorem own_row_ne {w : World} {B e s n : Nat} {v : Value} {xs : List Value} (h : w.ownsRow B e s v n xs) {b t m : Nat} {f : Nat → Value} (hr : w.rowIs b t m f) (hne : e ≠ t) : v.ownBlock ≠ some b := by
  intro hk
  obtain ⟨cells, hc⟩ := own_typed h b hk
  obtain ⟨c, hb, _⟩ := hr
  rw [hc] at hb
  injection hb with hb
  injection hb with _ hb
  exact hne hb
section
variable {w0 w : World} {g bw bl bo N : Nat} {nv : Value} {vals : List Value} {rows : List (List Nat)}
theorem PB.below {w' : World} (h : PB w0 w g bw bl bo N nv vals rows) (hb : Below w.heap.size w w') : PB w0 w' g bw bl bo N nv vals rows :=
  ⟨h.gs.of_block (hb.block _ h.gs.lt), h.ws.of_block (hb.block _ h.ws.lt), h.ls.of_block (hb.block _ h.ls.lt), h.os.of_block (hb.block _ h.os.lt), h.d1,
    own_move h.nvo (fun k hk => hb.block k (h.nvo.lt k hk).2), fun v hv => own_move (h.vr v hv) (fun k hk => hb.block k ((h.vr v hv).lt k hk).2), h.vb, h.ge, h.fr.trans (hb.mono h.fr.size)⟩
theorem PB.c0 (h : PB w0 w g bw bl bo N nv vals rows) : w.cell? ⟨g, 0, none⟩ = some nv := h.gs.cell cq2
theorem PB.push {w1 w' : World} (h : PB w0 w g bw bl bo N nv vals rows) (hw1 : Below w.heap.size w w1) (C : List Nat) (v : Value) {k c : Nat} (hv : w1.ownsRow w.heap.size 3 1 v C.length (ints C)) (hg : w1.grownBy w' nv.ownBlock)
    (ho : w'.ownsRow w0.heap.size 44 1 (.slice (some ⟨k, 0, none⟩) (rows.length + 1) c) (rows.length + 1) (vals ++ [v])) :
    PB w0 (w'.setCell ⟨g, 0, none⟩ (.slice (some ⟨k, 0, none⟩) (rows.length + 1) c)) g bw bl bo N (.slice (some ⟨k, 0, none⟩) (rows.length + 1) c) (vals ++ [v]) (rows ++ [C]) := by
  have h1 := h.below hw1
  have hsz : w0.heap.size ≤ w.heap.size := h.fr.size
  have nvt : ∀ b, b < w1.heap.size → nv.ownBlock ≠ some b → w'.heap[b]? = w1.heap[b]? := fun b hb hn => hg.block b hb (fun e => hn e.symm)
  have kg := own_row_ne h1.nvo h1.gs cq6
  have kw := own_row_ne h1.nvo h1.ws cq6
  have kl := own_row_ne h1.nvo h1.ls cq6
  have ko := own_row_ne h1.nvo h1.os cq6
  have gs' := h1.gs.of_block (nvt g h1.gs.lt kg)
  have hv0 : w1.ownsRow w0.heap.size 3 1 v C.length (ints C) := own_weaken hv hsz
  have keep : ∀ {u : Value} {n : Nat} {xs : List Value}, w1.ownsRow w0.heap.size 3 1 u n xs → (w'.setCell ⟨g, 0, none⟩ (.slice (some ⟨k, 0, none⟩) (rows.length + 1) c)).ownsRow w0.heap.size 3 1 u n xs := fun {u n xs} hu => by
    have h2 := own_keep hu hg (own_tne hu h1.nvo cq6)
    exact ownsRow_setCell_other h2 (own_row_ne h2 gs' cq6) _
  have hvl : vals.length = rows.length := by have := h.nvo.1; omega
  have hold : ∀ j, j < rows.length → pt (vals ++ [v]) j = pt vals j := fun j hj => getD_snoc_lt cq2
  have hnew : ∀ j, j = rows.length → pt (vals ++ [v]) j = v := fun j hj => getD_snoc_at cq2
  have hL : (rows ++ [C]).length = rows.length + 1 := by simp
  refine ⟨(gs'.set 0 _).congr fun i hi => ?_, (h1.ws.of_block (nvt bw h1.ws.lt kw)).setOther (rowIs_tne h1.ws h1.gs cq6) _, (h1.ls.of_block (nvt bl h1.ls.lt kl)).setOther (rowIs_tne h1.ls h1.gs cq6) _,
    (h1.os.of_block (nvt bo h1.os.lt ko)).setOther (rowIs_tne h1.os h1.gs cq6) _, h.d1, ?_, fun j hj => ?_, fun j hj b hb => ?_, h.ge, ?_⟩
  · match i, hi with
    | 0, _ => rfl
    | 1, _ => rfl
    | 2, _ => rfl
    | 3, _ => rfl
    | 4, _ => rfl
    | 5, _ => rfl
    | 6, _ => rfl
  · rw [hL]
    refine ownsRow_setCell_other ho (own_row_ne ho gs' cq6) _
  · rw [hL] at hj
    rcases Nat.lt_or_ge j rows.length with h2 | h2
    · rw [hold j h2, getD_snoc_lt h2]; exact keep (h1.vr j h2)
    · have e : j = rows.length := by omega
      rw [hnew j e, getD_snoc_at e]; exact keep hv0
  · rw [hL] at hj
    rcases Nat.lt_or_ge j rows.length with h2 | h2
    · rw [hold j h2] at hb; exact h.vb j h2 b hb
    · rw [hnew j cq2] at hb
      have h3 := (hv.lt b hb).1
      have h4 := h.ws.lt
      have h5 := h.ls.lt
      exact ⟨by omega, by omega⟩
  · exact (h1.fr.grown hg (Nat.le_trans hsz hw1.size) (fun b e => (h1.nvo.lt b e).1)).setCell h.ge.1 _
theorem start_mm (h : PB w0 w g bw bl bo N nv vals rows) (hN : rows.length = N) (nx : Nat → List Nat) (hnx : ∀ v, v < N → nx v = rows.getD v []) :
    Ws w0 (w.alloc (.cells #[.int .i64 0] 3)) ⟨g, bw, bl, bo, w.heap.size, N, w.heap.size + 1, nv⟩ (w.alloc (.cells #[.int .i64 0] 3)) (mm startP nilV nilV nilV []) ∧ NX ⟨g, bw, bl, bo, w.heap.size, N, w.heap.size + 1, nv⟩ nx (w.alloc (.cells #[.int .i64 0] 3)) vals := by
  have h1 := h.below (below_alloc (Below.refl _ _) (.cells #[.int .i64 0] 3))
  have lt : ∀ b, b < w.heap.size → b < w.heap.size + 1 := fun b hb => by omega
  have hsz : (w.alloc (.cells #[.int .i64 0] 3)).heap.size = w.heap.size + 1 := by simp
  have hbn : (w.alloc (.cells #[.int .i64 0] 3)).rowIs w.heap.size 3 1 (fun _ => .int .i64 ((0 : Nat) : Int)) := World.rowIs_alloc w #[.int .i64 0] 3 _ (fun i hi => by
    have : i = 0 := by simp at hi; omega
    subst this; rfl)
  have own0 : ∀ (e s : Nat), (w.alloc (.cells #[.int .i64 0] 3)).ownsRow (w.heap.size + 1) e s nilV 0 [] := fun e s => World.ownsRow_nil _ _ _ _
  refine ⟨⟨h1.gs.congr fun i hi => ?_, h1.ws, h1.ls, h1.os.congr fun i hi => ?_, hbn, own0 3 1, own0 119 2, own0 44 1, fun j hj => absurd hj (Nat.not_lt_zero _), fun j hj => absurd hj (Nat.not_lt_zero _), fun i j _ hj => absurd hj (Nat.not_lt_zero _),
    h.d1, fun e => by have := h.ws.lt; have e' : w.heap.size = bw := e; omega, fun e => by have := h.ls.lt; have e' : w.heap.size = bl := e; omega, fun b hb => ?_, fun b hb => ?_, ⟨?_, ?_⟩, h1.fr, fun b _ _ => rfl⟩, ?_⟩
  · match i, hi with
    | 0, _ => rfl
    | 1, _ => rfl
    | 2, _ => rfl
    | 3, _ => rfl
    | 4, _ => rfl
    | 5, _ => rfl
    | 6, _ => rfl
  · show Value.bool false = Value.bool (decide (i ∈ startP.row))
    simp [startP]
  · show b < w.heap.size + 1
    rcases hb with e | e | e | e | e
    · have e' : b = g := e; have := h.gs.lt; omega
    · have e' : b = bw := e; have := h.ws.lt; omega
    · have e' : b = bl := e; have := h.ls.lt; omega
    · have e' : b = bo := e; have := h.os.lt; omega
    · have e' : b = w.heap.size := e; omega
  · have hf := h.fr.size
    rcases hb with e | e | e | e | e
    · have e' : b = g := e; have := h.ge; omega
    · have e' : b = bw := e; have := h.ge; omega
    · have e' : b = bl := e; have := h.ge; omega
    · have e' : b = bo := e; have := h.ge; omega
    · have e' : b = w.heap.size := e; omega
  · have := h.fr.size; show w0.heap.size ≤ w.heap.size + 1; omega
  · rw [hsz]; exact Nat.le_refl _
  · subst hN
    refine ⟨own_weaken h1.nvo (Nat.zero_le _), fun v hv => ?_, fun k hk => ?_, fun v hv k hk => ?_⟩
    · rw [hnx v hv]; exact own_weaken (h1.vr v hv) (Nat.zero_le _)
    · have hlt := (h.nvo.lt k hk).2
      refine ⟨lt k hlt, fun e => ?_⟩
      rcases e with e | e | e | e | e
      · exact own_row_ne h.nvo h.gs cq6 cq47
      · exact own_row_ne h.nvo h.ws cq6 cq47
      · exact own_row_ne h.nvo h.ls cq6 cq47
      · exact own_row_ne h.nvo h.os cq6 cq47
      · have e' : k = w.heap.size := e; omega
    · have hr := h.vr v hv
      have hlt := (hr.lt k hk).2
      refine ⟨lt k hlt, fun e => ?_⟩
      rcases e with e | e | e | e | e
      · exact own_row_ne hr h.gs cq6 cq47
      · exact (h.vb v hv k hk).1 e
      · exact (h.vb v hv k hk).2 e
      · exact own_row_ne hr h.os cq6 cq47
      · have e' : k = w.heap.size := e; omega
end
end Go.Proofs.YtligpleningglaaGreat.Cw
namespace Go.Proofs.YtligpleningglaaGreat.Cw
open Go Go.RowKit Go.Proofs.YtligpleningglaaGreat.Tarjan Go.Proofs.YtligpleningglaaGreatW.PrintWords Go.Proofs.YtligpleningglaaGreatW.PrintLast Go.Proofs.YtligpleningglaaGreatW.PrintMore Go.Proofs.YtligpleningglaaGreat.F
attribute [local go_sem] min2_int min_two
def nxc (l0 : List (List Int)) (v : Nat) : List Nat := cmpN ((l0.getD v []).map Int.toNat)
def okB (l0 : List (List Int)) : Bool := l0.all fun l => l.all fun k => decide (0 ≤ k) && decide (k < (l0.length : Int))
def partsZ (l0 : List (List Int)) : List (List Int) := (partsP cmpN (nxc l0) l0.length).map fun l => l.map Int.ofNat
def resP (l0 : List (List Int)) : List (List Int) × Int := if okB l0 then (partsZ l0, 0) else ([], 4)
def netOk (l0 : List (List Int)) : Bool := decide (l0.length ≤ 5864062014805) && l0.all fun l => decide (l.length ≤ 17592186044416)
def PSpec (w : World) (l0 : List (List Int)) (e : Ending) (w' : World) : Prop := ∃ v0_ : Value, e = .returned (.tuple #[v0_, .int .i64 (resP l0).2]) ∧ Kd.S (Kd.slice 3 (Kd.int .i64)) 44 w' w.heap.size (fun _ => True) v0_ (resP l0).1 ∧ Below w.heap.size w w'
noncomputable def ptTail : Code := sndC (sndC (bodyC Tryz.f9))
noncomputable def ptTail2 : Code := sndC ptTail
theorem cmpZ_up {xs : List Int} (h : ∀ x ∈ xs, 0 ≤ x) : cmpZ xs = (cmpN (xs.map Int.toNat)).map Int.ofNat := by
  rw [cmpN_up, List.map_map]
  have : ∀ x ∈ xs, (Int.ofNat ∘ Int.toNat) x = x := fun x hx => by
    have := h x hx
    show Int.ofNat x.toNat = x
    exact Int.toNat_of_nonneg this
  rw [List.map_congr_left this, List.map_id']
theorem compactN_calls (w : World) (A : Option Addr) (c : Nat) (xs : List Int) (h : Kd.C (Kd.int .i64) w A xs.length xs) (hc : xs.length ≤ c) (hbig : xs.length ≤ 17592186044416) (hp : ∀ x ∈ xs, 0 ≤ x) :
    Calls Tryz.prog 27 #[.slice A xs.length c] w fun e w' => ∃ v', e = .returned v' ∧ w'.ownsRow w.heap.size 3 1 v' (cmpN (xs.map Int.toNat)).length (ints (cmpN (xs.map Int.toNat))) ∧ Below w.heap.size w w' := by
  refine (compact_calls w A c xs h hc hbig).mono ?_
  rintro e w' ⟨v', rfl, ho, hb⟩
  refine ⟨v', rfl, ?_, hb⟩
  rw [cmpZ_up hp, List.length_map, List.map_map] at ho
  exact ho
theorem PB.drew {w0 w : World} {g bw bl bo N : Nat} {nv : Value} {vals : List Value} {rows : List (List Nat)} (h : PB w0 w g bw bl bo N nv vals rows) : PB w0 w.drew g bw bl bo N nv vals rows := h.below (Below.refl _ _).drew
theorem PB.grow_g {w0 w w' : World} {g bw bl bo N : Nat} {nv : Value} {vals : List Value} {rows : List (List Nat)} (h : PB w0 w g bw bl bo N nv vals rows) (hg : w.grownBy w' nv.ownBlock) : w'.rowIs g 68 7 (pbF bw bl bo N nv) :=
  h.gs.of_block (hg.block g h.gs.lt (fun e => own_row_ne h.nvo h.gs cq6 e.symm))
def rowsN (l0 : List (List Int)) (i : Nat) : List (List Nat) := (l0.take i).map fun l => cmpN (l.map Int.toNat)
theorem rowsN_len {l0 : List (List Int)} {i : Nat} (h : i ≤ l0.length) : (rowsN l0 i).length = i := by unfold rowsN; rw [List.length_map, List.length_take]; omega
theorem rowsN_next {l0 : List (List Int)} {i : Nat} (h : i < l0.length) : rowsN l0 (i + 1) = rowsN l0 i ++ [cmpN ((l0[i]).map Int.toNat)] := by
  unfold rowsN; rw [List.take_succ_eq_append_getElem h, List.map_append]; rfl
theorem rowsN_all (l0 : List (List Int)) (v : Nat) (hv : v < l0.length) : nxc l0 v = (rowsN l0 l0.length).getD v [] := by
  unfold nxc rowsN
  rw [List.take_length, qD, qD, List.getElem?_map, qE hv]; rfl
theorem nxc_lt {l0 : List (List Int)} (h : okB l0 = true) : ∀ v, ∀ x ∈ nxc l0 v, x < l0.length := by
  intro v x hx
  unfold nxc at hx
  rw [cmpN_mem, List.mem_map] at hx
  obtain ⟨k, hk, rfl⟩ := hx
  rw [qD] at hk
  cases hv : l0[v]? with
  | none => rw [hv] at hk; cases hk
  | some l =>
    rw [hv] at hk
    have hl := List.mem_of_getElem? hv
    have h1 := List.all_eq_true.1 (List.all_eq_true.1 h l hl) k hk
    simp at h1
    omega
theorem nxc_len {l0 : List (List Int)} (h : okB l0 = true) (v : Nat) : (nxc l0 v).length ≤ l0.length := by
  have := parts_len (a := nxc l0 v) (b := List.range l0.length) (cmpN_lt _) (fun x hx => List.mem_range.2 (nxc_lt h v x hx))
  rwa [List.length_range] at this
theorem pt_one {k N : Nat} (hN : N ≤ 5864062014805) (h : k < N) : 0 ≤ (k : Int) ∧ (k : Int) < (N : Int) ∧ wrap64 ((k : Int) + 1) = ((k + 1 : Nat) : Int) := ⟨by omega, by omega, by unfold wrap64; omega⟩
theorem pt_two {k N : Nat} (hN : N ≤ 17592186044416) (h : k < N) : 0 ≤ (k : Int) ∧ (k : Int) < (N : Int) ∧ wrap64 ((k : Int) + 1) = ((k + 1 : Nat) : Int) := ⟨by omega, by omega, by unfold wrap64; omega⟩
theorem pt_meas {k N : Nat} (h : k < N) : N - (k + 1) < N - k := by omega
theorem pt_end {k N : Nat} (h : k ≤ N) (h2 : ¬ k < N) : k = N := by omega
theorem parts_tail2 (w0 w : World) (A0 : Option Addr) (c0 : Nat) (l0 : List (List Int)) (g bw bl bo : Nat) (nv : Value) (vals : List Value) (hP : PB w0 w g bw bl bo l0.length nv vals (rowsN l0 l0.length)) (hok : okB l0 = true) (hN : l0.length ≤ 5864062014805) (uu : Nat → Value) :
    Code.wp Tryz.prog ptTail2 (bodyPost Tryz.prog Tryz.f9 (PSpec w0 l0)) ({ tmps := ((.slice A0 l0.length c0 : Value) :: uu 1 :: uu 2 :: uu 3 :: (.pointer (some ⟨g, 0, none⟩) : Value) :: uu 5 :: uu 6 :: uu 7 :: uu 8 :: uu 9 :: uu 10 :: uu 11 :: uu 12 :: uu 13 :: uu 14 :: uu 15 :: uu 16 :: uu 17 :: uu 18 :: uu 19 :: uu 20 :: uu 21 :: uu 22 :: uu 23 :: uu 24 :: uu 25 :: uu 26 :: uu 27 :: uu 28 :: uu 29 :: uu 30 :: uu 31 :: uu 32 :: uu 33 :: uu 34 :: uu 35 :: uu 36 :: uu 37 :: uu 38 :: uu 39 :: uu 40 :: uu 41 :: uu 42 :: uu 43 :: uu 44 :: uu 45 :: uu 46 :: uu 47 :: uu 48 :: uu 49 :: uu 50 :: uu 51 :: uu 52 :: uu 53 :: uu 54 :: uu 55 :: uu 56 :: uu 57 :: uu 58 :: uu 59 :: uu 60 :: uu 61 :: uu 62 :: uu 63 :: uu 64 :: uu 65 :: uu 66 :: uu 67 :: uu 68 :: uu 69 :: uu 70 :: uu 71 :: uu 72 :: uu 73 :: uu 74 :: uu 75 :: []).toArray, defers := [] } : Act) w := by
  obtain ⟨hS, hX⟩ := start_mm hP (rowsN_len (Nat.le_refl _)) (nxc l0) (fun v hv => rowsN_all l0 v hv)
  obtain ⟨w1, ew1⟩ : ∃ w1, w1 = w.alloc (.cells #[.int .i64 0] 3) := ⟨_, rfl⟩
  obtain ⟨p, ep⟩ : ∃ p : Pl, p = ⟨g, bw, bl, bo, w.heap.size, l0.length, w.heap.size + 1, nv⟩ := ⟨_, rfl⟩
  have HS := qA (show Ws w0 w1 p w1 (mm startP nilV nilV nilV []) by rw [ew1, ep]; exact hS)
  have HX := qA (show NX p (nxc l0) w1 vals by rw [ew1, ep]; exact hX)
  have EW := qA ew1
  have EP := qA (show p.g = g ∧ p.bn = w.heap.size ∧ p.N = l0.length by rw [ep]; exact ⟨rfl, rfl, rfl⟩)
  have HOK := qA hok
  clear hP hS hX ew1 ep hok
  obtain ⟨code, hcode⟩ : ∃ code, ptTail2 = code := ⟨_, rfl⟩
  rw [hcode]
  unfold ptTail2 ptTail Tryz.f9 at hcode
  dsimp only [bodyC, sndC, Option.getD] at hcode
  subst hcode
  go_wp2
  rw [← EW.out]
  simp only [← EP.out.1, ← EP.out.2.1]
  obtain ⟨N, hNN⟩ : ∃ N, N = l0.length := ⟨_, rfl⟩
  have EN := qA (show p.N = N by rw [hNN]; exact EP.out.2.2)
  have NXL := qA (show (∀ v, ∀ x ∈ nxc l0 v, x < p.N) ∧ (∀ v, (nxc l0 v).length ≤ 5864062014805) ∧ p.N ≤ 5864062014805 from ⟨by rw [EP.out.2.2]; exact nxc_lt HOK.out, fun v => Nat.le_trans (nxc_len HOK.out v) hN, by rw [EP.out.2.2]; exact hN⟩)
  have ER := qA (show partsZ l0 = (uptoP cmpN (nxc l0) p.N p.N).parts.map (fun l => l.map Int.ofNat) by rw [EP.out.2.2]; rfl)
  have NB := qA (show N ≤ 5864062014805 by rw [hNN]; exact hN)
  have RP := qA (show resP l0 = (partsZ l0, 0) by unfold resP; rw [HOK.out]; rfl)
  simp only [← hNN]
  clear hNN hN EP EW HOK
  go_loopw [57] (fun v57 wr => ∃ k : Nat, k ≤ N ∧ v57 = .int .i64 (k : Int) ∧ Aside0 (∃ rv wv pv ps, Ws w0 w1 p wr (mm (uptoP cmpN (nxc l0) p.N k) rv wv pv ps))) (fun v57 _ => N - (intOf v57).toNat)
  case atStart => exact ⟨0, Nat.zero_le _, rfl, ⟨nilV, nilV, nilV, [], HS.out⟩⟩
  case round =>
    obtain ⟨k, hk, rfl, HR⟩ := hrel
    obtain ⟨rv, wv, pv, ps, HW⟩ := HR.out
    clear HR HS
    by_cases hkN : k < N
    · obtain ⟨q1, q2, q3⟩ := pt_one NB.out hkN
      have hkp : k < p.N := by rw [EN.out]; exact hkN
      obtain ⟨I, hway, hmt⟩ := upto_ok cmpN_mem NXL.out.1 k (Nat.le_of_lt hkp)
      obtain ⟨st, hst⟩ : ∃ st, st = uptoP cmpN (nxc l0) p.N k := ⟨_, rfl⟩
      have B := Bd.upto cmpN_mem NXL.out.1 k (Nat.le_of_lt hkp)
      have SU := qA (show uptoP cmpN (nxc l0) p.N (k + 1) = fromP cmpN (nxc l0) p.N k st by rw [hst]; exact uptoP_succ _ _ _ _)
      rw [← hst] at I hway B HW
      have HWA := qA HW
      have x1 : wr.cell? ⟨p.g, 1, none⟩ = some (.slice (some ⟨p.bw, 0, none⟩) p.N p.N) := HW.c1
      have xw : wr.cell? ⟨p.bw, k, none⟩ = some (.int .i64 (st.wh k : Nat)) := HW.ws.cell hkp
      have q4 : (k : Int) < (p.N : Int) := by rw [EN.out]; exact q2
      by_cases hm : st.wh k = 0
      · have F := qA (from_calls (nxc l0) w0 w1 wr p st rv wv pv ps vals k HW HX.out I hway B hkp hm NXL.out.1 NXL.out.2.1 NXL.out.2.2)
        have hm' : ((st.wh k : Nat) : Int) = 0 := by rw [hm]; rfl
        clear hst I hway B HW hmt
        go_wp2_with (go_at_call 28; refine F.out.mono ?_; rintro e w3 ⟨rfl, h3⟩; have H3 := qA h3; clear h3)
        go_roundw
        case rel => exact ⟨k + 1, hkN, by rw [q3], ⟨by rw [SU.out]; exact H3.out⟩⟩
        case measure => rw [q3]; exact pt_meas hkN
      · have hm' : ¬ ((st.wh k : Nat) : Int) = 0 := fun e => hm (by exact_mod_cast e)
        clear hst I hway B HW hmt
        go_wp2
        go_roundw
        case rel => exact ⟨k + 1, hkN, by rw [q3], ⟨⟨rv, wv, pv, ps, by rw [SU.out]; unfold fromP; rw [if_neg hm]; exact HWA.out⟩⟩⟩
        case measure => rw [q3]; exact pt_meas hkN
    · obtain rfl := pt_end hk hkN
      have x6 : wr.cell? ⟨p.g, 6, none⟩ = some pv := HW.c6
      have HWA := qA HW
      have hnl : ¬ ((k : Int) < (k : Int)) := Int.lt_irrefl _
      clear HW HX
      go_wp2
      go_ret2
      have hW := HWA.out
      rw [← EN.out] at hW
      unfold PSpec
      rw [RP.out]
      refine ⟨pv, rfl, ?_, hW.fr⟩
      show Kd.S _ 44 wr w0.heap.size (fun _ => True) pv (partsZ l0)
      rw [ER.out]
      have hl : ((uptoP cmpN (nxc l0) p.N p.N).parts.map (fun l => l.map Int.ofNat)).length = (uptoP cmpN (nxc l0) p.N p.N).parts.length := List.length_map ..
      refine S_rows (by rw [hl]; exact own_weaken hW.pr hW.sz.1) (fun j hj => ?_) (fun i j hij hj => hW.pa i j hij (by rw [hl] at hj; exact hj))
      rw [hl] at hj
      have hp := own_weaken (hW.pp j hj) hW.sz.1
      have e : ((uptoP cmpN (nxc l0) p.N p.N).parts.map (fun l => l.map Int.ofNat)).getD j [] = ((uptoP cmpN (nxc l0) p.N p.N).parts.getD j []).map Int.ofNat := by
        rw [qD, qD, List.getElem?_map, qE hj]; rfl
      rw [e, List.length_map, List.map_map]
      exact hp
def FP (A0 : Option Addr) (n c0 g : Nat) (a : Act) : Prop := a.defers = [] ∧ a.tmps.size = 76 ∧ a.tmps.toList.getD 0 undef = .slice A0 n c0 ∧ a.tmps.toList.getD 4 undef = .pointer (some ⟨g, 0, none⟩)
theorem wp_fp {A0 : Option Addr} {n c0 g : Nat} {code : Code} {Q : Exit → Act → World → Prop} {w : World} {a : Act} (h : FP A0 n c0 g a) (k : ∀ uu : Nat → Value, Code.wp Tryz.prog code Q ({ tmps := ((.slice A0 n c0 : Value) :: uu 1 :: uu 2 :: uu 3 :: (.pointer (some ⟨g, 0, none⟩) : Value) :: uu 5 :: uu 6 :: uu 7 :: uu 8 :: uu 9 :: uu 10 :: uu 11 :: uu 12 :: uu 13 :: uu 14 :: uu 15 :: uu 16 :: uu 17 :: uu 18 :: uu 19 :: uu 20 :: uu 21 :: uu 22 :: uu 23 :: uu 24 :: uu 25 :: uu 26 :: uu 27 :: uu 28 :: uu 29 :: uu 30 :: uu 31 :: uu 32 :: uu 33 :: uu 34 :: uu 35 :: uu 36 :: uu 37 :: uu 38 :: uu 39 :: uu 40 :: uu 41 :: uu 42 :: uu 43 :: uu 44 :: uu 45 :: uu 46 :: uu 47 :: uu 48 :: uu 49 :: uu 50 :: uu 51 :: uu 52 :: uu 53 :: uu 54 :: uu 55 :: uu 56 :: uu 57 :: uu 58 :: uu 59 :: uu 60 :: uu 61 :: uu 62 :: uu 63 :: uu 64 :: uu 65 :: uu 66 :: uu 67 :: uu 68 :: uu 69 :: uu 70 :: uu 71 :: uu 72 :: uu 73 :: uu 74 :: uu 75 :: []).toArray, defers := [] } : Act) w) : Code.wp Tryz.prog code Q a w := by
  obtain ⟨tm, df⟩ := a
  obtain ⟨l⟩ := tm
  obtain ⟨h0, h1, h2, h5⟩ := h
  obtain rfl : df = [] := h0
  have e : l = (List.range 76).map fun i => l.getD i undef := by
    have := list_fn l
    rw [show l.length = 76 from h1] at this
    exact this
  obtain ⟨uu, hu⟩ : ∃ uu : Nat → Value, uu = fun i => l.getD i undef := ⟨_, rfl⟩
  have q0 : uu 0 = .slice A0 n c0 := by rw [hu]; exact h2
  have q6 : uu 4 = .pointer (some ⟨g, 0, none⟩) := by rw [hu]; exact h5
  rw [← hu] at e
  have h7 := k uu
  rw [← q0, ← q6] at h7
  rw [e]
  exact h7
theorem parts_tail (w0 w : World) (A0 : Option Addr) (c0 : Nat) (l0 : List (List Int)) (g bw bl bo : Nat) (hC : Kd.C (Kd.slice 3 (Kd.int .i64)) w0 A0 l0.length l0) (hc : l0.length ≤ c0) (hP : PB w0 w g bw bl bo l0.length nilV [] []) (hnet : netOk l0 = true) (uu : Nat → Value) :
    Code.wp Tryz.prog ptTail (bodyPost Tryz.prog Tryz.f9 (PSpec w0 l0)) ({ tmps := ((.slice A0 l0.length c0 : Value) :: uu 1 :: uu 2 :: uu 3 :: (.pointer (some ⟨g, 0, none⟩) : Value) :: uu 5 :: uu 6 :: uu 7 :: uu 8 :: uu 9 :: uu 10 :: uu 11 :: uu 12 :: uu 13 :: uu 14 :: uu 15 :: uu 16 :: uu 17 :: uu 18 :: uu 19 :: uu 20 :: uu 21 :: uu 22 :: uu 23 :: uu 24 :: uu 25 :: uu 26 :: uu 27 :: uu 28 :: uu 29 :: uu 30 :: uu 31 :: uu 32 :: uu 33 :: uu 34 :: uu 35 :: uu 36 :: uu 37 :: uu 38 :: uu 39 :: uu 40 :: uu 41 :: uu 42 :: uu 43 :: uu 44 :: uu 45 :: uu 46 :: uu 47 :: uu 48 :: uu 49 :: uu 50 :: uu 51 :: uu 52 :: uu 53 :: uu 54 :: uu 55 :: uu 56 :: uu 57 :: uu 58 :: uu 59 :: uu 60 :: uu 61 :: uu 62 :: uu 63 :: uu 64 :: uu 65 :: uu 66 :: uu 67 :: uu 68 :: uu 69 :: uu 70 :: uu 71 :: uu 72 :: uu 73 :: uu 74 :: uu 75 :: []).toArray, defers := [] } : Act) w := by
  have hnet' := hnet
  unfold netOk at hnet'
  rw [Bool.and_eq_true, decide_eq_true_eq, List.all_eq_true] at hnet'
  obtain ⟨hN, hrow⟩ := hnet'
  have HROW := qA (show ∀ i (h : i < l0.length), (l0[i]).length ≤ 17592186044416 from fun i h => by simpa using hrow _ (List.getElem_mem h))
  have HC := qA hC
  have HP0 := qA hP
  have NB := qA hN
  obtain ⟨i35, hi35, hz35⟩ := Option.map_eq_some_iff.1 info44
  simp only [Prod.mk.injEq] at hz35
  obtain ⟨z35a, z35b, z35c⟩ := hz35
  have I35 := qA (show Tryz.prog.info? 44 = some i35 ∧ i35.zero = some (.slice none 0 0) ∧ i35.size = 1 ∧ i35.bytes = 24 from ⟨hi35, z35a, z35b, z35c⟩)
  have HE := qA (fun (w' : World) (h : okB l0 = false) (hb : Below w0.heap.size w0 w') => (⟨.slice none 0 0, by unfold resP; rw [h]; rfl, by unfold resP; rw [h]; exact Kd.S_nil _ _ _ _ _, hb⟩ : PSpec w0 l0 (.returned (.tuple #[.slice none 0 0, .int .i64 4])) w'))
  have T2 := qA (fun (w' : World) (nv : Value) (vals : List Value) (h : PB w0 w' g bw bl bo l0.length nv vals (rowsN l0 l0.length)) (hok : okB l0 = true) (uu : Nat → Value) => parts_tail2 w0 w' A0 c0 l0 g bw bl bo nv vals h hok hN uu)
  clear hC hP hnet hrow hi35 z35a z35b z35c hN
  obtain ⟨code, hcode⟩ : ∃ code, ptTail = code := ⟨_, rfl⟩
  rw [hcode]
  unfold ptTail Tryz.f9 at hcode
  dsimp only [bodyC, sndC, Option.getD] at hcode
  subst hcode
  refine wp_seq_k (fun K2 hK2 => ?_)
  have HK2 := qA hK2
  clear hK2
  go_wp2
  go_loopw [24] (fun v24 wr => ∃ (k : Nat) (nv : Value) (vals : List Value), k ≤ l0.length ∧ v24 = .int .i64 (k : Int) ∧ Aside0 (PB w0 wr g bw bl bo l0.length nv vals (rowsN l0 k)) ∧ Aside0 (∀ i (h : i < l0.length), i < k → ∀ x ∈ l0[i], 0 ≤ x ∧ x < (l0.length : Int))) (fun v24 _ => l0.length - (intOf v24).toNat)
  case atStart => exact ⟨0, nilV, [], Nat.zero_le _, rfl, HP0, ⟨fun i _ hi => absurd hi (Nat.not_lt_zero i)⟩⟩
  case round =>
    obtain ⟨k, nv, vals, hk, rfl, HP, HG⟩ := hrel
    clear HP0
    by_cases hkN : k < l0.length
    · obtain ⟨q1, q2, q3⟩ := pt_one NB.out hkN
      obtain ⟨ad, A1, c1, hA, hx, hl, hi⟩ := at_L1 HC.out (k : Int) q1 q2
      subst hA
      obtain ⟨l, hl0⟩ : ∃ l, l = l0[k] := ⟨_, rfl⟩
      have hrd : rd_L1 l0 (k : Int) = l := by rw [hl0]; unfold rd_L1; rw [Int.toNat_natCast, qD, qE hkN]; rfl
      rw [hrd] at hx hl hi
      rw [Int.toNat_natCast] at hx
      have xr : wr.cell? (ad.add k) = some (.slice A1 l.length c1) := pw_cell_below HP.out.fr hx
      have EL := qA hl0
      have HL := qA hl
      have hll : l.length ≤ 17592186044416 := by rw [hl0]; exact HROW.out k hkN
      have HLL := qA hll
      have HI := qA (Kd.C_below (hi) HP.out.fr : (Kd.int .i64).C wr A1 l.length l)
      clear hrd hl0 hx hi hl hll
      go_wp2
      go_loop [30] (fun v30 => ∃ j : Nat, j ≤ l.length ∧ v30 = .int .i64 (j : Int) ∧ Aside0 (∀ x ∈ l.take j, 0 ≤ x ∧ x < (l0.length : Int))) (fun v30 => l.length - (intOf v30).toNat)
      case atStart => exact ⟨0, Nat.zero_le _, rfl, ⟨fun x hx => by rw [List.take_zero] at hx; cases hx⟩⟩
      case round =>
        obtain ⟨j, hj, rfl, HJ⟩ := hrel
        by_cases hjl : j < l.length
        · obtain ⟨r1, r2, r3⟩ := pt_two HLL.out hjl
          obtain ⟨a1, hA1, hcell⟩ := Kd.at_int HI.out (j : Int) r1 r2
          subst hA1
          rw [Int.toNat_natCast] at hcell
          obtain ⟨x, hx⟩ : ∃ x, x = rd l (j : Int) := ⟨_, rfl⟩
          rw [← hx] at hcell
          have hxl : x = l[j] := by rw [hx]; unfold rd; rw [Int.toNat_natCast, qD, qE hjl]; rfl
          have EX := qA hxl
          have BAD := qA (show ¬ (0 ≤ x ∧ x < (l0.length : Int)) → okB l0 = false from fun hb => by
            rw [Bool.eq_false_iff]
            intro ht
            have h1 := List.all_eq_true.1 (List.all_eq_true.1 ht l (by rw [EL.out]; exact List.getElem_mem hkN)) x (by rw [hxl]; exact List.getElem_mem hjl)
            rw [Bool.and_eq_true, decide_eq_true_eq, decide_eq_true_eq] at h1
            exact hb h1)
          clear hx hxl
          by_cases hx0 : x < 0
          · have HB := qA (BAD.out (fun h => absurd h.1 (Int.not_le.2 hx0)))
            clear q3 r3
            go_wp2
            go_ret2
            exact HE.out wr HB.out HP.out.fr
          · by_cases hxn : x < (l0.length : Int)
            · have GX := qA (show 0 ≤ x ∧ x < (l0.length : Int) from ⟨Int.not_lt.1 hx0, hxn⟩)
              clear q3
              go_wp2
              go_round
              case rel => exact ⟨j + 1, hjl, by rw [r3], ⟨fun y hy => by
                rw [List.take_succ_eq_append_getElem hjl, List.mem_append, List.mem_singleton] at hy
                rcases hy with h1 | h1
                · exact HJ.out y h1
                · rw [h1, ← EX.out]; exact GX.out⟩⟩
              case measure => rw [r3]; exact pt_meas hjl
            · have HB := qA (BAD.out (fun h => hxn h.2))
              clear q3 r3
              go_wp2
              go_ret2
              exact HE.out wr HB.out HP.out.fr
        · obtain rfl := pt_end hj hjl
          have GL := qA (show ∀ x ∈ l, 0 ≤ x ∧ x < (l0.length : Int) by have := HJ.out; rw [List.take_length] at this; exact this)
          have CC := qA (compactN_calls wr.drew A1 c1 l (Kd.C_drew HI.out) HL.out HLL.out (fun x hx => (GL.out x hx).1))
          obtain ⟨C, hC⟩ : ∃ C, C = cmpN (l.map Int.toNat) := ⟨_, rfl⟩
          rw [← hC] at CC
          obtain ⟨rows, hrows⟩ : ∃ rows, rows = rowsN l0 k := ⟨_, rfl⟩
          have ERW := qA (show rowsN l0 (k + 1) = rows ++ [C] by rw [hrows, hC, EL.out]; exact rowsN_next hkN)
          rw [← hrows] at HP
          have LM := qA (show rows.length + 1 ≤ maxLen ∧ (rows.length + 1) * 24 ≤ 140737488355328 by
            have h1 : rows.length = k := by rw [hrows]; exact rowsN_len hk
            have h2 := NB.out
            unfold maxLen
            rw [h1]
            exact ⟨by omega, by omega⟩)
          have x0 : wr.cell? ⟨g, 0, none⟩ = some nv := HP.out.c0
          have hjn : ¬ ((l.length : Int) < (l.length : Int)) := Int.lt_irrefl _
          clear hC hrows
          go_wp2
          refine start_ (n := 12) (S := fun w' => w'.cell? ⟨g, 0, none⟩ = some nv) (ds := [8, 11]) #[false, false, false, false, false, false, false, false, false, false, false, false] cq3 rfl rfl ((pw_cell_below (below_drew (Below.refl _ _)) x0)) (fun hHeld => ?_)
          refine pure_ (i := 0) (N := some 43) (v := ?_) (a' := ?_) #[true, false, false, false, false, false, false, false, false, false, false, false] rfl rfl cq3 (fun _ _ _ h => h) (Or.inl ⟨by rfl, ?_⟩) ?_ ?_
          rotate_left
          · intro w'
            go_simp
            with_reducible rfl
          rotate_left
          · simp only [Act.put, qS, qZ, qN, i64_w, i32_w]
            rfl
          refine pure_ (i := 1) (N := some 44) (v := ?_) (a' := ?_) #[true, true, false, false, false, false, false, false, false, false, false, false] rfl rfl cq3 (fun _ _ _ h => h) (Or.inl ⟨by rfl, ?_⟩) ?_ ?_
          rotate_left
          · intro w'
            go_simp
            with_reducible rfl
          rotate_left
          · simp only [Act.put, qS, qZ, qN, i64_w, i32_w]
            rfl
          refine pure_ (i := 2) (N := some 45) (v := ?_) (a' := ?_) #[true, true, true, false, false, false, false, false, false, false, false, false] rfl rfl cq3 (fun _ _ _ h => h) (Or.inl ⟨by rfl, ?_⟩) ?_ ?_
          rotate_left
          · intro w'
            go_simp
            with_reducible rfl
          rotate_left
          · simp only [Act.put, qS, qZ, qN, i64_w, i32_w]
            rfl
          refine pure_ (i := 3) (N := some 46) (v := ?_) (a' := ?_) #[true, true, true, true, false, false, false, false, false, false, false, false] rfl rfl cq3 (fun _ _ _ h => h) (Or.inl ⟨by rfl, ?_⟩) ?_ ?_
          rotate_left
          · intro w'
            go_simp
            with_reducible rfl
          rotate_left
          · simp only [Act.put, qS, qZ, qN, i64_w, i32_w]
            rfl
          refine pure_ (i := 5) (N := some 48) (v := ?_) (a' := ?_) #[true, true, true, true, false, true, false, false, false, false, false, false] rfl rfl cq3 (fun _ _ _ h => h) (Or.inl ⟨by rfl, ?_⟩) ?_ ?_
          rotate_left
          · intro w'
            go_simp
            with_reducible rfl
          rotate_left
          · simp only [Act.put, qS, qZ, qN, i64_w, i32_w]
            rfl
          refine take_ (i := 4) (N := some 47) (v := ?_) (a' := ?_) #[true, true, true, true, true, true, false, false, false, false, false, false] rfl rfl cq3 (fun _ _ _ h => h) (Or.inl ⟨by rfl, ?_⟩) hHeld ?_ ?_
          rotate_left
          · intro w' s0
            go_simp
            with_reducible rfl
          rotate_left
          · simp only [Act.put, qS, qZ, qN, i64_w, i32_w]
            rfl
          refine one_ (i := 6) (N := some 49) #[true, true, true, true, true, true, true, false, false, false, false, false] rfl rfl cq3 cq6 (fun K hK => ?_)
          refine goes_ Tryz.func27 cq3 rfl #[.slice A1 l.length c1] cq60 rfl rfl (by simp only [List.map_toArray, List.map_cons, List.map_nil]; rfl) ?_
          with_reducible refine (CC.out).mono ?_
          rintro e w5 ⟨v5, rfl, ho5, hb5⟩
          obtain ⟨A5, c5, rfl⟩ := own_slice ho5
          have HO5 := qA ho5
          have HB5 := qA hb5
          have H5 := qA (HP.out.drew.below hb5)
          clear ho5 hb5
          refine ⟨_, rfl, ?_⟩
          refine hK.out _ _ ((pw_cell_below HB5.out hHeld)) (fun hHeld => ?_)
          clear hK K
          refine norm_ (a' := ?_) ?_ ?_
          rotate_left
          · show Act.put _ (some 49) _ = _
            simp only [Act.put, qS, qZ, qN, i64_w, i32_w]
            rfl
          refine one_ (i := 7) (N := some 50) #[true, true, true, true, true, true, true, true, false, false, false, false] rfl rfl cq3 cq6 (fun K hK => ?_)
          refine value_ (w1 := ?_) (v := ?_) cq60 rfl ?_ ?_
          rotate_left 2
          · go_simp
            constructor
            · rfl
            · rfl
          refine hK.out _ _ ((pw_cell_below (below_alloc (Below.refl _ _) _) hHeld)) (fun hHeld => ?_)
          clear hK K
          refine norm_ (a' := ?_) ?_ ?_
          rotate_left
          · show Act.put _ (some 50) _ = _
            simp only [Act.put, qS, qZ, qN, i64_w, i32_w]
            rfl
          refine last_ (i := 8) (N := some 51) #[true, true, true, true, true, true, true, true, true, false, false, false] rfl rfl cq3 cq6 (fun K hK => ?_)
          refine step_append_lies _ rfl _ _ 22 rfl w0.heap.size 44 i35 (.slice none 0 0) 1 24 Tryz.underlying22 I35.out.1 I35.out.2.1 I35.out.2.2.1 I35.out.2.2.2 rfl cq6 nv rows.length vals cq60 (H5.out.nvo.alloc _) ⟨w5.heap.size, 0, none⟩ 1 1 [.slice A5 C.length c5] cq60 rfl (cells_lit1 w5 _ 44) (by intro u hu; simp at hu; subst hu; rfl) cq6 LM.out.1 LM.out.2 (Nat.le_trans H5.out.fr.size cq23) _ rfl ?_
          intro kq cq w8 hown hg hat hlt
          have H9 := qA (HP.out.drew.push (below_alloc HB5.out _) C _ (HO5.out.alloc _) hg hown)
          have G8 := (H5.out.below (below_alloc (Below.refl _ _) (.cells #[.slice A5 C.length c5] 44))).grow_g hg
          have xg : w8.cell? ⟨g, 0, none⟩ = some nv := G8.cell cq6
          have fg : w8.frozen? ⟨g, 0, none⟩ = false := G8.frozen 0
          clear hg hown hat hlt G8
          refine hK.out _ _ ?_
          clear hK K
          refine norm_ (a' := ?_) ?_ ?_
          rotate_left
          · show Act.put _ (some 51) _ = _
            simp only [Act.put, qS, qZ, qN, i64_w, i32_w]
            rfl
          refine pure_ (i := 9) (N := some 52) (v := ?_) (a' := ?_) #[true, true, true, true, true, true, true, true, true, true, false, false] rfl rfl cq3 (fun _ _ _ h => h) (Or.inl ⟨by rfl, ?_⟩) ?_ ?_
          rotate_left
          · intro w'
            go_simp
            with_reducible rfl
          rotate_left
          · simp only [Act.put, qS, qZ, qN, i64_w, i32_w]
            rfl
          refine pure_ (i := 10) (N := some 53) (v := ?_) (a' := ?_) #[true, true, true, true, true, true, true, true, true, true, true, false] rfl rfl cq3 (fun _ _ _ h => h) (Or.inl ⟨by rfl, ?_⟩) ?_ ?_
          rotate_left
          · intro w'
            go_simp
            with_reducible rfl
          rotate_left
          · simp only [Act.put, qS, qZ, qN, i64_w, i32_w]
            rfl
          refine last_ (i := 11) (N := none) #[true, true, true, true, true, true, true, true, true, true, true, true] rfl rfl cq3 cq6 (fun K hK => ?_)
          refine skip_ (w1 := ?_) cq60 rfl ?_ ?_
          rotate_left
          · go_simp
            rfl
          refine hK.out _ _ ?_
          clear hK K
          refine done_ cq3 ?_


          go_wp2
          go_roundw
          case rel => exact ⟨k + 1, .slice (some ⟨kq, 0, none⟩) (rows.length + 1) cq, vals ++ [.slice A5 C.length c5], hkN, by rw [q3], ⟨by rw [ERW.out]; exact H9.out⟩, ⟨fun i hi hik x hx => by
            by_cases e : i = k
            · subst e; rw [← EL.out] at hx; exact GL.out x hx
            · exact HG.out i hi (Nat.lt_of_le_of_ne (Nat.le_of_lt_succ hik) e) x hx⟩⟩
          case measure => rw [q3]; exact pt_meas hkN
    · obtain rfl := pt_end hk hkN
      have hok : okB l0 = true := List.all_eq_true.2 (fun l hl => List.all_eq_true.2 (fun x hx => by
        obtain ⟨i, hi, rfl⟩ := List.getElem_of_mem hl
        have := HG.out i hi hi x hx
        rw [Bool.and_eq_true, decide_eq_true_eq, decide_eq_true_eq]
        exact this))
      have OK := qA hok
      have hnl : ¬ ((l0.length : Int) < (l0.length : Int)) := Int.lt_irrefl _
      clear hok
      go_wp2
      (try simp only [Exit.then])
      refine HK2.out _ _ ?_
      exact wp_fp ⟨rfl, rfl, rfl, rfl⟩ (fun uu => T2.out wr nv vals HP.out OK.out uu)
theorem info4' : (Tryz.prog.info? 4).map (fun i => (i.zero, i.size, i.bytes)) = some (some (.bool false), 1, 1) := by kernel_rfl
theorem row_made {w : World} {b t N : Nat} {z : Value} (h : w.heap[b]? = some (.cells (madeCells #[z] N) t (0, 0))) : w.rowIs b t N (fun _ => z) :=
  ⟨_, h, size_madeCells _ _, fun i hi => by simp [madeCells, hi, Nat.mod_one]⟩
theorem size_al (W : World) (o : Obj) : (W.alloc o).heap.size = W.heap.size + 1 := by simp
theorem hblk_new (W : World) (o : Obj) : (W.alloc o).heap[W.heap.size]? = some o := Deep.blk_alloc_new _ _
theorem hblk_old {W : World} {k : Nat} {o : Obj} (h : W.heap[k]? = some o) (o' : Obj) : (W.alloc o').heap[k]? = some o := by
  rw [Deep.blk_alloc_lt _ _ _ (Array.getElem?_eq_some_iff.1 h).1]; exact h
theorem al4 (W : World) (o1 o2 o3 o4 : Obj) : ((((W.alloc o1).alloc o2).alloc o3).alloc o4).drew.heap[W.heap.size + 1 + 1 + 1]? = some o4 := by
  have := hblk_new (((W.alloc o1).alloc o2).alloc o3) o4
  rw [size_al, size_al, size_al] at this
  exact this
theorem al3 (W : World) (o1 o2 o3 o4 : Obj) : ((((W.alloc o1).alloc o2).alloc o3).alloc o4).drew.heap[W.heap.size + 1 + 1]? = some o3 := by
  have := hblk_old (hblk_new ((W.alloc o1).alloc o2) o3) o4
  rw [size_al, size_al] at this
  exact this
theorem al2 (W : World) (o1 o2 o3 o4 : Obj) : ((((W.alloc o1).alloc o2).alloc o3).alloc o4).drew.heap[W.heap.size + 1]? = some o2 := by
  have := hblk_old (hblk_old (hblk_new (W.alloc o1) o2) o3) o4
  rw [size_al] at this
  exact this
theorem al1 (W : World) (o1 o2 o3 o4 : Obj) : ((((W.alloc o1).alloc o2).alloc o3).alloc o4).drew.heap[W.heap.size]? = some o1 :=
  hblk_old (hblk_old (hblk_old (hblk_new W o1) o2) o3) o4
theorem below4 (W : World) (o1 o2 o3 o4 : Obj) : Below W.heap.size W ((((W.alloc o1).alloc o2).alloc o3).alloc o4).drew := below_drew <| below_alloc (below_alloc (below_alloc (below_alloc (Below.refl _ _) _) _) _) _
theorem made_pb {w w' : World} {g bw bl bo N : Nat} (hg : w'.heap[g]? = some (.cells #[nilV, rowV bw N, rowV bl N, nilV, rowV bo N, nilV, nilV] 68 (0, 0))) (hw : w'.heap[bw]? = some (.cells (madeCells #[.int .i64 0] N) 3 (0, 0))) (hl : w'.heap[bl]? = some (.cells (madeCells #[.int .i64 0] N) 3 (0, 0))) (ho : w'.heap[bo]? = some (.cells (madeCells #[.bool false] N) 4 (0, 0)))
    (hd : bw ≠ bl) (hge : w.heap.size ≤ g ∧ w.heap.size ≤ bw ∧ w.heap.size ≤ bl ∧ w.heap.size ≤ bo) (hb : Below w.heap.size w w') : PB w w' g bw bl bo N nilV [] [] :=
  ⟨⟨_, hg, rfl, fun i hi => by
    match i, hi with
    | 0, _ => rfl
    | 1, _ => rfl
    | 2, _ => rfl
    | 3, _ => rfl
    | 4, _ => rfl
    | 5, _ => rfl
    | 6, _ => rfl⟩, row_made hw, row_made hl, row_made ho, hd, World.ownsRow_nil _ _ _ _, fun v hv => absurd hv (Nat.not_lt_zero v), fun v hv => absurd hv (Nat.not_lt_zero v), hge, hb⟩
theorem parts_calls (w : World) (A0 : Option Addr) (c0 : Nat) (l0 : List (List Int)) (hC : Kd.C (Kd.slice 3 (Kd.int .i64)) w A0 l0.length l0) (hc : l0.length ≤ c0) (hnet : netOk l0 = true) :
    Calls Tryz.prog 9 #[.slice A0 l0.length c0] w (PSpec w l0) := by
  have hnet' := hnet
  unfold netOk at hnet'
  rw [Bool.and_eq_true, decide_eq_true_eq] at hnet'
  obtain ⟨hN, _⟩ := hnet'
  obtain ⟨N, eN⟩ : ∃ N, N = l0.length := ⟨_, rfl⟩
  have hN' : N ≤ 5864062014805 := by rw [eN]; exact hN
  have hmk := run_make_row' (P := Tryz.prog) 44 3 (.int .i64 0) 8 Tryz.underlying44 info3 rfl .i64 .i64 N cq2 cq2
  have hmb := run_make_row' (P := Tryz.prog) 33 4 (.bool false) 1 Tryz.underlying33 info4' rfl .i64 .i64 N cq2 cq2
  have EN := qA eN
  have T := qA (fun (W : World) (g bw bl bo : Nat) (hP : PB w W g bw bl bo l0.length nilV [] []) (uu : Nat → Value) => parts_tail w W A0 c0 l0 g bw bl bo hC hc hP hnet uu)
  rw [← eN] at T
  rw [← eN]
  clear hC hc hnet hN hN' eN
  go_enter Tryz.func9, Tryz.ntmps9
  go_wp2
  rename_i K1 a1
  have HA := qA (fun (a' : Act) (W : World) (g bw bl bo : Nat) (ha : FP A0 N c0 g a') (hP : PB w W g bw bl bo N nilV [] []) => a1 a' W (wp_fp ha (fun uu => T.out W g bw bl bo hP uu)))
  clear a1 T
  have PD := qA (show True ∧ w.heap.size ≠ w.heap.size + 1 ∧ w.heap.size ≠ w.heap.size + 1 + 1 ∧ w.heap.size + 1 ≠ w.heap.size + 1 + 1 from ⟨trivial, by omega, by omega, by omega⟩)
  have PD012 := qA (show w.heap.size ≤ w.heap.size + 1 + 1 + 1 ∧ w.heap.size ≤ w.heap.size ∧ w.heap.size ≤ (w.heap.size + 1) ∧ w.heap.size ≤ (w.heap.size + 1 + 1) from ⟨by omega, by omega, by omega, by omega⟩)
  have PD021 := qA (show w.heap.size ≤ w.heap.size + 1 + 1 + 1 ∧ w.heap.size ≤ w.heap.size ∧ w.heap.size ≤ (w.heap.size + 1 + 1) ∧ w.heap.size ≤ (w.heap.size + 1) from ⟨by omega, by omega, by omega, by omega⟩)
  have PD102 := qA (show w.heap.size ≤ w.heap.size + 1 + 1 + 1 ∧ w.heap.size ≤ (w.heap.size + 1) ∧ w.heap.size ≤ w.heap.size ∧ w.heap.size ≤ (w.heap.size + 1 + 1) from ⟨by omega, by omega, by omega, by omega⟩)
  have PD120 := qA (show w.heap.size ≤ w.heap.size + 1 + 1 + 1 ∧ w.heap.size ≤ (w.heap.size + 1) ∧ w.heap.size ≤ (w.heap.size + 1 + 1) ∧ w.heap.size ≤ w.heap.size from ⟨by omega, by omega, by omega, by omega⟩)
  have PD201 := qA (show w.heap.size ≤ w.heap.size + 1 + 1 + 1 ∧ w.heap.size ≤ (w.heap.size + 1 + 1) ∧ w.heap.size ≤ w.heap.size ∧ w.heap.size ≤ (w.heap.size + 1) from ⟨by omega, by omega, by omega, by omega⟩)
  have PD210 := qA (show w.heap.size ≤ w.heap.size + 1 + 1 + 1 ∧ w.heap.size ≤ (w.heap.size + 1 + 1) ∧ w.heap.size ≤ (w.heap.size + 1) ∧ w.heap.size ≤ w.heap.size from ⟨by omega, by omega, by omega, by omega⟩)
  go_region_with (fail)
  all_goals (try simp only [Exit.then])
  all_goals first
    | exact HA.out _ _ (w.heap.size + 1 + 1 + 1) w.heap.size (w.heap.size + 1) (w.heap.size + 1 + 1) ⟨rfl, rfl, rfl, rfl⟩ (made_pb (al4 w _ _ _ _) (al1 w _ _ _ _) (al2 w _ _ _ _) (al3 w _ _ _ _) PD.out.2.1 PD012.out (below4 w _ _ _ _))
    | exact HA.out _ _ (w.heap.size + 1 + 1 + 1) w.heap.size (w.heap.size + 1 + 1) (w.heap.size + 1) ⟨rfl, rfl, rfl, rfl⟩ (made_pb (al4 w _ _ _ _) (al1 w _ _ _ _) (al3 w _ _ _ _) (al2 w _ _ _ _) PD.out.2.2.1 PD021.out (below4 w _ _ _ _))
    | exact HA.out _ _ (w.heap.size + 1 + 1 + 1) (w.heap.size + 1) w.heap.size (w.heap.size + 1 + 1) ⟨rfl, rfl, rfl, rfl⟩ (made_pb (al4 w _ _ _ _) (al2 w _ _ _ _) (al1 w _ _ _ _) (al3 w _ _ _ _) PD.out.2.1.symm PD102.out (below4 w _ _ _ _))
    | exact HA.out _ _ (w.heap.size + 1 + 1 + 1) (w.heap.size + 1) (w.heap.size + 1 + 1) w.heap.size ⟨rfl, rfl, rfl, rfl⟩ (made_pb (al4 w _ _ _ _) (al2 w _ _ _ _) (al3 w _ _ _ _) (al1 w _ _ _ _) PD.out.2.2.2 PD120.out (below4 w _ _ _ _))
    | exact HA.out _ _ (w.heap.size + 1 + 1 + 1) (w.heap.size + 1 + 1) w.heap.size (w.heap.size + 1) ⟨rfl, rfl, rfl, rfl⟩ (made_pb (al4 w _ _ _ _) (al3 w _ _ _ _) (al1 w _ _ _ _) (al2 w _ _ _ _) PD.out.2.2.1.symm PD201.out (below4 w _ _ _ _))
    | exact HA.out _ _ (w.heap.size + 1 + 1 + 1) (w.heap.size + 1 + 1) (w.heap.size + 1) w.heap.size ⟨rfl, rfl, rfl, rfl⟩ (made_pb (al4 w _ _ _ _) (al3 w _ _ _ _) (al2 w _ _ _ _) (al1 w _ _ _ _) PD.out.2.2.2.symm PD210.out (below4 w _ _ _ _))
end Go.Proofs.YtligpleningglaaGreat.Cw
