/- calls.Parts, walked. -/
import Derived.Test.YtligpleningglaaPs
import Derived.Deep.RegionWith
namespace Go.Proofs.Ytligpleningglaa.Cw
open Go Go.RowKit Go.Proofs.Ytligpleningglaa.Tarjan Go.Proofs.YtligpleningglaaW.PrintWords Go.Proofs.YtligpleningglaaW.PrintLast Go.Proofs.YtligpleningglaaW.PrintMore Go.Proofs.Ytligpleningglaa.F
attribute [local go_sem] max2_int min2_int max_two min_two max_three min_three
set_option linter.unusedVariables false
set_option linter.unusedSimpArgs false
/-- the edges of a net, each once, rising. -/
def nxc (l0 : List (List Int)) (v : Nat) : List Nat := cmpN ((l0.getD v []).map Int.toNat)
def okB (l0 : List (List Int)) : Bool := l0.all fun l => l.all fun k => decide (0 ≤ k) && decide (k < (l0.length : Int))
/-- calls.Parts, plainly. -/
def partsZ (l0 : List (List Int)) : List (List Int) := (partsP cmpN (nxc l0) l0.length).map fun l => l.map Int.ofNat
def resP (l0 : List (List Int)) : List (List Int) × Int := if okB l0 then (partsZ l0, 0) else ([], 4)
/-- as large as memory lets a net be. -/
def netOk (l0 : List (List Int)) : Bool := decide (l0.length ≤ 5864062014805) && l0.all fun l => decide (l.length ≤ 17592186044416)
def PSpec (w : World) (l0 : List (List Int)) (e : Ending) (w' : World) : Prop := ∃ v0_ : Value, e = .returned (.tuple #[v0_, .int .i64 (resP l0).2]) ∧ Kd.S (Kd.slice 3 (Kd.int .i64)) 35 w' w.heap.size (fun _ => True) v0_ (resP l0).1 ∧ Below w.heap.size w w'
noncomputable def ptTail : Code := sndC (sndC (bodyC Try.f10))
noncomputable def ptTail2 : Code := sndC ptTail
theorem cmpZ_up {xs : List Int} (h : ∀ x ∈ xs, 0 ≤ x) : cmpZ xs = (cmpN (xs.map Int.toNat)).map Int.ofNat := by
  rw [cmpN_up, List.map_map]
  have : ∀ x ∈ xs, (Int.ofNat ∘ Int.toNat) x = x := fun x hx => by
    have := h x hx
    show Int.ofNat x.toNat = x
    exact Int.toNat_of_nonneg this
  rw [List.map_congr_left this, List.map_id']
theorem compactN_calls (w : World) (A : Option Addr) (c : Nat) (xs : List Int) (h : Kd.C (Kd.int .i64) w A xs.length xs) (hc : xs.length ≤ c) (hbig : xs.length ≤ 17592186044416) (hp : ∀ x ∈ xs, 0 ≤ x) :
    Calls Try.prog 22 #[.slice A xs.length c] w fun e w' => ∃ v', e = .returned v' ∧ w'.ownsRow w.heap.size 3 1 v' (cmpN (xs.map Int.toNat)).length (ints (cmpN (xs.map Int.toNat))) ∧ Below w.heap.size w w' := by
  refine (compact_calls w A c xs h hc hbig).mono ?_
  rintro e w' ⟨v', rfl, ho, hb⟩
  refine ⟨v', rfl, ?_, hb⟩
  rw [cmpZ_up hp, List.length_map, List.map_map] at ho
  exact ho
theorem PB.drew {w0 w : World} {g bw bl bo N : Nat} {nv : Value} {vals : List Value} {rows : List (List Nat)} (h : PB w0 w g bw bl bo N nv vals rows) : PB w0 w.drew g bw bl bo N nv vals rows := h.below (Below.refl _ _).drew
theorem PB.grow_g {w0 w w' : World} {g bw bl bo N : Nat} {nv : Value} {vals : List Value} {rows : List (List Nat)} (h : PB w0 w g bw bl bo N nv vals rows) (hg : w.grownBy w' nv.ownBlock) : w'.rowIs g 49 7 (pbF bw bl bo N nv) :=
  h.gs.of_block (hg.block g h.gs.lt (fun e => own_row_ne h.nvo h.gs (by decide) e.symm))
/-- the rows of edges that were laid. -/
def rowsN (l0 : List (List Int)) (i : Nat) : List (List Nat) := (l0.take i).map fun l => cmpN (l.map Int.toNat)
theorem rowsN_len {l0 : List (List Int)} {i : Nat} (h : i ≤ l0.length) : (rowsN l0 i).length = i := by unfold rowsN; rw [List.length_map, List.length_take]; omega
theorem rowsN_next {l0 : List (List Int)} {i : Nat} (h : i < l0.length) : rowsN l0 (i + 1) = rowsN l0 i ++ [cmpN ((l0[i]).map Int.toNat)] := by
  unfold rowsN; rw [List.take_succ_eq_append_getElem h, List.map_append]; rfl
theorem rowsN_all (l0 : List (List Int)) (v : Nat) (hv : v < l0.length) : nxc l0 v = (rowsN l0 l0.length).getD v [] := by
  unfold nxc rowsN
  rw [List.take_length, List.getD_eq_getElem?_getD, List.getD_eq_getElem?_getD, List.getElem?_map, List.getElem?_eq_getElem hv]; rfl
theorem nxc_lt {l0 : List (List Int)} (h : okB l0 = true) : ∀ v, ∀ x ∈ nxc l0 v, x < l0.length := by
  intro v x hx
  unfold nxc at hx
  rw [cmpN_mem, List.mem_map] at hx
  obtain ⟨k, hk, rfl⟩ := hx
  rw [List.getD_eq_getElem?_getD] at hk
  cases hv : l0[v]? with
  | none => rw [hv] at hk; cases hk
  | some l =>
    rw [hv] at hk
    have hl := List.mem_of_getElem? hv
    have h1 := List.all_eq_true.1 (List.all_eq_true.1 h l hl) k hk
    simp at h1
    omega
theorem nxc_len {l0 : List (List Int)} (h : okB l0 = true) (v : Nat) : (nxc l0 v).length ≤ l0.length := by
  have := parts_len (a := nxc l0 v) (b := List.range l0.length) (cmpN_lt _) (fun x hx => List.mem_range.2 (nxc_lt h v x hx))
  rwa [List.length_range] at this
theorem pt_one {k N : Nat} (hN : N ≤ 5864062014805) (h : k < N) : 0 ≤ (k : Int) ∧ (k : Int) < (N : Int) ∧ wrap64 ((k : Int) + 1) = ((k + 1 : Nat) : Int) := ⟨by omega, by omega, by unfold wrap64; omega⟩
theorem pt_two {k N : Nat} (hN : N ≤ 17592186044416) (h : k < N) : 0 ≤ (k : Int) ∧ (k : Int) < (N : Int) ∧ wrap64 ((k : Int) + 1) = ((k + 1 : Nat) : Int) := ⟨by omega, by omega, by unfold wrap64; omega⟩
theorem pt_meas {k N : Nat} (h : k < N) : N - (k + 1) < N - k := by omega
theorem pt_end {k N : Nat} (h : k ≤ N) (h2 : ¬ k < N) : k = N := by omega
set_option maxHeartbeats 2000000 in
set_option maxRecDepth 100000 in
theorem parts_tail2 (w0 w : World) (A0 : Option Addr) (c0 : Nat) (l0 : List (List Int)) (g bw bl bo : Nat) (nv : Value) (vals : List Value) (hP : PB w0 w g bw bl bo l0.length nv vals (rowsN l0 l0.length)) (hok : okB l0 = true) (hN : l0.length ≤ 5864062014805) (uu : Nat → Value) :
    Code.wp Try.prog ptTail2 (bodyPost Try.prog Try.f10 (PSpec w0 l0)) ({ tmps := ((.slice A0 l0.length c0 : Value) :: uu 1 :: uu 2 :: uu 3 :: (.pointer (some ⟨g, 0, none⟩) : Value) :: uu 5 :: uu 6 :: uu 7 :: uu 8 :: uu 9 :: uu 10 :: uu 11 :: uu 12 :: uu 13 :: uu 14 :: uu 15 :: uu 16 :: uu 17 :: uu 18 :: uu 19 :: uu 20 :: uu 21 :: uu 22 :: uu 23 :: uu 24 :: uu 25 :: uu 26 :: uu 27 :: uu 28 :: uu 29 :: uu 30 :: uu 31 :: uu 32 :: uu 33 :: uu 34 :: uu 35 :: uu 36 :: uu 37 :: uu 38 :: uu 39 :: uu 40 :: uu 41 :: uu 42 :: uu 43 :: uu 44 :: uu 45 :: uu 46 :: uu 47 :: uu 48 :: uu 49 :: uu 50 :: uu 51 :: uu 52 :: uu 53 :: uu 54 :: uu 55 :: uu 56 :: uu 57 :: uu 58 :: uu 59 :: uu 60 :: uu 61 :: uu 62 :: uu 63 :: uu 64 :: uu 65 :: uu 66 :: uu 67 :: uu 68 :: uu 69 :: uu 70 :: uu 71 :: uu 72 :: uu 73 :: uu 74 :: uu 75 :: []).toArray, defers := [] } : Act) w := by
  obtain ⟨hS, hX⟩ := start_mm hP (rowsN_len (Nat.le_refl _)) (nxc l0) (fun v hv => rowsN_all l0 v hv)
  obtain ⟨w1, ew1⟩ : ∃ w1, w1 = w.alloc (.cells #[.int .i64 0] 3) := ⟨_, rfl⟩
  obtain ⟨p, ep⟩ : ∃ p : Pl, p = ⟨g, bw, bl, bo, w.heap.size, l0.length, w.heap.size + 1, nv⟩ := ⟨_, rfl⟩
  have HS := Aside0.mk (show Ws w0 w1 p w1 (mm startP nilV nilV nilV []) by rw [ew1, ep]; exact hS)
  have HX := Aside0.mk (show NX p (nxc l0) w1 vals by rw [ew1, ep]; exact hX)
  have EW := Aside0.mk ew1
  have EP := Aside0.mk (show p.g = g ∧ p.bn = w.heap.size ∧ p.N = l0.length by rw [ep]; exact ⟨rfl, rfl, rfl⟩)
  have HOK := Aside0.mk hok
  clear hP hS hX ew1 ep hok
  obtain ⟨code, hcode⟩ : ∃ code, ptTail2 = code := ⟨_, rfl⟩
  rw [hcode]
  unfold ptTail2 ptTail Try.f10 at hcode
  dsimp only [bodyC, sndC, Option.getD] at hcode
  subst hcode
  go_wp2
  rw [← EW.out]
  simp only [← EP.out.1, ← EP.out.2.1]
  obtain ⟨N, hNN⟩ : ∃ N, N = l0.length := ⟨_, rfl⟩
  have EN := Aside0.mk (show p.N = N by rw [hNN]; exact EP.out.2.2)
  have NXL := Aside0.mk (show (∀ v, ∀ x ∈ nxc l0 v, x < p.N) ∧ (∀ v, (nxc l0 v).length ≤ 5864062014805) ∧ p.N ≤ 5864062014805 from ⟨by rw [EP.out.2.2]; exact nxc_lt HOK.out, fun v => Nat.le_trans (nxc_len HOK.out v) hN, by rw [EP.out.2.2]; exact hN⟩)
  have ER := Aside0.mk (show partsZ l0 = (uptoP cmpN (nxc l0) p.N p.N).parts.map (fun l => l.map Int.ofNat) by rw [EP.out.2.2]; rfl)
  have NB := Aside0.mk (show N ≤ 5864062014805 by rw [hNN]; exact hN)
  have RP := Aside0.mk (show resP l0 = (partsZ l0, 0) by unfold resP; rw [HOK.out]; rfl)
  simp only [← hNN]
  clear hNN hN EP EW HOK
  go_loopw [57] (fun v57 wr => ∃ k : Nat, k ≤ N ∧ v57 = .int .i64 (k : Int) ∧ Aside0 (∃ rv wv pv ps, Ws w0 w1 p wr (mm (uptoP cmpN (nxc l0) p.N k) rv wv pv ps))) (fun v57 _ => N - (intOf v57).toNat)
  case atStart => exact ⟨0, Nat.zero_le _, rfl, ⟨nilV, nilV, nilV, [], HS.out⟩⟩
  case round =>
    obtain ⟨k, hk, rfl, HR⟩ := hrel
    obtain ⟨rv, wv, pv, ps, HW⟩ := HR.out
    clear HR HS
    by_cases hkN : k < N
    · obtain ⟨q1, q2, q3⟩ := pt_one NB.out hkN
      have hkp : k < p.N := by rw [EN.out]; exact hkN
      obtain ⟨I, hway, hmt⟩ := upto_ok cmpN_mem NXL.out.1 k (Nat.le_of_lt hkp)
      obtain ⟨st, hst⟩ : ∃ st, st = uptoP cmpN (nxc l0) p.N k := ⟨_, rfl⟩
      have B := Bd.upto cmpN_mem NXL.out.1 k (Nat.le_of_lt hkp)
      have SU := Aside0.mk (show uptoP cmpN (nxc l0) p.N (k + 1) = fromP cmpN (nxc l0) p.N k st by rw [hst]; exact uptoP_succ _ _ _ _)
      rw [← hst] at I hway B HW
      have HWA := Aside0.mk HW
      have x1 : wr.cell? ⟨p.g, 1, none⟩ = some (.slice (some ⟨p.bw, 0, none⟩) p.N p.N) := HW.c1
      have xw : wr.cell? ⟨p.bw, k, none⟩ = some (.int .i64 (st.wh k : Nat)) := HW.ws.cell hkp
      have q4 : (k : Int) < (p.N : Int) := by rw [EN.out]; exact q2
      by_cases hm : st.wh k = 0
      · have F := Aside0.mk (from_calls (nxc l0) w0 w1 wr p st rv wv pv ps vals k HW HX.out I hway B hkp hm NXL.out.1 NXL.out.2.1 NXL.out.2.2)
        have hm' : ((st.wh k : Nat) : Int) = 0 := by rw [hm]; rfl
        clear hst I hway B HW hmt
        go_wp2_with (go_at_call 23; refine F.out.mono ?_; rintro e w3 ⟨rfl, h3⟩; have H3 := Aside0.mk h3; clear h3)
        go_roundw
        case rel => exact ⟨k + 1, hkN, by rw [q3], ⟨by rw [SU.out]; exact H3.out⟩⟩
        case measure => rw [q3]; exact pt_meas hkN
      · have hm' : ¬ ((st.wh k : Nat) : Int) = 0 := fun e => hm (by exact_mod_cast e)
        clear hst I hway B HW hmt
        go_wp2
        go_roundw
        case rel => exact ⟨k + 1, hkN, by rw [q3], ⟨⟨rv, wv, pv, ps, by rw [SU.out]; unfold fromP; rw [if_neg hm]; exact HWA.out⟩⟩⟩
        case measure => rw [q3]; exact pt_meas hkN
    · obtain rfl := pt_end hk hkN
      have x6 : wr.cell? ⟨p.g, 6, none⟩ = some pv := HW.c6
      have HWA := Aside0.mk HW
      have hnl : ¬ ((k : Int) < (k : Int)) := Int.lt_irrefl _
      clear HW HX
      go_wp2
      go_ret2
      have hW := HWA.out
      rw [← EN.out] at hW
      unfold PSpec
      rw [RP.out]
      refine ⟨pv, rfl, ?_, hW.fr⟩
      show Kd.S _ 35 wr w0.heap.size (fun _ => True) pv (partsZ l0)
      rw [ER.out]
      have hl : ((uptoP cmpN (nxc l0) p.N p.N).parts.map (fun l => l.map Int.ofNat)).length = (uptoP cmpN (nxc l0) p.N p.N).parts.length := List.length_map ..
      refine S_rows (by rw [hl]; exact own_weaken hW.pr hW.sz.1) (fun j hj => ?_) (fun i j hij hj => hW.pa i j hij (by rw [hl] at hj; exact hj))
      rw [hl] at hj
      have hp := own_weaken (hW.pp j hj) hW.sz.1
      have e : ((uptoP cmpN (nxc l0) p.N p.N).parts.map (fun l => l.map Int.ofNat)).getD j [] = ((uptoP cmpN (nxc l0) p.N p.N).parts.getD j []).map Int.ofNat := by
        rw [List.getD_eq_getElem?_getD, List.getD_eq_getElem?_getD, List.getElem?_map, List.getElem?_eq_getElem hj]; rfl
      rw [e, List.length_map, List.map_map]
      exact hp
def FP (A0 : Option Addr) (n c0 g : Nat) (a : Act) : Prop := a.defers = [] ∧ a.tmps.size = 76 ∧ a.tmps.toList.getD 0 undef = .slice A0 n c0 ∧ a.tmps.toList.getD 4 undef = .pointer (some ⟨g, 0, none⟩)
set_option maxHeartbeats 2000000 in
set_option maxRecDepth 100000 in
theorem wp_fp {A0 : Option Addr} {n c0 g : Nat} {code : Code} {Q : Exit → Act → World → Prop} {w : World} {a : Act} (h : FP A0 n c0 g a) (k : ∀ uu : Nat → Value, Code.wp Try.prog code Q ({ tmps := ((.slice A0 n c0 : Value) :: uu 1 :: uu 2 :: uu 3 :: (.pointer (some ⟨g, 0, none⟩) : Value) :: uu 5 :: uu 6 :: uu 7 :: uu 8 :: uu 9 :: uu 10 :: uu 11 :: uu 12 :: uu 13 :: uu 14 :: uu 15 :: uu 16 :: uu 17 :: uu 18 :: uu 19 :: uu 20 :: uu 21 :: uu 22 :: uu 23 :: uu 24 :: uu 25 :: uu 26 :: uu 27 :: uu 28 :: uu 29 :: uu 30 :: uu 31 :: uu 32 :: uu 33 :: uu 34 :: uu 35 :: uu 36 :: uu 37 :: uu 38 :: uu 39 :: uu 40 :: uu 41 :: uu 42 :: uu 43 :: uu 44 :: uu 45 :: uu 46 :: uu 47 :: uu 48 :: uu 49 :: uu 50 :: uu 51 :: uu 52 :: uu 53 :: uu 54 :: uu 55 :: uu 56 :: uu 57 :: uu 58 :: uu 59 :: uu 60 :: uu 61 :: uu 62 :: uu 63 :: uu 64 :: uu 65 :: uu 66 :: uu 67 :: uu 68 :: uu 69 :: uu 70 :: uu 71 :: uu 72 :: uu 73 :: uu 74 :: uu 75 :: []).toArray, defers := [] } : Act) w) : Code.wp Try.prog code Q a w := by
  obtain ⟨tm, df⟩ := a
  obtain ⟨l⟩ := tm
  obtain ⟨h0, h1, h2, h5⟩ := h
  obtain rfl : df = [] := h0
  have e : l = (List.range 76).map fun i => l.getD i undef := by
    have := list_fn l
    rw [show l.length = 76 from h1] at this
    exact this
  obtain ⟨uu, hu⟩ : ∃ uu : Nat → Value, uu = fun i => l.getD i undef := ⟨_, rfl⟩
  have q0 : uu 0 = .slice A0 n c0 := by rw [hu]; exact h2
  have q6 : uu 4 = .pointer (some ⟨g, 0, none⟩) := by rw [hu]; exact h5
  rw [← hu] at e
  have h7 := k uu
  rw [← q0, ← q6] at h7
  rw [e]
  exact h7
set_option maxHeartbeats 2000000 in
set_option maxRecDepth 100000 in
theorem parts_tail (w0 w : World) (A0 : Option Addr) (c0 : Nat) (l0 : List (List Int)) (g bw bl bo : Nat) (hC : Kd.C (Kd.slice 3 (Kd.int .i64)) w0 A0 l0.length l0) (hc : l0.length ≤ c0) (hP : PB w0 w g bw bl bo l0.length nilV [] []) (hnet : netOk l0 = true) (uu : Nat → Value) :
    Code.wp Try.prog ptTail (bodyPost Try.prog Try.f10 (PSpec w0 l0)) ({ tmps := ((.slice A0 l0.length c0 : Value) :: uu 1 :: uu 2 :: uu 3 :: (.pointer (some ⟨g, 0, none⟩) : Value) :: uu 5 :: uu 6 :: uu 7 :: uu 8 :: uu 9 :: uu 10 :: uu 11 :: uu 12 :: uu 13 :: uu 14 :: uu 15 :: uu 16 :: uu 17 :: uu 18 :: uu 19 :: uu 20 :: uu 21 :: uu 22 :: uu 23 :: uu 24 :: uu 25 :: uu 26 :: uu 27 :: uu 28 :: uu 29 :: uu 30 :: uu 31 :: uu 32 :: uu 33 :: uu 34 :: uu 35 :: uu 36 :: uu 37 :: uu 38 :: uu 39 :: uu 40 :: uu 41 :: uu 42 :: uu 43 :: uu 44 :: uu 45 :: uu 46 :: uu 47 :: uu 48 :: uu 49 :: uu 50 :: uu 51 :: uu 52 :: uu 53 :: uu 54 :: uu 55 :: uu 56 :: uu 57 :: uu 58 :: uu 59 :: uu 60 :: uu 61 :: uu 62 :: uu 63 :: uu 64 :: uu 65 :: uu 66 :: uu 67 :: uu 68 :: uu 69 :: uu 70 :: uu 71 :: uu 72 :: uu 73 :: uu 74 :: uu 75 :: []).toArray, defers := [] } : Act) w := by
  have hnet' := hnet
  unfold netOk at hnet'
  rw [Bool.and_eq_true, decide_eq_true_eq, List.all_eq_true] at hnet'
  obtain ⟨hN, hrow⟩ := hnet'
  have HROW := Aside0.mk (show ∀ i (h : i < l0.length), (l0[i]).length ≤ 17592186044416 from fun i h => by simpa using hrow _ (List.getElem_mem h))
  have HC := Aside0.mk hC
  have HP0 := Aside0.mk hP
  have NB := Aside0.mk hN
  obtain ⟨i35, hi35, hz35⟩ := Option.map_eq_some_iff.1 info35
  simp only [Prod.mk.injEq] at hz35
  obtain ⟨z35a, z35b, z35c⟩ := hz35
  have I35 := Aside0.mk (show Try.prog.info? 35 = some i35 ∧ i35.zero = some (.slice none 0 0) ∧ i35.size = 1 ∧ i35.bytes = 24 from ⟨hi35, z35a, z35b, z35c⟩)
  have HE := Aside0.mk (fun (w' : World) (h : okB l0 = false) (hb : Below w0.heap.size w0 w') => (⟨.slice none 0 0, by unfold resP; rw [h]; rfl, by unfold resP; rw [h]; exact Kd.S_nil _ _ _ _ _, hb⟩ : PSpec w0 l0 (.returned (.tuple #[.slice none 0 0, .int .i64 4])) w'))
  have T2 := Aside0.mk (fun (w' : World) (nv : Value) (vals : List Value) (h : PB w0 w' g bw bl bo l0.length nv vals (rowsN l0 l0.length)) (hok : okB l0 = true) (uu : Nat → Value) => parts_tail2 w0 w' A0 c0 l0 g bw bl bo nv vals h hok hN uu)
  clear hC hP hnet hrow hi35 z35a z35b z35c hN
  obtain ⟨code, hcode⟩ : ∃ code, ptTail = code := ⟨_, rfl⟩
  rw [hcode]
  unfold ptTail Try.f10 at hcode
  dsimp only [bodyC, sndC, Option.getD] at hcode
  subst hcode
  refine wp_seq_k (fun K2 hK2 => ?_)
  have HK2 := Aside0.mk hK2
  clear hK2
  go_wp2
  go_loopw [24] (fun v24 wr => ∃ (k : Nat) (nv : Value) (vals : List Value), k ≤ l0.length ∧ v24 = .int .i64 (k : Int) ∧ Aside0 (PB w0 wr g bw bl bo l0.length nv vals (rowsN l0 k)) ∧ Aside0 (∀ i (h : i < l0.length), i < k → ∀ x ∈ l0[i], 0 ≤ x ∧ x < (l0.length : Int))) (fun v24 _ => l0.length - (intOf v24).toNat)
  case atStart => exact ⟨0, nilV, [], Nat.zero_le _, rfl, HP0, ⟨fun i _ hi => absurd hi (Nat.not_lt_zero i)⟩⟩
  case round =>
    obtain ⟨k, nv, vals, hk, rfl, HP, HG⟩ := hrel
    clear HP0
    by_cases hkN : k < l0.length
    · obtain ⟨q1, q2, q3⟩ := pt_one NB.out hkN
      obtain ⟨ad, A1, c1, hA, hx, hl, hi⟩ := at_L1 HC.out (k : Int) q1 q2
      subst hA
      obtain ⟨l, hl0⟩ : ∃ l, l = l0[k] := ⟨_, rfl⟩
      have hrd : rd_L1 l0 (k : Int) = l := by rw [hl0]; unfold rd_L1; rw [Int.toNat_natCast, List.getD_eq_getElem?_getD, List.getElem?_eq_getElem hkN]; rfl
      rw [hrd] at hx hl hi
      rw [Int.toNat_natCast] at hx
      have xr : wr.cell? (ad.add k) = some (.slice A1 l.length c1) := pw_cell_below HP.out.fr hx
      have EL := Aside0.mk hl0
      have HL := Aside0.mk hl
      have hll : l.length ≤ 17592186044416 := by rw [hl0]; exact HROW.out k hkN
      have HLL := Aside0.mk hll
      have HI := Aside0.mk (Kd.C_below (hi) HP.out.fr : (Kd.int .i64).C wr A1 l.length l)
      clear hrd hl0 hx hi hl hll
      go_wp2
      go_loop [30] (fun v30 => ∃ j : Nat, j ≤ l.length ∧ v30 = .int .i64 (j : Int) ∧ Aside0 (∀ x ∈ l.take j, 0 ≤ x ∧ x < (l0.length : Int))) (fun v30 => l.length - (intOf v30).toNat)
      case atStart => exact ⟨0, Nat.zero_le _, rfl, ⟨fun x hx => by rw [List.take_zero] at hx; cases hx⟩⟩
      case round =>
        obtain ⟨j, hj, rfl, HJ⟩ := hrel
        by_cases hjl : j < l.length
        · obtain ⟨r1, r2, r3⟩ := pt_two HLL.out hjl
          obtain ⟨a1, hA1, hcell⟩ := Kd.at_int HI.out (j : Int) r1 r2
          subst hA1
          rw [Int.toNat_natCast] at hcell
          obtain ⟨x, hx⟩ : ∃ x, x = rd l (j : Int) := ⟨_, rfl⟩
          rw [← hx] at hcell
          have hxl : x = l[j] := by rw [hx]; unfold rd; rw [Int.toNat_natCast, List.getD_eq_getElem?_getD, List.getElem?_eq_getElem hjl]; rfl
          have EX := Aside0.mk hxl
          have BAD := Aside0.mk (show ¬ (0 ≤ x ∧ x < (l0.length : Int)) → okB l0 = false from fun hb => by
            rw [Bool.eq_false_iff]
            intro ht
            have h1 := List.all_eq_true.1 (List.all_eq_true.1 ht l (by rw [EL.out]; exact List.getElem_mem hkN)) x (by rw [hxl]; exact List.getElem_mem hjl)
            rw [Bool.and_eq_true, decide_eq_true_eq, decide_eq_true_eq] at h1
            exact hb h1)
          clear hx hxl
          by_cases hx0 : x < 0
          · have HB := Aside0.mk (BAD.out (fun h => absurd h.1 (Int.not_le.2 hx0)))
            clear q3 r3
            go_wp2
            go_ret2
            exact HE.out wr HB.out HP.out.fr
          · by_cases hxn : x < (l0.length : Int)
            · have GX := Aside0.mk (show 0 ≤ x ∧ x < (l0.length : Int) from ⟨Int.not_lt.1 hx0, hxn⟩)
              clear q3
              go_wp2
              go_round
              case rel => exact ⟨j + 1, hjl, by rw [r3], ⟨fun y hy => by
                rw [List.take_succ_eq_append_getElem hjl, List.mem_append, List.mem_singleton] at hy
                rcases hy with h1 | h1
                · exact HJ.out y h1
                · rw [h1, ← EX.out]; exact GX.out⟩⟩
              case measure => rw [r3]; exact pt_meas hjl
            · have HB := Aside0.mk (BAD.out (fun h => hxn h.2))
              clear q3 r3
              go_wp2
              go_ret2
              exact HE.out wr HB.out HP.out.fr
        · obtain rfl := pt_end hj hjl
          have GL := Aside0.mk (show ∀ x ∈ l, 0 ≤ x ∧ x < (l0.length : Int) by have := HJ.out; rw [List.take_length] at this; exact this)
          have CC := Aside0.mk (compactN_calls wr.drew A1 c1 l (Kd.C_drew HI.out) HL.out HLL.out (fun x hx => (GL.out x hx).1))
          obtain ⟨C, hC⟩ : ∃ C, C = cmpN (l.map Int.toNat) := ⟨_, rfl⟩
          rw [← hC] at CC
          obtain ⟨rows, hrows⟩ : ∃ rows, rows = rowsN l0 k := ⟨_, rfl⟩
          have ERW := Aside0.mk (show rowsN l0 (k + 1) = rows ++ [C] by rw [hrows, hC, EL.out]; exact rowsN_next hkN)
          rw [← hrows] at HP
          have LM := Aside0.mk (show rows.length + 1 ≤ maxLen ∧ (rows.length + 1) * 24 ≤ 140737488355328 by
            have h1 : rows.length = k := by rw [hrows]; exact rowsN_len hk
            have h2 := NB.out
            unfold maxLen
            rw [h1]
            exact ⟨by omega, by omega⟩)
          have x0 : wr.cell? ⟨g, 0, none⟩ = some nv := HP.out.c0
          have hjn : ¬ ((l.length : Int) < (l.length : Int)) := Int.lt_irrefl _
          clear hC hrows
          go_wp2
          refine start_ (n := 12) (S := fun w' => w'.cell? ⟨g, 0, none⟩ = some nv) (ds := [8, 11]) #[false, false, false, false, false, false, false, false, false, false, false, false] (by kernel_rfl) rfl rfl ((pw_cell_below (below_drew (Below.refl _ _)) x0)) (fun hHeld => ?_)
          refine pure_ (i := 0) (N := some 43) (v := ?_) (a' := ?_) #[true, false, false, false, false, false, false, false, false, false, false, false] rfl rfl (by kernel_rfl) (fun _ _ _ h => h) (Or.inl ⟨by rfl, ?_⟩) ?_ ?_
          rotate_left
          · intro w'
            go_simp
            with_reducible rfl
          rotate_left
          · simp only [Act.put, List.setIfInBounds_toArray, List.set_cons_zero, List.set_cons_succ, i64_w, i32_w]
            rfl
          refine pure_ (i := 1) (N := some 44) (v := ?_) (a' := ?_) #[true, true, false, false, false, false, false, false, false, false, false, false] rfl rfl (by kernel_rfl) (fun _ _ _ h => h) (Or.inl ⟨by rfl, ?_⟩) ?_ ?_
          rotate_left
          · intro w'
            go_simp
            with_reducible rfl
          rotate_left
          · simp only [Act.put, List.setIfInBounds_toArray, List.set_cons_zero, List.set_cons_succ, i64_w, i32_w]
            rfl
          refine pure_ (i := 2) (N := some 45) (v := ?_) (a' := ?_) #[true, true, true, false, false, false, false, false, false, false, false, false] rfl rfl (by kernel_rfl) (fun _ _ _ h => h) (Or.inl ⟨by rfl, ?_⟩) ?_ ?_
          rotate_left
          · intro w'
            go_simp
            with_reducible rfl
          rotate_left
          · simp only [Act.put, List.setIfInBounds_toArray, List.set_cons_zero, List.set_cons_succ, i64_w, i32_w]
            rfl
          refine pure_ (i := 3) (N := some 46) (v := ?_) (a' := ?_) #[true, true, true, true, false, false, false, false, false, false, false, false] rfl rfl (by kernel_rfl) (fun _ _ _ h => h) (Or.inl ⟨by rfl, ?_⟩) ?_ ?_
          rotate_left
          · intro w'
            go_simp
            with_reducible rfl
          rotate_left
          · simp only [Act.put, List.setIfInBounds_toArray, List.set_cons_zero, List.set_cons_succ, i64_w, i32_w]
            rfl
          refine pure_ (i := 5) (N := some 48) (v := ?_) (a' := ?_) #[true, true, true, true, false, true, false, false, false, false, false, false] rfl rfl (by kernel_rfl) (fun _ _ _ h => h) (Or.inl ⟨by rfl, ?_⟩) ?_ ?_
          rotate_left
          · intro w'
            go_simp
            with_reducible rfl
          rotate_left
          · simp only [Act.put, List.setIfInBounds_toArray, List.set_cons_zero, List.set_cons_succ, i64_w, i32_w]
            rfl
          refine take_ (i := 4) (N := some 47) (v := ?_) (a' := ?_) #[true, true, true, true, true, true, false, false, false, false, false, false] rfl rfl (by kernel_rfl) (fun _ _ _ h => h) (Or.inl ⟨by rfl, ?_⟩) hHeld ?_ ?_
          rotate_left
          · intro w' s0
            go_simp
            with_reducible rfl
          rotate_left
          · simp only [Act.put, List.setIfInBounds_toArray, List.set_cons_zero, List.set_cons_succ, i64_w, i32_w]
            rfl
          refine one_ (i := 6) (N := some 49) #[true, true, true, true, true, true, true, false, false, false, false, false] rfl rfl (by kernel_rfl) (by decide) (fun K hK => ?_)
          refine goes_ Try.func22 (by kernel_rfl) rfl #[.slice A1 l.length c1] (by rfl) rfl rfl (by simp only [List.map_toArray, List.map_cons, List.map_nil]; rfl) ?_
          with_reducible refine (CC.out).mono ?_
          rintro e w5 ⟨v5, rfl, ho5, hb5⟩
          obtain ⟨A5, c5, rfl⟩ := own_slice ho5
          have HO5 := Aside0.mk ho5
          have HB5 := Aside0.mk hb5
          have H5 := Aside0.mk (HP.out.drew.below hb5)
          clear ho5 hb5
          refine ⟨_, rfl, ?_⟩
          refine hK.out _ _ ((pw_cell_below HB5.out hHeld)) (fun hHeld => ?_)
          clear hK K
          refine norm_ (a' := ?_) ?_ ?_
          rotate_left
          · show Act.put _ (some 49) _ = _
            simp only [Act.put, List.setIfInBounds_toArray, List.set_cons_zero, List.set_cons_succ, i64_w, i32_w]
            rfl
          refine one_ (i := 7) (N := some 50) #[true, true, true, true, true, true, true, true, false, false, false, false] rfl rfl (by kernel_rfl) (by decide) (fun K hK => ?_)
          refine value_ (w1 := ?_) (v := ?_) (by rfl) rfl ?_ ?_
          rotate_left 2
          · go_simp
            constructor
            · rfl
            · rfl
          refine hK.out _ _ ((pw_cell_below (below_alloc (Below.refl _ _) _) hHeld)) (fun hHeld => ?_)
          clear hK K
          refine norm_ (a' := ?_) ?_ ?_
          rotate_left
          · show Act.put _ (some 50) _ = _
            simp only [Act.put, List.setIfInBounds_toArray, List.set_cons_zero, List.set_cons_succ, i64_w, i32_w]
            rfl
          refine last_ (i := 8) (N := some 51) #[true, true, true, true, true, true, true, true, true, false, false, false] rfl rfl (by kernel_rfl) (by decide) (fun K hK => ?_)
          refine step_append_lies _ rfl _ _ 22 rfl w0.heap.size 35 i35 (.slice none 0 0) 1 24 Try.underlying22 I35.out.1 I35.out.2.1 I35.out.2.2.1 I35.out.2.2.2 rfl (by decide) nv rows.length vals (by rfl) (H5.out.nvo.alloc _) ⟨w5.heap.size, 0, none⟩ 1 1 [.slice A5 C.length c5] (by rfl) rfl (cells_lit1 w5 _ 35) (by intro u hu; simp at hu; subst hu; rfl) (by decide) LM.out.1 LM.out.2 (Nat.le_trans H5.out.fr.size (by simp)) _ rfl ?_
          intro kq cq w8 hown hg hat hlt
          have H9 := Aside0.mk (HP.out.drew.push (below_alloc HB5.out _) C _ (HO5.out.alloc _) hg hown)
          have G8 := (H5.out.below (below_alloc (Below.refl _ _) (.cells #[.slice A5 C.length c5] 35))).grow_g hg
          have xg : w8.cell? ⟨g, 0, none⟩ = some nv := G8.cell (by decide)
          have fg : w8.frozen? ⟨g, 0, none⟩ = false := G8.frozen 0
          clear hg hown hat hlt G8
          refine hK.out _ _ ?_
          clear hK K
          refine norm_ (a' := ?_) ?_ ?_
          rotate_left
          · show Act.put _ (some 51) _ = _
            simp only [Act.put, List.setIfInBounds_toArray, List.set_cons_zero, List.set_cons_succ, i64_w, i32_w]
            rfl
          refine pure_ (i := 9) (N := some 52) (v := ?_) (a' := ?_) #[true, true, true, true, true, true, true, true, true, true, false, false] rfl rfl (by kernel_rfl) (fun _ _ _ h => h) (Or.inl ⟨by rfl, ?_⟩) ?_ ?_
          rotate_left
          · intro w'
            go_simp
            with_reducible rfl
          rotate_left
          · simp only [Act.put, List.setIfInBounds_toArray, List.set_cons_zero, List.set_cons_succ, i64_w, i32_w]
            rfl
          refine pure_ (i := 10) (N := some 53) (v := ?_) (a' := ?_) #[true, true, true, true, true, true, true, true, true, true, true, false] rfl rfl (by kernel_rfl) (fun _ _ _ h => h) (Or.inl ⟨by rfl, ?_⟩) ?_ ?_
          rotate_left
          · intro w'
            go_simp
            with_reducible rfl
          rotate_left
          · simp only [Act.put, List.setIfInBounds_toArray, List.set_cons_zero, List.set_cons_succ, i64_w, i32_w]
            rfl
          refine last_ (i := 11) (N := none) #[true, true, true, true, true, true, true, true, true, true, true, true] rfl rfl (by kernel_rfl) (by decide) (fun K hK => ?_)
          refine skip_ (w1 := ?_) (by rfl) rfl ?_ ?_
          rotate_left
          · go_simp
            rfl
          refine hK.out _ _ ?_
          clear hK K
          refine done_ (by kernel_rfl) ?_


          go_wp2
          go_roundw
          case rel => exact ⟨k + 1, .slice (some ⟨kq, 0, none⟩) (rows.length + 1) cq, vals ++ [.slice A5 C.length c5], hkN, by rw [q3], ⟨by rw [ERW.out]; exact H9.out⟩, ⟨fun i hi hik x hx => by
            by_cases e : i = k
            · subst e; rw [← EL.out] at hx; exact GL.out x hx
            · exact HG.out i hi (Nat.lt_of_le_of_ne (Nat.le_of_lt_succ hik) e) x hx⟩⟩
          case measure => rw [q3]; exact pt_meas hkN
    · obtain rfl := pt_end hk hkN
      have hok : okB l0 = true := List.all_eq_true.2 (fun l hl => List.all_eq_true.2 (fun x hx => by
        obtain ⟨i, hi, rfl⟩ := List.getElem_of_mem hl
        have := HG.out i hi hi x hx
        rw [Bool.and_eq_true, decide_eq_true_eq, decide_eq_true_eq]
        exact this))
      have OK := Aside0.mk hok
      have hnl : ¬ ((l0.length : Int) < (l0.length : Int)) := Int.lt_irrefl _
      clear hok
      go_wp2
      (try simp only [Exit.then])
      refine HK2.out _ _ ?_
      exact wp_fp ⟨rfl, rfl, rfl, rfl⟩ (fun uu => T2.out wr nv vals HP.out OK.out uu)
theorem info4' : (Try.prog.info? 4).map (fun i => (i.zero, i.size, i.bytes)) = some (some (.bool false), 1, 1) := by kernel_rfl
theorem row_made {w : World} {b t N : Nat} {z : Value} (h : w.heap[b]? = some (.cells (madeCells #[z] N) t (0, 0))) : w.rowIs b t N (fun _ => z) :=
  ⟨_, h, size_madeCells _ _, fun i hi => by simp [madeCells, hi, Nat.mod_one]⟩
theorem size_al (W : World) (o : Obj) : (W.alloc o).heap.size = W.heap.size + 1 := by simp
theorem hblk_new (W : World) (o : Obj) : (W.alloc o).heap[W.heap.size]? = some o := Deep.blk_alloc_new _ _
theorem hblk_old {W : World} {k : Nat} {o : Obj} (h : W.heap[k]? = some o) (o' : Obj) : (W.alloc o').heap[k]? = some o := by
  rw [Deep.blk_alloc_lt _ _ _ (Array.getElem?_eq_some_iff.1 h).1]; exact h
theorem al4 (W : World) (o1 o2 o3 o4 : Obj) : ((((W.alloc o1).alloc o2).alloc o3).alloc o4).drew.heap[W.heap.size + 1 + 1 + 1]? = some o4 := by
  have := hblk_new (((W.alloc o1).alloc o2).alloc o3) o4
  rw [size_al, size_al, size_al] at this
  exact this
theorem al3 (W : World) (o1 o2 o3 o4 : Obj) : ((((W.alloc o1).alloc o2).alloc o3).alloc o4).drew.heap[W.heap.size + 1 + 1]? = some o3 := by
  have := hblk_old (hblk_new ((W.alloc o1).alloc o2) o3) o4
  rw [size_al, size_al] at this
  exact this
theorem al2 (W : World) (o1 o2 o3 o4 : Obj) : ((((W.alloc o1).alloc o2).alloc o3).alloc o4).drew.heap[W.heap.size + 1]? = some o2 := by
  have := hblk_old (hblk_old (hblk_new (W.alloc o1) o2) o3) o4
  rw [size_al] at this
  exact this
theorem al1 (W : World) (o1 o2 o3 o4 : Obj) : ((((W.alloc o1).alloc o2).alloc o3).alloc o4).drew.heap[W.heap.size]? = some o1 :=
  hblk_old (hblk_old (hblk_old (hblk_new W o1) o2) o3) o4
theorem below4 (W : World) (o1 o2 o3 o4 : Obj) : Below W.heap.size W ((((W.alloc o1).alloc o2).alloc o3).alloc o4).drew := below_drew <| below_alloc (below_alloc (below_alloc (below_alloc (Below.refl _ _) _) _) _) _
theorem made_pb {w w' : World} {g bw bl bo N : Nat} (hg : w'.heap[g]? = some (.cells #[nilV, rowV bw N, rowV bl N, nilV, rowV bo N, nilV, nilV] 49 (0, 0))) (hw : w'.heap[bw]? = some (.cells (madeCells #[.int .i64 0] N) 3 (0, 0))) (hl : w'.heap[bl]? = some (.cells (madeCells #[.int .i64 0] N) 3 (0, 0))) (ho : w'.heap[bo]? = some (.cells (madeCells #[.bool false] N) 4 (0, 0)))
    (hd : bw ≠ bl) (hge : w.heap.size ≤ g ∧ w.heap.size ≤ bw ∧ w.heap.size ≤ bl ∧ w.heap.size ≤ bo) (hb : Below w.heap.size w w') : PB w w' g bw bl bo N nilV [] [] :=
  ⟨⟨_, hg, rfl, fun i hi => by
    match i, hi with
    | 0, _ => rfl
    | 1, _ => rfl
    | 2, _ => rfl
    | 3, _ => rfl
    | 4, _ => rfl
    | 5, _ => rfl
    | 6, _ => rfl⟩, row_made hw, row_made hl, row_made ho, hd, World.ownsRow_nil _ _ _ _, fun v hv => absurd hv (Nat.not_lt_zero v), fun v hv => absurd hv (Nat.not_lt_zero v), hge, hb⟩
set_option maxHeartbeats 2000000 in
set_option maxRecDepth 100000 in
theorem parts_calls (w : World) (A0 : Option Addr) (c0 : Nat) (l0 : List (List Int)) (hC : Kd.C (Kd.slice 3 (Kd.int .i64)) w A0 l0.length l0) (hc : l0.length ≤ c0) (hnet : netOk l0 = true) :
    Calls Try.prog 10 #[.slice A0 l0.length c0] w (PSpec w l0) := by
  have hnet' := hnet
  unfold netOk at hnet'
  rw [Bool.and_eq_true, decide_eq_true_eq] at hnet'
  obtain ⟨hN, _⟩ := hnet'
  obtain ⟨N, eN⟩ : ∃ N, N = l0.length := ⟨_, rfl⟩
  have hN' : N ≤ 5864062014805 := by rw [eN]; exact hN
  have hmk := run_make_row' (P := Try.prog) 35 3 (.int .i64 0) 8 Try.underlying35 info3 rfl .i64 .i64 N (by omega) (by omega)
  have hmb := run_make_row' (P := Try.prog) 33 4 (.bool false) 1 Try.underlying33 info4' rfl .i64 .i64 N (by omega) (by omega)
  have EN := Aside0.mk eN
  have T := Aside0.mk (fun (W : World) (g bw bl bo : Nat) (hP : PB w W g bw bl bo l0.length nilV [] []) (uu : Nat → Value) => parts_tail w W A0 c0 l0 g bw bl bo hC hc hP hnet uu)
  rw [← eN] at T
  rw [← eN]
  clear hC hc hnet hN hN' eN
  go_enter Try.func10, Try.ntmps10
  go_wp2
  rename_i K1 a1
  have HA := Aside0.mk (fun (a' : Act) (W : World) (g bw bl bo : Nat) (ha : FP A0 N c0 g a') (hP : PB w W g bw bl bo N nilV [] []) => a1 a' W (wp_fp ha (fun uu => T.out W g bw bl bo hP uu)))
  clear a1 T
  have PD := Aside0.mk (show True ∧ w.heap.size ≠ w.heap.size + 1 ∧ w.heap.size ≠ w.heap.size + 1 + 1 ∧ w.heap.size + 1 ≠ w.heap.size + 1 + 1 from ⟨trivial, by omega, by omega, by omega⟩)
  have PD012 := Aside0.mk (show w.heap.size ≤ w.heap.size + 1 + 1 + 1 ∧ w.heap.size ≤ w.heap.size ∧ w.heap.size ≤ (w.heap.size + 1) ∧ w.heap.size ≤ (w.heap.size + 1 + 1) from ⟨by omega, by omega, by omega, by omega⟩)
  have PD021 := Aside0.mk (show w.heap.size ≤ w.heap.size + 1 + 1 + 1 ∧ w.heap.size ≤ w.heap.size ∧ w.heap.size ≤ (w.heap.size + 1 + 1) ∧ w.heap.size ≤ (w.heap.size + 1) from ⟨by omega, by omega, by omega, by omega⟩)
  have PD102 := Aside0.mk (show w.heap.size ≤ w.heap.size + 1 + 1 + 1 ∧ w.heap.size ≤ (w.heap.size + 1) ∧ w.heap.size ≤ w.heap.size ∧ w.heap.size ≤ (w.heap.size + 1 + 1) from ⟨by omega, by omega, by omega, by omega⟩)
  have PD120 := Aside0.mk (show w.heap.size ≤ w.heap.size + 1 + 1 + 1 ∧ w.heap.size ≤ (w.heap.size + 1) ∧ w.heap.size ≤ (w.heap.size + 1 + 1) ∧ w.heap.size ≤ w.heap.size from ⟨by omega, by omega, by omega, by omega⟩)
  have PD201 := Aside0.mk (show w.heap.size ≤ w.heap.size + 1 + 1 + 1 ∧ w.heap.size ≤ (w.heap.size + 1 + 1) ∧ w.heap.size ≤ w.heap.size ∧ w.heap.size ≤ (w.heap.size + 1) from ⟨by omega, by omega, by omega, by omega⟩)
  have PD210 := Aside0.mk (show w.heap.size ≤ w.heap.size + 1 + 1 + 1 ∧ w.heap.size ≤ (w.heap.size + 1 + 1) ∧ w.heap.size ≤ (w.heap.size + 1) ∧ w.heap.size ≤ w.heap.size from ⟨by omega, by omega, by omega, by omega⟩)
  go_region_with (fail)
  all_goals (try simp only [Exit.then])
  all_goals first
    | exact HA.out _ _ (w.heap.size + 1 + 1 + 1) w.heap.size (w.heap.size + 1) (w.heap.size + 1 + 1) ⟨rfl, rfl, rfl, rfl⟩ (made_pb (al4 w _ _ _ _) (al1 w _ _ _ _) (al2 w _ _ _ _) (al3 w _ _ _ _) PD.out.2.1 PD012.out (below4 w _ _ _ _))
    | exact HA.out _ _ (w.heap.size + 1 + 1 + 1) w.heap.size (w.heap.size + 1 + 1) (w.heap.size + 1) ⟨rfl, rfl, rfl, rfl⟩ (made_pb (al4 w _ _ _ _) (al1 w _ _ _ _) (al3 w _ _ _ _) (al2 w _ _ _ _) PD.out.2.2.1 PD021.out (below4 w _ _ _ _))
    | exact HA.out _ _ (w.heap.size + 1 + 1 + 1) (w.heap.size + 1) w.heap.size (w.heap.size + 1 + 1) ⟨rfl, rfl, rfl, rfl⟩ (made_pb (al4 w _ _ _ _) (al2 w _ _ _ _) (al1 w _ _ _ _) (al3 w _ _ _ _) PD.out.2.1.symm PD102.out (below4 w _ _ _ _))
    | exact HA.out _ _ (w.heap.size + 1 + 1 + 1) (w.heap.size + 1) (w.heap.size + 1 + 1) w.heap.size ⟨rfl, rfl, rfl, rfl⟩ (made_pb (al4 w _ _ _ _) (al2 w _ _ _ _) (al3 w _ _ _ _) (al1 w _ _ _ _) PD.out.2.2.2 PD120.out (below4 w _ _ _ _))
    | exact HA.out _ _ (w.heap.size + 1 + 1 + 1) (w.heap.size + 1 + 1) w.heap.size (w.heap.size + 1) ⟨rfl, rfl, rfl, rfl⟩ (made_pb (al4 w _ _ _ _) (al3 w _ _ _ _) (al1 w _ _ _ _) (al2 w _ _ _ _) PD.out.2.2.1.symm PD201.out (below4 w _ _ _ _))
    | exact HA.out _ _ (w.heap.size + 1 + 1 + 1) (w.heap.size + 1 + 1) (w.heap.size + 1) w.heap.size ⟨rfl, rfl, rfl, rfl⟩ (made_pb (al4 w _ _ _ _) (al3 w _ _ _ _) (al2 w _ _ _ _) (al1 w _ _ _ _) PD.out.2.2.2.symm PD210.out (below4 w _ _ _ _))
end Go.Proofs.Ytligpleningglaa.Cw
