/- Texts of this proof, joined in build order: Lev. -/
import Derived.Test.YtligpleningglaaGreatCz
import Derived.Test.YtligpleningglaaGreatC04
set_option linter.unusedVariables false
set_option linter.unusedSimpArgs false
set_option linter.unusedSectionVars false
set_option maxHeartbeats 8000000
set_option maxRecDepth 100000
namespace Go.Proofs.YtligpleningglaaGreat.Cw
open Go Go.RowKit Go.Proofs.YtligpleningglaaGreat.Tarjan Go.Proofs.YtligpleningglaaGreatW.PrintWords Go.Proofs.YtligpleningglaaGreatW.PrintLast Go.Proofs.YtligpleningglaaGreatW.PrintMore Go.Proofs.YtligpleningglaaGreat.F
attribute [local go_sem] min2_int min_two
theorem nodup_len {a : List Nat} : ∀ {b : List Nat}, a.Nodup → (∀ x ∈ a, x ∈ b) → a.length ≤ b.length := by
  induction a with
  | nil => intro b _ _; simp
  | cons x a ih =>
    intro b hn h
    rw [List.nodup_cons] at hn
    have hx := h x List.mem_cons_self
    have h1 := ih (b := b.erase x) hn.2 (fun y hy => (List.mem_erase_of_ne (fun e => hn.1 (by rw [← e]; exact hy))).2 (h y (List.mem_cons_of_mem _ hy)))
    rw [List.length_erase_of_mem hx] at h1
    have := List.length_pos_of_mem hx
    simp only [List.length_cons]
    omega
theorem parts_len {a b : List Nat} (ha : a.Pairwise (· < ·)) (h : ∀ x ∈ a, x ∈ b) : a.length ≤ b.length := nodup_len (ha.imp (fun h => by omega)) h
theorem part_calls (w : World) (B gr cr q : Nat) (row : List Nat) (h : w.ownsRow B 3 1 (.slice (some ⟨gr, 0, none⟩) row.length cr) row.length (ints row)) (hq : q < row.length) (hbig : row.length ≤ 5864062014805) :
    Calls Tryz.prog 27 #[.slice (some ⟨gr, q, none⟩) (row.length - q) (row.length - q)] w fun e w' => ∃ v', e = .returned v' ∧ w'.ownsRow w.heap.size 3 1 v' (cmpN (row.drop q)).length (ints (cmpN (row.drop q))) ∧ Below w.heap.size w w' := by
  have hl : (row.map Int.ofNat).length = row.length := List.length_map ..
  have hz : ints row = encs (Value.int .i64) (row.map Int.ofNat) := by unfold ints encs; rw [List.map_map]; rfl
  rw [hz] at h
  obtain ⟨A, c, e, hr⟩ := own_reads_of (enc := Value.int .i64) (d := (0 : Int)) h
  injection e with e1 _ e3
  subst e1 e3
  have hC : (Kd.int .i64).C w (some ⟨gr, 0, none⟩) (row.map Int.ofNat).length (row.map Int.ofNat) := by
    rw [hl]; exact Kd.C_of_reads (enc := Value.int .i64) (d := (0 : Int)) (h1 := fun _ => rfl) hr
  have hD := Kd.C_drop (c := row.length) (m := q) hC cq2 cq2
  rw [if_neg cq2] at hD
  have ha : Option.map (fun x : Addr => x.add (q * (Kd.int .i64).sz)) (some ⟨gr, 0, none⟩) = some ⟨gr, q, none⟩ := by
    show some ((⟨gr, 0, none⟩ : Addr).add (q * 1)) = _
    rw [Nat.mul_one]
    unfold Addr.add
    by_cases e : q = 0
    · subst e; rfl
    · rw [if_neg e]; simp
  rw [ha] at hD
  have hL : ((row.map Int.ofNat).drop q).length = row.length - q := by rw [List.length_drop, hl]
  have hk := compact_calls w (some ⟨gr, q, none⟩) (row.length - q) ((row.map Int.ofNat).drop q) hD cq2 cq2
  rw [hL] at hk
  refine hk.mono ?_
  rintro e w' ⟨v', rfl, ho, hb⟩
  refine ⟨v', rfl, ?_, hb⟩
  have hc : cmpZ ((row.map Int.ofNat).drop q) = (cmpN (row.drop q)).map Int.ofNat := by rw [cmpN_up, List.map_drop]
  rw [hc, List.length_map, List.map_map] at ho
  exact ho
noncomputable def sndC : Code → Code
  | .seq _ b => b
  | c => c
noncomputable def bodyC (f : Func) : Code := f.body.getD .skip
noncomputable def lvMid : Code := sndC (sndC (bodyC Tryz.f50))
noncomputable def lvTail : Code := sndC (sndC (sndC (sndC lvMid)))
theorem leave_tail {u2 u3 u4 u7 u8 u9 u10 u11 u12 u13 u14 u15 u16 u17 u18 u19 u20 u21 u22 u23 u24 u25 u26 u27 u28 u29 u30 u31 u32 u33 u34 u35 u36 u37 u38 u39 u40 u41 u42 u43 u44 u45 u46 u47 u48 u49 u50 u51 u52 u53 u54 u55 u56 u57 u58 u59 u60 u61 u62 u63 u64 u65 u66 u67 u68 u69 u70 u71 u72 u73 u74 u75 u76 u77 u78 u79 u80 u81 u82 u83 u84 u85 u86 u87 u88 u89 u90 u91 u92 u93 u94 u95 u96 u97 u98 u99 u100 u101 u102 u103 u104 u105 u106 u107 u108 u109 u110 u111 u112 u113 u114 u115 u116 u117 u118 u119 u120 u121 u122 u123 u124 u125 u126 u127 u128 u129 u130 u131 u132 u133 u134 u135 u136 u137 u138 u139 u140 u141 u142 u143 : Value} (nx : Nat → List Nat) (w0 w1 w4 w5 : World) (p : Pl) (s : T) (m3 : Mm) (wv3 pv v5 : Value) (ps : List Value) (v gr cr j : Nat) (I : Inv nx p.N s) (hvr : v ∈ s.row) (hb : Bd p.N s) (hN : p.N ≤ 5864062014805)
    (e3 : m3 = { mm s (.slice (some ⟨gr, 0, none⟩) s.row.length cr) wv3 pv ps with way := s.way.tail, lo := lowP v s }) (hc : lowP v s v = s.wh v) (h4 : Ws w0 w1 p w4 m3) (hq' : j < s.row.length) (hat : s.row.getD j 0 = v) (htk : s.row.take j = s.row.takeWhile (fun j => j != v)) (hdr : s.row.drop j = s.row.dropWhile (fun j => j != v)) (hG : p.B ≤ gr ∧ gr < w4.heap.size ∧ s.row.length ≤ cr)
    (ho5 : w5.ownsRow w4.heap.size 3 1 v5 (cmpN (s.row.drop j)).length (ints (cmpN (s.row.drop j)))) (hb5 : Below w4.heap.size w4 w5) :
    Code.wp Tryz.prog lvTail (bodyPost Tryz.prog Tryz.f50 fun e w' => e = .returned (.tuple #[]) ∧ ∃ rv' wv' pv' ps', Ws w0 w1 p w' (mm (leaveP cmpN v s) rv' wv' pv' ps')) { tmps := (.pointer (some ⟨p.g, 0, none⟩) :: .int .i64 (v : Nat) :: u2 :: u3 :: u4 :: .int .i64 (j : Nat) :: v5 :: u7 :: u8 :: u9 :: u10 :: u11 :: u12 :: u13 :: u14 :: u15 :: u16 :: u17 :: u18 :: u19 :: u20 :: u21 :: u22 :: u23 :: u24 :: u25 :: u26 :: u27 :: u28 :: u29 :: u30 :: u31 :: u32 :: u33 :: u34 :: u35 :: u36 :: u37 :: u38 :: u39 :: u40 :: u41 :: u42 :: u43 :: u44 :: u45 :: u46 :: u47 :: u48 :: u49 :: u50 :: u51 :: u52 :: u53 :: u54 :: u55 :: u56 :: u57 :: u58 :: u59 :: u60 :: u61 :: u62 :: u63 :: u64 :: u65 :: u66 :: u67 :: u68 :: u69 :: u70 :: u71 :: u72 :: u73 :: u74 :: u75 :: u76 :: u77 :: u78 :: u79 :: u80 :: u81 :: u82 :: u83 :: u84 :: u85 :: u86 :: u87 :: u88 :: u89 :: u90 :: u91 :: u92 :: u93 :: u94 :: u95 :: u96 :: u97 :: u98 :: u99 :: u100 :: u101 :: u102 :: u103 :: u104 :: u105 :: u106 :: u107 :: u108 :: u109 :: u110 :: u111 :: u112 :: u113 :: u114 :: u115 :: u116 :: u117 :: u118 :: u119 :: u120 :: u121 :: u122 :: u123 :: u124 :: u125 :: u126 :: u127 :: u128 :: u129 :: u130 :: u131 :: u132 :: u133 :: u134 :: u135 :: u136 :: u137 :: u138 :: u139 :: u140 :: u141 :: u142 :: u143 :: []).toArray, defers := [] } w5 := by
  have II := qA I
  have BB := qA hb
  have xvr := qA hvr
  have E3 := qA e3
  have H4 := qA h4
  have AT := qA hat
  have TK := qA htk
  have DR := qA hdr
  have HG := qA hG
  have HC := qA hc
  have er : m3.row = s.row := by rw [e3]; rfl
  have ev : m3.rv = .slice (some ⟨gr, 0, none⟩) s.row.length cr := by rw [e3]; rfl
  have hrb : s.row.length ≤ 5864062014805 := by have := hb.r; have := hb.le; omega
  have qj : (j : Int) < (s.row.length : Int) := by omega
  have pj : 0 ≤ (j : Int) := by omega
  have pl : (j : Int) ≤ (s.row.length : Int) := by omega
  have pc : (s.row.length : Int) ≤ (cr : Int) := by have := hG.2.2; omega
  have x3 := h4.c3
  have CC : True := trivial
  have hHeld : True := trivial
  clear I hvr hb e3 h4 hat htk hdr hG hc
  obtain ⟨code, hcode⟩ : ∃ code, lvTail = code := ⟨_, rfl⟩
  rw [hcode]
  unfold lvTail lvMid Tryz.f50 at hcode
  dsimp only [bodyC, sndC, Option.getD] at hcode
  subst hcode
  obtain ⟨C, hC⟩ : ∃ C, C = cmpN (s.row.drop j) := ⟨_, rfl⟩
  rw [← hC] at ho5
  have hsz5 : p.B ≤ w4.heap.size := H4.out.sz.2
  have hmC : ∀ x, x ∈ C ↔ x ∈ s.row.drop j := fun x => by rw [hC]; exact cmpN_mem _ x
  have hC0 : 0 < C.length := List.length_pos_of_mem ((hmC v).2 (by
    rw [List.drop_eq_getElem_cons hq']
    have := AT.out
    rw [qD, qE hq'] at this
    rw [show s.row[j] = v from this]
    exact List.mem_cons_self))
  have hCN : ∀ x ∈ C, x < p.N := fun x hx => Inv.row_lt II.out (List.mem_of_mem_drop ((hmC x).1 hx))
  have hCl : C.length ≤ s.row.length := by
    have h1 := parts_len (cmpN_lt (s.row.drop j)) (fun x hx => (cmpN_mem _ x).1 hx)
    rw [← hC, List.length_drop] at h1
    omega
  obtain ⟨g5, c5, ev5, hg5, hl5, hc5⟩ := own_form ho5 hC0
  subst ev5
  have H5 := qA (H4.out.below hb5)
  have HV5 := qA (own_weaken ho5 hsz5)
  have hrr5 := H5.out.rr
  rw [er, ev] at hrr5
  obtain ⟨m6, em6⟩ : ∃ m6 : Mm, m6 = { m3 with row := s.row.take j, rv := .slice (some ⟨gr, 0, none⟩) j cr } := ⟨_, rfl⟩
  obtain ⟨w6, ew6⟩ : ∃ w6, w6 = w5.setCell ⟨p.g, 3, none⟩ (.slice (some ⟨gr, 0, none⟩) j cr) := ⟨_, rfl⟩
  have H6 := qA (show Ws w0 w1 p w6 m6 by
    rw [ew6, em6]
    refine H5.out.setG3 (s.row.take j) _ ?_ (fun i hi => by have := H5.out.pd i hi; rw [ev] at this; exact this)
    rw [List.length_take, Nat.min_eq_left cq2]
    have := own_cut hrr5 (k := j) cq2
    rw [Nat.mul_one] at this
    unfold ints at this ⊢
    rw [← List.map_take] at this
    exact this)
  have HV6 := qA (show w6.ownsRow p.B 3 1 (.slice (some ⟨g5, 0, none⟩) C.length c5) C.length (ints C) by rw [ew6]; exact ownsRow_setCell_below HV5.out H5.out.gl _)
  have E6 := qA em6
  have VA := qA (show (Value.slice (some ⟨g5, 0, none⟩) C.length c5).ownBlock ≠ m6.rv.ownBlock ∧ ∀ i, i < m6.parts.length → (pt m6.ps i).ownBlock = none ∨ (pt m6.ps i).ownBlock ≠ (Value.slice (some ⟨g5, 0, none⟩) C.length c5).ownBlock by
    have hz : w4.heap.size ≤ g5 := hg5
    refine ⟨?_, fun i hi => ?_⟩
    · rw [em6]
      show some g5 ≠ some gr
      have := HG.out.2.1
      intro e; injection e with e; omega
    · rw [em6] at hi ⊢
      exact apart_fresh (H4.out.pp i hi) (u := .slice (some ⟨g5, 0, none⟩) C.length c5) (k := g5) rfl hz)
  have CM := qA hmC
  have CE := qA hC
  have y3 : w5.cell? ⟨p.g, 3, none⟩ = some (.slice (some ⟨gr, 0, none⟩) s.row.length cr) := by have := H5.out.c3; rw [ev] at this; exact this
  have z3 : w5.frozen? ⟨p.g, 3, none⟩ = false := H5.out.gs.frozen 3
  have pjc : (j : Int) ≤ (cr : Int) := by omega
  clear hmC hC hrr5 em6 hsz5 ho5 hb5 hg5 hl5 hHeld x3 CC pl
  go_wp2
  rw [← ew6]
  clear ew6 y3 z3
  go_loopw [123] (fun v123 wr => ∃ t : Nat, t ≤ C.length ∧ v123 = .int .i64 (t : Int) ∧ Aside0 (Ws w0 w1 p wr { m6 with on := clr m6.on (C.take t) }) ∧ Aside0 (wr.ownsRow p.B 3 1 (.slice (some ⟨g5, 0, none⟩) C.length c5) C.length (ints C))) (fun v123 _ => C.length - (intOf v123).toNat)
  case atStart => exact ⟨0, by omega, rfl, ⟨by rw [List.take_zero, clr_nil]; exact H6.out⟩, HV6⟩
  case round =>
    obtain ⟨t, ht, rfl, HT, HVT⟩ := hrel
    have p0 : 0 ≤ (t : Int) := by omega
    by_cases htl : t < C.length
    · have htl' : (t : Int) < (C.length : Int) := by omega
      obtain ⟨z, hz⟩ : ∃ z, z = C[t] := ⟨_, rfl⟩
      have hzN : z < p.N := by rw [hz]; exact hCN _ (List.getElem_mem _)
      have xv : wr.cell? ⟨g5, t, none⟩ = some (.int .i64 (z : Nat)) := by
        rw [HVT.out.cellAt t cq2]
        unfold ints
        rw [List.getElem?_map, qE htl, hz]
        rfl
      have x4 : wr.cell? ⟨p.g, 4, none⟩ = some (.slice (some ⟨p.bo, 0, none⟩) p.N p.N) := HT.out.c4
      have f4 : wr.frozen? ⟨p.bo, z, none⟩ = false := HT.out.os.frozen z
      have xo := HT.out.os.cell hzN
      have HZ := qA hz
      clear hz
      have pz : 0 ≤ (z : Int) := by omega
      have qz : (z : Int) < (p.N : Int) := by omega
      have ht1 : wrap64 ((t : Int) + 1) = ((t + 1 : Nat) : Int) := by unfold wrap64; omega
      go_wp2
      go_roundw
      case rel => exact ⟨t + 1, by omega, by congr 1 <;> omega, ⟨by
        have := HT.out.setO z false
        have e : { { m6 with on := clr m6.on (C.take t) } with on := upO (clr m6.on (C.take t)) z false } = { m6 with on := clr m6.on (C.take (t + 1)) } := by
          rw [HZ.out, clr_next _ _ _ htl]
        rw [← e]
        exact this⟩, ⟨ownsRow_setCell_below HVT.out HT.out.ol _⟩⟩
      case measure => simp [intOf]; omega
    · obtain rfl : t = C.length := by omega
      have hnl : ¬ ((C.length : Int) < (C.length : Int)) := by omega
      rw [List.take_length] at HT
      obtain ⟨m7, em7⟩ : ∃ m7 : Mm, m7 = { m6 with on := clr m6.on C } := ⟨_, rfl⟩
      rw [← em7] at HT
      have e6p : m6.parts = s.parts := by rw [E6.out, E3.out]; rfl
      have e6s : m6.ps = ps := by rw [E6.out, E3.out]; rfl
      have e7p : m7.parts = s.parts := by rw [em7]; exact e6p
      have e7s : m7.ps = ps := by rw [em7]; exact e6s
      have e7v : m7.pv = pv := by rw [em7, E6.out, E3.out]; rfl
      have e7r : m7.rv = m6.rv := by rw [em7]
      have x6 : wr.cell? ⟨p.g, 6, none⟩ = some m7.pv := HT.out.c6
      have E7 := qA em7
      obtain ⟨i35, hi35, hz35⟩ := Option.map_eq_some_iff.1 info44
      simp only [Prod.mk.injEq] at hz35
      obtain ⟨z35a, z35b, z35c⟩ := hz35
      have I35 := qA (show Tryz.prog.info? 44 = some i35 ∧ i35.zero = some (.slice none 0 0) ∧ i35.size = 1 ∧ i35.bytes = 24 from ⟨hi35, z35a, z35b, z35c⟩)
      have NN := qA (show s.parts.length < 5864062014805 by have := BB.out.r; have := BB.out.le; omega)
      have V7 := qA (show (Value.slice (some ⟨g5, 0, none⟩) C.length c5).ownBlock ≠ m7.rv.ownBlock ∧ ∀ i, i < m7.parts.length → (pt m7.ps i).ownBlock = none ∨ (pt m7.ps i).ownBlock ≠ (Value.slice (some ⟨g5, 0, none⟩) C.length c5).ownBlock by
        rw [e7r, e7p, e7s, ← e6p, ← e6s]; exact VA.out)
      have L7 := qA (show m7.parts.length < 5864062014805 by rw [e7p]; exact NN.out)
      clear em7 hi35 z35a z35b z35c e6p e6s e7r p0 htl hnl
      clear e7v e7p e7s
      go_wp2_with (first
        | ((with_reducible refine gate_builtin (b := .append) (xs := #[.tmp 138, .tmp 140]) rfl ?_); at_builtin
           refine wpList_append_lies _ rfl _ _ 22 rfl p.B 44 i35 (.slice none 0 0) 1 24 Tryz.underlying22 I35.out.1 I35.out.2.1 I35.out.2.2.1 I35.out.2.2.2 rfl cq6 m7.pv m7.parts.length m7.ps rfl (HT.out.pr.alloc _) ⟨wr.heap.size, 0, none⟩ 1 1 [.slice (some ⟨g5, 0, none⟩) C.length c5] rfl rfl (cells_lit1 wr _ 44) ?q1 cq6 ?q2 ?q3 ?q4 _ rfl ?_
           (case q1 => intro u hu; simp at hu; subst hu; rfl)
           (case q2 => unfold maxLen; have := L7.out; omega)
           (case q3 => have := L7.out; omega)
           (case q4 => have := HT.out.sz.2; simp; omega)
           intro kp cp w8 hown hg hat hlt
           have H8a := HT.out.below (below_alloc (Below.refl _ _) (.cells #[.slice (some ⟨g5, 0, none⟩) C.length c5] 44))
           have G8 := H8a.grow_g hg (fun k hk => (H8a.pr.lt k hk).1)
           have H9 := qA (H8a.pushPart (H := 0) C _ (HVT.out.alloc _) (.inr V7.out.1) V7.out.2 hg hown)
           have x6 : w8.cell? ⟨p.g, 6, none⟩ = some m7.pv := G8.cell cq2
           have f6 : w8.frozen? ⟨p.g, 6, none⟩ = false := G8.frozen 6
           clear hown hg hat hlt H8a G8))
      first | go_end0 | ((try simp only [Exit.inBlock, Exit.then]); refine bodyPost_ret (results_none rfl _ _ _) rfl ?_)
      refine ⟨rfl, .slice (some ⟨gr, 0, none⟩) j cr, wv3, .slice (some ⟨kp, 0, none⟩) (m7.parts.length + 1) cp, ps ++ [.slice (some ⟨g5, 0, none⟩) C.length c5], ?_⟩
      have e : mm (leaveP cmpN v s) (.slice (some ⟨gr, 0, none⟩) j cr) wv3 (.slice (some ⟨kp, 0, none⟩) (m7.parts.length + 1) cp) (ps ++ [.slice (some ⟨g5, 0, none⟩) C.length c5]) = { m7 with parts := m7.parts ++ [C], ps := m7.ps ++ [.slice (some ⟨g5, 0, none⟩) C.length c5], pv := .slice (some ⟨kp, 0, none⟩) (m7.parts.length + 1) cp } := by
        have hc' : ¬ lowP v s v ≠ s.wh v := fun h => h HC.out
        unfold leaveP
        rw [if_neg hc', E7.out, E6.out, E3.out, CE.out, DR.out, TK.out]
        unfold mm
        rw [on_leave II.out xvr.out cmpN_mem]
      rw [e]
      exact H9.out
theorem leave_mid {u2 u3 u4 u5 u6 u7 u8 u9 u10 u11 u12 u13 u14 u15 u16 u17 u18 u19 u20 u21 u22 u23 u24 u25 u26 u27 u28 u29 u30 u31 u32 u33 u34 u35 u36 u37 u38 u39 u40 u41 u42 u43 u44 u45 u46 u47 u48 u49 u50 u51 u52 u53 u54 u55 u56 u57 u58 u59 u60 u61 u62 u63 u64 u65 u66 u67 u68 u69 u70 u71 u72 u73 u74 u75 u76 u77 u78 u79 u80 u81 u82 u83 u84 u85 u86 u87 u88 u89 u90 u91 u92 u93 u94 u95 u96 u97 u98 u99 u100 u101 u102 u103 u104 u105 u106 u107 u108 u109 u110 u111 u112 u113 u114 u115 u116 u117 u118 u119 u120 u121 u122 u123 u124 u125 u126 u127 u128 u129 u130 u131 u132 u133 u134 u135 u136 u137 u138 u139 u140 u141 u142 u143 : Value} (nx : Nat → List Nat) (w0 w1 w3 : World) (p : Pl) (s : T) (m3 : Mm) (rv wv3 pv : Value) (ps : List Value) (v : Nat) (I : Inv nx p.N s) (hvr : v ∈ s.row) (hb : Bd p.N s) (hN : p.N ≤ 5864062014805)
    (e3 : m3 = { mm s rv wv3 pv ps with way := s.way.tail, lo := lowP v s }) (h3 : Ws w0 w1 p w3 m3) :
    Code.wp Tryz.prog lvMid (bodyPost Tryz.prog Tryz.f50 fun e w' => e = .returned (.tuple #[]) ∧ ∃ rv' wv' pv' ps', Ws w0 w1 p w' (mm (leaveP cmpN v s) rv' wv' pv' ps')) { tmps := (.pointer (some ⟨p.g, 0, none⟩) :: .int .i64 (v : Nat) :: u2 :: u3 :: u4 :: u5 :: u6 :: u7 :: u8 :: u9 :: u10 :: u11 :: u12 :: u13 :: u14 :: u15 :: u16 :: u17 :: u18 :: u19 :: u20 :: u21 :: u22 :: u23 :: u24 :: u25 :: u26 :: u27 :: u28 :: u29 :: u30 :: u31 :: u32 :: u33 :: u34 :: u35 :: u36 :: u37 :: u38 :: u39 :: u40 :: u41 :: u42 :: u43 :: u44 :: u45 :: u46 :: u47 :: u48 :: u49 :: u50 :: u51 :: u52 :: u53 :: u54 :: u55 :: u56 :: u57 :: u58 :: u59 :: u60 :: u61 :: u62 :: u63 :: u64 :: u65 :: u66 :: u67 :: u68 :: u69 :: u70 :: u71 :: u72 :: u73 :: u74 :: u75 :: u76 :: u77 :: u78 :: u79 :: u80 :: u81 :: u82 :: u83 :: u84 :: u85 :: u86 :: u87 :: u88 :: u89 :: u90 :: u91 :: u92 :: u93 :: u94 :: u95 :: u96 :: u97 :: u98 :: u99 :: u100 :: u101 :: u102 :: u103 :: u104 :: u105 :: u106 :: u107 :: u108 :: u109 :: u110 :: u111 :: u112 :: u113 :: u114 :: u115 :: u116 :: u117 :: u118 :: u119 :: u120 :: u121 :: u122 :: u123 :: u124 :: u125 :: u126 :: u127 :: u128 :: u129 :: u130 :: u131 :: u132 :: u133 :: u134 :: u135 :: u136 :: u137 :: u138 :: u139 :: u140 :: u141 :: u142 :: u143 :: []).toArray, defers := [] } w3 := by
  have II := qA I
  have BB := qA hb
  have xvr := qA hvr
  have E3 := qA e3
  have H3 := qA h3
  have hvN : v < p.N := Inv.row_lt I hvr
  clear I hvr hb e3 h3
  obtain ⟨code, hcode⟩ : ∃ code, lvMid = code := ⟨_, rfl⟩
  rw [hcode]
  unfold lvMid Tryz.f50 at hcode
  dsimp only [bodyC, sndC, Option.getD] at hcode
  subst hcode
  have y2 : w3.cell? ⟨p.g, 2, none⟩ = some (.slice (some ⟨p.bl, 0, none⟩) p.N p.N) := H3.out.c2
  have y1 : w3.cell? ⟨p.g, 1, none⟩ = some (.slice (some ⟨p.bw, 0, none⟩) p.N p.N) := H3.out.c1
  have yl : w3.cell? ⟨p.bl, v, none⟩ = some (.int .i64 (m3.lo v : Nat)) := H3.out.ls.cell hvN
  have yw : w3.cell? ⟨p.bw, v, none⟩ = some (.int .i64 (m3.wh v : Nat)) := H3.out.ws.cell hvN
  have pv' : 0 ≤ (v : Int) := by omega
  have qv : (v : Int) < (p.N : Int) := by omega
  go_wp2
  refine start_ (n := 15) (S := fun w' => w'.cell? ⟨p.g, 2, none⟩ = some (.slice (some ⟨p.bl, 0, none⟩) p.N p.N) ∧ w'.cell? ⟨p.g, 1, none⟩ = some (.slice (some ⟨p.bw, 0, none⟩) p.N p.N) ∧ w'.cell? ⟨p.bl, v, none⟩ = some (.int .i64 (m3.lo v : Nat)) ∧ w'.cell? ⟨p.bw, v, none⟩ = some (.int .i64 (m3.wh v : Nat))) (ds := []) #[false, false, false, false, false, false, false, false, false, false, false, false, false, false, false] cq3 rfl rfl ⟨(pw_cell_below (below_drew (Below.refl _ _)) y2), (pw_cell_below (below_drew (Below.refl _ _)) y1), (pw_cell_below (below_drew (Below.refl _ _)) yl), (pw_cell_below (below_drew (Below.refl _ _)) yw)⟩ (fun hHeld => ?_)
  refine pure_ (i := 0) (N := some 63) (v := ?_) (a' := ?_) #[true, false, false, false, false, false, false, false, false, false, false, false, false, false, false] rfl rfl cq3 (fun _ _ _ h => h) (Or.inl ⟨by rfl, ?_⟩) ?_ ?_
  rotate_left
  · intro w'
    go_simp
    with_reducible rfl
  rotate_left
  · simp only [Act.put, qS, qZ, qN, i64_w, i32_w]
    rfl
  refine pure_ (i := 1) (N := some 64) (v := ?_) (a' := ?_) #[true, true, false, false, false, false, false, false, false, false, false, false, false, false, false] rfl rfl cq3 (fun _ _ _ h => h) (Or.inl ⟨by rfl, ?_⟩) ?_ ?_
  rotate_left
  · intro w'
    go_simp
    with_reducible rfl
  rotate_left
  · simp only [Act.put, qS, qZ, qN, i64_w, i32_w]
    rfl
  refine pure_ (i := 2) (N := some 65) (v := ?_) (a' := ?_) #[true, true, true, false, false, false, false, false, false, false, false, false, false, false, false] rfl rfl cq3 (fun _ _ _ h => h) (Or.inl ⟨by rfl, ?_⟩) ?_ ?_
  rotate_left
  · intro w'
    go_simp
    with_reducible rfl
  rotate_left
  · simp only [Act.put, qS, qZ, qN, i64_w, i32_w]
    rfl
  refine pure_ (i := 4) (N := some 67) (v := ?_) (a' := ?_) #[true, true, true, false, true, false, false, false, false, false, false, false, false, false, false] rfl rfl cq3 (fun _ _ _ h => h) (Or.inl ⟨by rfl, ?_⟩) ?_ ?_
  rotate_left
  · intro w'
    go_simp
    with_reducible rfl
  rotate_left
  · simp only [Act.put, qS, qZ, qN, i64_w, i32_w]
    rfl
  refine pure_ (i := 7) (N := some 70) (v := ?_) (a' := ?_) #[true, true, true, false, true, false, false, true, false, false, false, false, false, false, false] rfl rfl cq3 (fun _ _ _ h => h) (Or.inl ⟨by rfl, ?_⟩) ?_ ?_
  rotate_left
  · intro w'
    go_simp
    with_reducible rfl
  rotate_left
  · simp only [Act.put, qS, qZ, qN, i64_w, i32_w]
    rfl
  refine pure_ (i := 8) (N := some 71) (v := ?_) (a' := ?_) #[true, true, true, false, true, false, false, true, true, false, false, false, false, false, false] rfl rfl cq3 (fun _ _ _ h => h) (Or.inl ⟨by rfl, ?_⟩) ?_ ?_
  rotate_left
  · intro w'
    go_simp
    with_reducible rfl
  rotate_left
  · simp only [Act.put, qS, qZ, qN, i64_w, i32_w]
    rfl
  refine pure_ (i := 9) (N := some 72) (v := ?_) (a' := ?_) #[true, true, true, false, true, false, false, true, true, true, false, false, false, false, false] rfl rfl cq3 (fun _ _ _ h => h) (Or.inl ⟨by rfl, ?_⟩) ?_ ?_
  rotate_left
  · intro w'
    go_simp
    with_reducible rfl
  rotate_left
  · simp only [Act.put, qS, qZ, qN, i64_w, i32_w]
    rfl
  refine pure_ (i := 11) (N := some 74) (v := ?_) (a' := ?_) #[true, true, true, false, true, false, false, true, true, true, false, true, false, false, false] rfl rfl cq3 (fun _ _ _ h => h) (Or.inl ⟨by rfl, ?_⟩) ?_ ?_
  rotate_left
  · intro w'
    go_simp
    with_reducible rfl
  rotate_left
  · simp only [Act.put, qS, qZ, qN, i64_w, i32_w]
    rfl
  refine take_ (i := 3) (N := some 66) (v := ?_) (a' := ?_) #[true, true, true, true, true, false, false, true, true, true, false, true, false, false, false] rfl rfl cq3 (fun _ _ _ h => h) (Or.inl ⟨by rfl, ?_⟩) hHeld ?_ ?_
  rotate_left
  · rintro w' ⟨s0, s1, s2, s3⟩
    go_simp
    with_reducible rfl
  rotate_left
  · simp only [Act.put, qS, qZ, qN, i64_w, i32_w]
    rfl
  refine pure_ (i := 5) (N := some 68) (v := ?_) (a' := ?_) #[true, true, true, true, true, true, false, true, true, true, false, true, false, false, false] rfl rfl cq3 (fun _ _ _ h => h) (Or.inl ⟨by rfl, ?_⟩) ?_ ?_
  rotate_left
  · intro w'
    go_simp
    with_reducible rfl
  rotate_left
  · simp only [Act.put, qS, qZ, qN, i64_w, i32_w]
    rfl
  refine take_ (i := 6) (N := some 69) (v := ?_) (a' := ?_) #[true, true, true, true, true, true, true, true, true, true, false, true, false, false, false] rfl rfl cq3 (fun _ _ _ h => h) (Or.inl ⟨by rfl, ?_⟩) hHeld ?_ ?_
  rotate_left
  · rintro w' ⟨s0, s1, s2, s3⟩
    go_simp
    with_reducible rfl
  rotate_left
  · simp only [Act.put, qS, qZ, qN, i64_w, i32_w]
    rfl
  refine take_ (i := 10) (N := some 73) (v := ?_) (a' := ?_) #[true, true, true, true, true, true, true, true, true, true, true, true, false, false, false] rfl rfl cq3 (fun _ _ _ h => h) (Or.inl ⟨by rfl, ?_⟩) hHeld ?_ ?_
  rotate_left
  · rintro w' ⟨s0, s1, s2, s3⟩
    go_simp
    with_reducible rfl
  rotate_left
  · simp only [Act.put, qS, qZ, qN, i64_w, i32_w]
    rfl
  refine pure_ (i := 12) (N := some 75) (v := ?_) (a' := ?_) #[true, true, true, true, true, true, true, true, true, true, true, true, true, false, false] rfl rfl cq3 (fun _ _ _ h => h) (Or.inl ⟨by rfl, ?_⟩) ?_ ?_
  rotate_left
  · intro w'
    go_simp
    with_reducible rfl
  rotate_left
  · simp only [Act.put, qS, qZ, qN, i64_w, i32_w]
    rfl
  refine take_ (i := 13) (N := some 76) (v := ?_) (a' := ?_) #[true, true, true, true, true, true, true, true, true, true, true, true, true, true, false] rfl rfl cq3 (fun _ _ _ h => h) (Or.inl ⟨by rfl, ?_⟩) hHeld ?_ ?_
  rotate_left
  · rintro w' ⟨s0, s1, s2, s3⟩
    go_simp
    with_reducible rfl
  rotate_left
  · simp only [Act.put, qS, qZ, qN, i64_w, i32_w]
    rfl
  refine pure_ (i := 14) (N := some 77) (v := ?_) (a' := ?_) #[true, true, true, true, true, true, true, true, true, true, true, true, true, true, true] rfl rfl cq3 (fun _ _ _ h => h) (Or.inl ⟨by rfl, ?_⟩) ?_ ?_
  rotate_left
  · intro w'
    go_simp
    with_reducible rfl
  rotate_left
  · simp only [Act.put, qS, qZ, qN, i64_w, i32_w]
    rfl
  refine done_ cq3 ?_


  clear hHeld
  by_cases hc : m3.lo v = m3.wh v
  rotate_left
  · go_wp2
    first | go_end0 | ((try simp only [Exit.inBlock, Exit.then]); refine bodyPost_ret (results_none rfl _ _ _) rfl ?_)
    refine ⟨rfl, rv, wv3, pv, ps, ?_⟩
    have e : mm (leaveP cmpN v s) rv wv3 pv ps = m3 := by
      have hc' : lowP v s v ≠ s.wh v := by rw [E3.out] at hc; exact hc
      unfold leaveP
      rw [if_pos hc', E3.out]
      rfl
    rw [e]
    exact H3.out.drew
  obtain ⟨w4, ew4⟩ : ∃ w4, w4 = w3.drew := ⟨_, rfl⟩
  have H4 := qA (show Ws w0 w1 p w4 m3 by rw [ew4]; exact H3.out.drew)
  rw [← ew4]
  have er : m3.row = s.row := by rw [E3.out]; rfl
  have ev : m3.rv = rv := by rw [E3.out]; rfl
  have h0 := H4.out.rr
  rw [er, ev] at h0
  obtain ⟨gr, cr, erv, hgr, hgl, hcr⟩ := own_form h0 (List.length_pos_of_mem xvr.out)
  subst erv
  obtain ⟨q, hq⟩ : ∃ q, q = idx s v := ⟨_, rfl⟩
  obtain ⟨hix, hat, hno, htk, hdr⟩ := idx_split II.out xvr.out
  rw [← hq] at hix hat hno htk hdr
  have x3 : w4.cell? ⟨p.g, 3, none⟩ = some (.slice (some ⟨gr, 0, none⟩) s.row.length cr) := by have := H4.out.c3; rw [ev] at this; exact this
  have HR := qA (show ∀ j, j < s.row.length → w4.cell? ⟨gr, j, none⟩ = some (.int .i64 ((s.row.getD j 0 : Nat) : Int)) by
    intro j hj
    rw [h0.cellAt j cq2]
    unfold ints
    rw [List.getElem?_map, qE hj, qD, qE hj]
    rfl)
  have hrb : s.row.length ≤ 5864062014805 := by have := BB.out.r; have := BB.out.le; omega
  have hrw : wrap64 ((s.row.length : Int) - 1) = ((s.row.length - 1 : Nat) : Int) := by unfold wrap64; omega
  have AT := qA (show s.row.getD q 0 = v ∧ ∀ j, j < s.row.length → j ≠ q → s.row.getD j 0 ≠ v from ⟨by rw [qD, hat]; rfl, fun j hj hn e => hno j hj hn (by rw [qD, qE hj] at e; rw [qE hj]; exact congrArg some e)⟩)
  have IX := qA hix
  have TK := qA htk
  have DR := qA hdr
  have HG := qA (show p.B ≤ gr ∧ gr < w4.heap.size ∧ s.row.length ≤ cr from ⟨hgr, hgl, hcr⟩)
  clear hq ew4 h0 hix hat hno htk hdr hgr hgl hcr y1 y2 yl yw hvN
  go_wp2
  go_loop [5] (fun i => ∃ j : Nat, q ≤ j ∧ j < s.row.length ∧ i = .int .i64 (j : Int)) (fun i => (intOf i).toNat)
  case atStart => exact ⟨s.row.length - 1, by have := IX.out; omega, by have := IX.out; omega, by have := IX.out; congr 1; omega⟩
  case round =>
    obtain ⟨j, hj1, hj2, rfl⟩ := hrel
    obtain ⟨z, hz⟩ : ∃ z, z = s.row.getD j 0 := ⟨_, rfl⟩
    have xj : w4.cell? ⟨gr, j, none⟩ = some (.int .i64 ((z : Nat) : Int)) := by rw [hz]; exact HR.out j hj2
    have pj : 0 ≤ (j : Int) := by omega
    have qj : (j : Int) < (s.row.length : Int) := by omega
    by_cases hji : j = q
    rotate_left
    · have hne : ¬ z = v := by rw [hz]; exact AT.out.2 j hj2 hji
      clear hz
      have hj0 : wrap64 ((j : Int) - 1) = ((j - 1 : Nat) : Int) := by unfold wrap64; omega
      go_wp2
      go_round
      case rel => exact ⟨j - 1, by omega, by omega, by congr 1; omega⟩
      case measure => simp [intOf] <;> omega
    · have he : z = v := by rw [hz, hji]; exact AT.out.1
      clear hz
      rw [he] at xj
      clear he z
      subst hji
      go_wp2
      have hq' := IX.out
      clear xj hj1 hrw
      have CC := qA (part_calls w4.drew p.B gr cr j s.row (by have := H4.out.drew.rr; rw [er, ev] at this; exact this) hq' hrb)
      have pl : (j : Int) ≤ (s.row.length : Int) := by omega
      have pc : (s.row.length : Int) ≤ (cr : Int) := by have := HG.out.2.2; omega
      have pn : ¬ s.row.length = j := by omega
      refine start_ (n := 18) (S := fun w' => w'.cell? ⟨p.g, 3, none⟩ = some (.slice (some ⟨gr, 0, none⟩) s.row.length cr)) (ds := [16]) #[false, false, false, false, false, false, false, false, false, false, false, false, false, false, false, false, false, false] cq3 rfl rfl ((pw_cell_below (below_drew (Below.refl _ _)) x3)) (fun hHeld => ?_)
      refine pure_ (i := 0) (N := some 95) (v := ?_) (a' := ?_) #[true, false, false, false, false, false, false, false, false, false, false, false, false, false, false, false, false, false] rfl rfl cq3 (fun _ _ _ h => h) (Or.inl ⟨by rfl, ?_⟩) ?_ ?_
      rotate_left
      · intro w'
        go_simp
        with_reducible rfl
      rotate_left
      · simp only [Act.put, qS, qZ, qN, i64_w, i32_w]
        rfl
      refine pure_ (i := 1) (N := some 96) (v := ?_) (a' := ?_) #[true, true, false, false, false, false, false, false, false, false, false, false, false, false, false, false, false, false] rfl rfl cq3 (fun _ _ _ h => h) (Or.inl ⟨by rfl, ?_⟩) ?_ ?_
      rotate_left
      · intro w'
        go_simp
        with_reducible rfl
      rotate_left
      · simp only [Act.put, qS, qZ, qN, i64_w, i32_w]
        rfl
      refine pure_ (i := 2) (N := some 97) (v := ?_) (a' := ?_) #[true, true, true, false, false, false, false, false, false, false, false, false, false, false, false, false, false, false] rfl rfl cq3 (fun _ _ _ h => h) (Or.inl ⟨by rfl, ?_⟩) ?_ ?_
      rotate_left
      · intro w'
        go_simp
        with_reducible rfl
      rotate_left
      · simp only [Act.put, qS, qZ, qN, i64_w, i32_w]
        rfl
      refine pure_ (i := 4) (N := some 99) (v := ?_) (a' := ?_) #[true, true, true, false, true, false, false, false, false, false, false, false, false, false, false, false, false, false] rfl rfl cq3 (fun _ _ _ h => h) (Or.inl ⟨by rfl, ?_⟩) ?_ ?_
      rotate_left
      · intro w'
        go_simp
        with_reducible rfl
      rotate_left
      · simp only [Act.put, qS, qZ, qN, i64_w, i32_w]
        rfl
      refine pure_ (i := 5) (N := some 100) (v := ?_) (a' := ?_) #[true, true, true, false, true, true, false, false, false, false, false, false, false, false, false, false, false, false] rfl rfl cq3 (fun _ _ _ h => h) (Or.inl ⟨by rfl, ?_⟩) ?_ ?_
      rotate_left
      · intro w'
        go_simp
        with_reducible rfl
      rotate_left
      · simp only [Act.put, qS, qZ, qN, i64_w, i32_w]
        rfl
      refine pure_ (i := 6) (N := some 101) (v := ?_) (a' := ?_) #[true, true, true, false, true, true, true, false, false, false, false, false, false, false, false, false, false, false] rfl rfl cq3 (fun _ _ _ h => h) (Or.inl ⟨by rfl, ?_⟩) ?_ ?_
      rotate_left
      · intro w'
        go_simp
        with_reducible rfl
      rotate_left
      · simp only [Act.put, qS, qZ, qN, i64_w, i32_w]
        rfl
      refine pure_ (i := 7) (N := some 102) (v := ?_) (a' := ?_) #[true, true, true, false, true, true, true, true, false, false, false, false, false, false, false, false, false, false] rfl rfl cq3 (fun _ _ _ h => h) (Or.inl ⟨by rfl, ?_⟩) ?_ ?_
      rotate_left
      · intro w'
        go_simp
        with_reducible rfl
      rotate_left
      · simp only [Act.put, qS, qZ, qN, i64_w, i32_w]
        rfl
      refine pure_ (i := 10) (N := some 105) (v := ?_) (a' := ?_) #[true, true, true, false, true, true, true, true, false, false, true, false, false, false, false, false, false, false] rfl rfl cq3 (fun _ _ _ h => h) (Or.inl ⟨by rfl, ?_⟩) ?_ ?_
      rotate_left
      · intro w'
        go_simp
        with_reducible rfl
      rotate_left
      · simp only [Act.put, qS, qZ, qN, i64_w, i32_w]
        rfl
      refine pure_ (i := 11) (N := some 106) (v := ?_) (a' := ?_) #[true, true, true, false, true, true, true, true, false, false, true, true, false, false, false, false, false, false] rfl rfl cq3 (fun _ _ _ h => h) (Or.inl ⟨by rfl, ?_⟩) ?_ ?_
      rotate_left
      · intro w'
        go_simp
        with_reducible rfl
      rotate_left
      · simp only [Act.put, qS, qZ, qN, i64_w, i32_w]
        rfl
      refine pure_ (i := 12) (N := some 107) (v := ?_) (a' := ?_) #[true, true, true, false, true, true, true, true, false, false, true, true, true, false, false, false, false, false] rfl rfl cq3 (fun _ _ _ h => h) (Or.inl ⟨by rfl, ?_⟩) ?_ ?_
      rotate_left
      · intro w'
        go_simp
        with_reducible rfl
      rotate_left
      · simp only [Act.put, qS, qZ, qN, i64_w, i32_w]
        rfl
      refine take_ (i := 3) (N := some 98) (v := ?_) (a' := ?_) #[true, true, true, true, true, true, true, true, false, false, true, true, true, false, false, false, false, false] rfl rfl cq3 (fun _ _ _ h => h) (Or.inl ⟨by rfl, ?_⟩) hHeld ?_ ?_
      rotate_left
      · intro w' s0
        go_simp
        with_reducible rfl
      rotate_left
      · simp only [Act.put, qS, qZ, qN, i64_w, i32_w]
        rfl
      refine take_ (i := 8) (N := some 103) (v := ?_) (a' := ?_) #[true, true, true, true, true, true, true, true, true, false, true, true, true, false, false, false, false, false] rfl rfl cq3 (fun _ _ _ h => h) (Or.inl ⟨by rfl, ?_⟩) hHeld ?_ ?_
      rotate_left
      · intro w' s0
        go_simp
        with_reducible rfl
      rotate_left
      · simp only [Act.put, qS, qZ, qN, i64_w, i32_w]
        rfl
      refine pure_ (i := 9) (N := some 104) (v := ?_) (a' := ?_) #[true, true, true, true, true, true, true, true, true, true, true, true, true, false, false, false, false, false] rfl rfl cq3 (fun _ _ _ h => h) (Or.inl ⟨by rfl, ?_⟩) ?_ ?_
      rotate_left
      · intro w'
        go_simp
        with_reducible rfl
      rotate_left
      · simp only [Act.put, qS, qZ, qN, i64_w, i32_w]
        rfl
      refine take_ (i := 13) (N := some 108) (v := ?_) (a' := ?_) #[true, true, true, true, true, true, true, true, true, true, true, true, true, true, false, false, false, false] rfl rfl cq3 (fun _ _ _ h => h) (Or.inl ⟨by rfl, ?_⟩) hHeld ?_ ?_
      rotate_left
      · intro w' s0
        go_simp
        with_reducible rfl
      rotate_left
      · simp only [Act.put, qS, qZ, qN, i64_w, i32_w]
        rfl
      refine pure_ (i := 14) (N := some 109) (v := ?_) (a' := ?_) #[true, true, true, true, true, true, true, true, true, true, true, true, true, true, true, false, false, false] rfl rfl cq3 (fun _ _ _ h => h) (Or.inl ⟨by rfl, ?_⟩) ?_ ?_
      rotate_left
      · intro w'
        go_simp
        with_reducible rfl
      rotate_left
      · simp only [Act.put, qS, qZ, qN, i64_w, i32_w]
        rfl
      refine pure_ (i := 15) (N := some 110) (v := ?_) (a' := ?_) #[true, true, true, true, true, true, true, true, true, true, true, true, true, true, true, true, false, false] rfl rfl cq3 (fun _ _ _ h => h) (Or.inl ⟨by rfl, ?_⟩) ?_ ?_
      rotate_left
      · intro w'
        go_simp
        with_reducible rfl
      rotate_left
      · simp only [Act.put, qS, qZ, qN, i64_w, i32_w]
        rfl
      refine last_ (i := 16) (N := some 111) #[true, true, true, true, true, true, true, true, true, true, true, true, true, true, true, true, true, false] rfl rfl cq3 cq6 (fun K hK => ?_)
      refine goes_ Tryz.func27 cq3 rfl #[.slice (some ⟨gr, j, none⟩) (s.row.length - j) (s.row.length - j)] cq60 rfl rfl (by simp only [List.map_toArray, List.map_cons, List.map_nil]; rfl) ?_
      with_reducible refine (CC.out).mono ?_
      rintro e w5 ⟨v5, rfl, ho5, hb5⟩
      refine ⟨_, rfl, ?_⟩
      refine hK.out _ _ ?_
      clear hK K
      refine norm_ (a' := ?_) ?_ ?_
      rotate_left
      · show Act.put _ (some 111) _ = _
        simp only [Act.put, qS, qZ, qN, i64_w, i32_w]
        rfl
      refine pure_ (i := 17) (N := some 6) (v := ?_) (a' := ?_) #[true, true, true, true, true, true, true, true, true, true, true, true, true, true, true, true, true, true] rfl rfl cq3 (fun _ _ _ h => h) (Or.inl ⟨by rfl, ?_⟩) ?_ ?_
      rotate_left
      · intro w'
        go_simp
        with_reducible rfl
      rotate_left
      · simp only [Act.put, qS, qZ, qN, i64_w, i32_w]
        rfl
      refine done_ cq3 ?_
    
    
      simp only [Exit.then]
      rename_i K1 a1 K2 a2 hw9
      refine a2 _ _ ?_
      refine leave_tail nx w0 w1 w4.drew w5 p s m3 wv3 pv v5 ps v gr cr j II.out xvr.out BB.out hN E3.out ?_ H4.out.drew hq' AT.out.1 TK.out DR.out HG.out ho5 hb5
      have := hc
      rw [E3.out] at this
      exact this
theorem leave_calls (nx : Nat → List Nat) (w0 w1 w : World) (p : Pl) (s : T) (rv wv pv : Value) (ps : List Value) (v k : Nat) (r : List (Nat × Nat)) (h : Ws w0 w1 p w (mm s rv wv pv ps)) (I : Inv nx p.N s) (hw : s.way = (v, k) :: r) (hN : p.N ≤ 5864062014805) (hb : Bd p.N s) :
    Calls Tryz.prog 50 #[.pointer (some ⟨p.g, 0, none⟩), .int .i64 (v : Nat)] w fun e w' => e = .returned (.tuple #[]) ∧ ∃ rv' wv' pv' ps', Ws w0 w1 p w' (mm (leaveP cmpN v s) rv' wv' pv' ps') := by
  have hvr : v ∈ s.row := I.gr ⟨k, by rw [hw]; exact List.mem_cons_self⟩
  have hvN : v < p.N := Inv.row_lt I hvr
  obtain ⟨gy, cy, ewv, hgy, hgl, hcy⟩ := own_form h.wy (show 0 < (mm s rv wv pv ps).way.length by show 0 < s.way.length; rw [hw]; simp)
  have ewv' : wv = .slice (some ⟨gy, 0, none⟩) (r.length + 1) cy := by
    have : wv = .slice (some ⟨gy, 0, none⟩) s.way.length cy := ewv
    rw [hw] at this; exact this
  subst ewv'
  have hrl : (r.length : Int) ≤ 5864062014805 := by have := hb.w; have := hb.le; rw [hw] at *; simp at *; omega
  have hrl1 : ((r.length + 1 : Nat) : Int) = (r.length : Int) + 1 := by omega
  have H := qA h
  have II := qA I
  have BB := qA hb
  clear h I hb ewv hgy hgl
  go_enter Tryz.func50, Tryz.ntmps50
  have x5 : w.cell? ⟨p.g, 5, none⟩ = some (.slice (some ⟨gy, 0, none⟩) (r.length + 1) cy) := H.out.c5
  have f5 : w.frozen? ⟨p.g, 5, none⟩ = false := H.out.gs.frozen 5
  have hcy0 : r.length ≤ cy := by have : (r.length + 1 : Nat) ≤ cy := by rw [show (mm s rv (.slice (some ⟨gy, 0, none⟩) (r.length + 1) cy) pv ps).way.length = s.way.length from rfl, hw] at hcy; simpa using hcy
                                  omega
  have hwr : wrap64 (r.length : Int) = (r.length : Int) := by unfold wrap64; omega
  have p1 : 0 ≤ (r.length : Int) := by omega
  have q1 : (r.length : Int) ≤ (cy : Int) := by omega
  go_wp2
  refine start_ (n := 15) (S := fun w' => w'.cell? ⟨p.g, 5, none⟩ = some (.slice (some ⟨gy, 0, none⟩) (r.length + 1) cy)) (ds := [14]) #[false, false, false, false, false, false, false, false, false, false, false, false, false, false, false] cq3 rfl rfl ((H.out.drew.c5)) (fun hHeld => ?_)
  refine pure_ (i := 0) (N := some 9) (v := ?_) (a' := ?_) #[true, false, false, false, false, false, false, false, false, false, false, false, false, false, false] rfl rfl cq3 (fun _ _ _ h => h) (Or.inl ⟨by rfl, ?_⟩) ?_ ?_
  rotate_left
  · intro w'
    go_simp
    with_reducible rfl
  rotate_left
  · simp only [Act.put, qS, qZ, qN, i64_w, i32_w]
    rfl
  refine pure_ (i := 1) (N := some 10) (v := ?_) (a' := ?_) #[true, true, false, false, false, false, false, false, false, false, false, false, false, false, false] rfl rfl cq3 (fun _ _ _ h => h) (Or.inl ⟨by rfl, ?_⟩) ?_ ?_
  rotate_left
  · intro w'
    go_simp
    with_reducible rfl
  rotate_left
  · simp only [Act.put, qS, qZ, qN, i64_w, i32_w]
    rfl
  refine pure_ (i := 2) (N := some 11) (v := ?_) (a' := ?_) #[true, true, true, false, false, false, false, false, false, false, false, false, false, false, false] rfl rfl cq3 (fun _ _ _ h => h) (Or.inl ⟨by rfl, ?_⟩) ?_ ?_
  rotate_left
  · intro w'
    go_simp
    with_reducible rfl
  rotate_left
  · simp only [Act.put, qS, qZ, qN, i64_w, i32_w]
    rfl
  refine pure_ (i := 3) (N := some 12) (v := ?_) (a' := ?_) #[true, true, true, true, false, false, false, false, false, false, false, false, false, false, false] rfl rfl cq3 (fun _ _ _ h => h) (Or.inl ⟨by rfl, ?_⟩) ?_ ?_
  rotate_left
  · intro w'
    go_simp
    with_reducible rfl
  rotate_left
  · simp only [Act.put, qS, qZ, qN, i64_w, i32_w]
    rfl
  refine pure_ (i := 5) (N := some 14) (v := ?_) (a' := ?_) #[true, true, true, true, false, true, false, false, false, false, false, false, false, false, false] rfl rfl cq3 (fun _ _ _ h => h) (Or.inl ⟨by rfl, ?_⟩) ?_ ?_
  rotate_left
  · intro w'
    go_simp
    with_reducible rfl
  rotate_left
  · simp only [Act.put, qS, qZ, qN, i64_w, i32_w]
    rfl
  refine pure_ (i := 6) (N := some 15) (v := ?_) (a' := ?_) #[true, true, true, true, false, true, true, false, false, false, false, false, false, false, false] rfl rfl cq3 (fun _ _ _ h => h) (Or.inl ⟨by rfl, ?_⟩) ?_ ?_
  rotate_left
  · intro w'
    go_simp
    with_reducible rfl
  rotate_left
  · simp only [Act.put, qS, qZ, qN, i64_w, i32_w]
    rfl
  refine pure_ (i := 7) (N := some 16) (v := ?_) (a' := ?_) #[true, true, true, true, false, true, true, true, false, false, false, false, false, false, false] rfl rfl cq3 (fun _ _ _ h => h) (Or.inl ⟨by rfl, ?_⟩) ?_ ?_
  rotate_left
  · intro w'
    go_simp
    with_reducible rfl
  rotate_left
  · simp only [Act.put, qS, qZ, qN, i64_w, i32_w]
    rfl
  refine take_ (i := 4) (N := some 13) (v := ?_) (a' := ?_) #[true, true, true, true, true, true, true, true, false, false, false, false, false, false, false] rfl rfl cq3 (fun _ _ _ h => h) (Or.inl ⟨by rfl, ?_⟩) hHeld ?_ ?_
  rotate_left
  · intro w' s0
    go_simp
    with_reducible rfl
  rotate_left
  · simp only [Act.put, qS, qZ, qN, i64_w, i32_w]
    rfl
  refine take_ (i := 8) (N := some 17) (v := ?_) (a' := ?_) #[true, true, true, true, true, true, true, true, true, false, false, false, false, false, false] rfl rfl cq3 (fun _ _ _ h => h) (Or.inl ⟨by rfl, ?_⟩) hHeld ?_ ?_
  rotate_left
  · intro w' s0
    go_simp
    with_reducible rfl
  rotate_left
  · simp only [Act.put, qS, qZ, qN, i64_w, i32_w]
    rfl
  refine pure_ (i := 9) (N := some 18) (v := ?_) (a' := ?_) #[true, true, true, true, true, true, true, true, true, true, false, false, false, false, false] rfl rfl cq3 (fun _ _ _ h => h) (Or.inl ⟨by rfl, ?_⟩) ?_ ?_
  rotate_left
  · intro w'
    go_simp
    with_reducible rfl
  rotate_left
  · simp only [Act.put, qS, qZ, qN, i64_w, i32_w]
    rfl
  refine pure_ (i := 10) (N := some 19) (v := ?_) (a' := ?_) #[true, true, true, true, true, true, true, true, true, true, true, false, false, false, false] rfl rfl cq3 (fun _ _ _ h => h) (Or.inl ⟨by rfl, ?_⟩) ?_ ?_
  rotate_left
  · intro w'
    go_simp
    with_reducible rfl
  rotate_left
  · simp only [Act.put, qS, qZ, qN, i64_w, i32_w]
    rfl
  refine pure_ (i := 11) (N := some 20) (v := ?_) (a' := ?_) #[true, true, true, true, true, true, true, true, true, true, true, true, false, false, false] rfl rfl cq3 (fun _ _ _ h => h) (Or.inl ⟨by rfl, ?_⟩) ?_ ?_
  rotate_left
  · intro w'
    go_simp
    with_reducible rfl
  rotate_left
  · simp only [Act.put, qS, qZ, qN, i64_w, i32_w]
    rfl
  refine pure_ (i := 12) (N := some 21) (v := ?_) (a' := ?_) #[true, true, true, true, true, true, true, true, true, true, true, true, true, false, false] rfl rfl cq3 (fun _ _ _ h => h) (Or.inl ⟨by rfl, ?_⟩) ?_ ?_
  rotate_left
  · intro w'
    go_simp
    with_reducible rfl
  rotate_left
  · simp only [Act.put, qS, qZ, qN, i64_w, i32_w]
    rfl
  refine pure_ (i := 13) (N := some 22) (v := ?_) (a' := ?_) #[true, true, true, true, true, true, true, true, true, true, true, true, true, true, false] rfl rfl cq3 (fun _ _ _ h => h) (Or.inl ⟨by rfl, ?_⟩) ?_ ?_
  rotate_left
  · intro w'
    go_simp
    with_reducible rfl
  rotate_left
  · simp only [Act.put, qS, qZ, qN, i64_w, i32_w]
    rfl
  refine last_ (i := 14) (N := none) #[true, true, true, true, true, true, true, true, true, true, true, true, true, true, true] rfl rfl cq3 cq6 (fun K hK => ?_)
  refine skip_ (w1 := ?_) cq60 rfl ?_ ?_
  rotate_left
  · go_simp
    rfl
  refine hK.out _ _ ?_
  clear hK K
  refine done_ cq3 ?_


  obtain ⟨m2, em2⟩ : ∃ m2 : Mm, m2 = { mm s rv (.slice (some ⟨gy, 0, none⟩) (r.length + 1) cy) pv ps with way := r, wv := .slice (some ⟨gy, 0, none⟩) r.length cy } := ⟨_, rfl⟩
  obtain ⟨w2, ew2⟩ : ∃ w2, w2 = (w.setCell ⟨p.g, 5, none⟩ (.slice (some ⟨gy, 0, none⟩) r.length cy)).drew := ⟨_, rfl⟩
  have H2 := qA (show Ws w0 w1 p w2 m2 by
    rw [ew2, em2]
    exact (H.out.popWay (m := mm s rv (.slice (some ⟨gy, 0, none⟩) (r.length + 1) cy) pv ps) (k := k) hw rfl).drew)
  have E2 := qA em2
  rw [← ew2]
  have x5 : w2.cell? ⟨p.g, 5, none⟩ = some (.slice (some ⟨gy, 0, none⟩) r.length cy) := by have := H2.out.c5; rw [E2.out] at this; exact this
  clear em2 ew2 f5 hHeld hcy hwr p1 q1
  have W := qA hw
  have RR : ∀ u k', r.head? = some (u, k') → u ∈ s.row := fun u k' e => II.out.gr ⟨k', by rw [W.out]; exact List.mem_cons_of_mem _ (List.mem_of_mem_head? e)⟩
  clear hw
  have xvr := qA hvr
  clear hvr
  simp only [Exit.then]
  rename_i K1 a1
  refine a1 _ _ ?_
  refine wp_seq_k (fun K2 hK2 => ?_)
  have HK2 := qA hK2
  clear hK2 a1 K1
  rcases r with _ | ⟨⟨u, k'⟩, r'⟩
  case' nil =>
    go_wp2
    obtain ⟨w3, ew3⟩ : ∃ w3, w3 = w2 := ⟨_, rfl⟩
    obtain ⟨m3, em3⟩ : ∃ m3 : Mm, m3 = m2 := ⟨_, rfl⟩
    have H3 := qA (show Ws w0 w1 p w3 m3 by rw [ew3, em3]; exact H2.out)
    obtain ⟨wv3, E3⟩ : ∃ wv3, Aside0 (m3 = { mm s rv wv3 pv ps with way := s.way.tail, lo := lowP v s }) := ⟨.slice (some ⟨gy, 0, none⟩) 0 cy, ⟨by
      rw [em3, E2.out]
      unfold lowP
      rw [W.out]
      rfl⟩⟩
    rw [← ew3]
    clear em3 ew3 RR
    skip
    (try simp only [Exit.then])
    exact HK2.out _ _ (leave_mid nx w0 w1 w3 p s m3 rv wv3 pv ps v II.out xvr.out BB.out hN E3.out H3.out)
  case' cons =>
    have hu : u ∈ s.row := RR u k' rfl
    have huN : u < p.N := Inv.row_lt II.out hu
    clear hu RR
    have ew2 : m2.way = (u, k') :: r' := by rw [E2.out]
    obtain ⟨xu, _, _⟩ := way_cells H2.out ew2 (g := gy) (c := cy) (by rw [E2.out]; rfl)
    have e1 : ((r'.length + 1 : Nat) : Int) = (r'.length : Int) + 1 := by omega
    have x5 : w2.cell? ⟨p.g, 5, none⟩ = some (.slice (some ⟨gy, 0, none⟩) (r'.length + 1) cy) := x5
    have hwr : wrap64 (r'.length : Int) = (r'.length : Int) := by have : (((u, k') :: r').length : Int) = (r'.length : Int) + 1 := by simp
                                                                  unfold wrap64; omega
    have p1 : 0 ≤ (r'.length : Int) := by omega
    have pos : (0 : Int) < (r'.length : Int) + 1 := by omega
    have q1 : (r'.length : Int) < (r'.length : Int) + 1 := by omega
    go_wp2
    refine start_ (n := 14) (S := fun w' => w'.cell? ⟨p.g, 5, none⟩ = some (.slice (some ⟨gy, 0, none⟩) (r'.length + 1) cy) ∧ w'.cell? ⟨gy, r'.length * 2, none⟩ = some (.int .i64 (u : Nat))) (ds := []) #[false, false, false, false, false, false, false, false, false, false, false, false, false, false] cq3 rfl rfl ⟨(pw_cell_below (below_drew (Below.refl _ _)) x5), (pw_cell_below (below_drew (Below.refl _ _)) xu)⟩ (fun hHeld => ?_)
    refine pure_ (i := 0) (N := some 29) (v := ?_) (a' := ?_) #[true, false, false, false, false, false, false, false, false, false, false, false, false, false] rfl rfl cq3 (fun _ _ _ h => h) (Or.inl ⟨by rfl, ?_⟩) ?_ ?_
    rotate_left
    · intro w'
      go_simp
      with_reducible rfl
    rotate_left
    · simp only [Act.put, qS, qZ, qN, i64_w, i32_w]
      rfl
    refine pure_ (i := 1) (N := some 30) (v := ?_) (a' := ?_) #[true, true, false, false, false, false, false, false, false, false, false, false, false, false] rfl rfl cq3 (fun _ _ _ h => h) (Or.inl ⟨by rfl, ?_⟩) ?_ ?_
    rotate_left
    · intro w'
      go_simp
      with_reducible rfl
    rotate_left
    · simp only [Act.put, qS, qZ, qN, i64_w, i32_w]
      rfl
    refine pure_ (i := 2) (N := some 31) (v := ?_) (a' := ?_) #[true, true, true, false, false, false, false, false, false, false, false, false, false, false] rfl rfl cq3 (fun _ _ _ h => h) (Or.inl ⟨by rfl, ?_⟩) ?_ ?_
    rotate_left
    · intro w'
      go_simp
      with_reducible rfl
    rotate_left
    · simp only [Act.put, qS, qZ, qN, i64_w, i32_w]
      rfl
    refine pure_ (i := 4) (N := some 33) (v := ?_) (a' := ?_) #[true, true, true, false, true, false, false, false, false, false, false, false, false, false] rfl rfl cq3 (fun _ _ _ h => h) (Or.inl ⟨by rfl, ?_⟩) ?_ ?_
    rotate_left
    · intro w'
      go_simp
      with_reducible rfl
    rotate_left
    · simp only [Act.put, qS, qZ, qN, i64_w, i32_w]
      rfl
    refine pure_ (i := 5) (N := some 34) (v := ?_) (a' := ?_) #[true, true, true, false, true, true, false, false, false, false, false, false, false, false] rfl rfl cq3 (fun _ _ _ h => h) (Or.inl ⟨by rfl, ?_⟩) ?_ ?_
    rotate_left
    · intro w'
      go_simp
      with_reducible rfl
    rotate_left
    · simp only [Act.put, qS, qZ, qN, i64_w, i32_w]
      rfl
    refine pure_ (i := 6) (N := some 35) (v := ?_) (a' := ?_) #[true, true, true, false, true, true, true, false, false, false, false, false, false, false] rfl rfl cq3 (fun _ _ _ h => h) (Or.inl ⟨by rfl, ?_⟩) ?_ ?_
    rotate_left
    · intro w'
      go_simp
      with_reducible rfl
    rotate_left
    · simp only [Act.put, qS, qZ, qN, i64_w, i32_w]
      rfl
    refine take_ (i := 3) (N := some 32) (v := ?_) (a' := ?_) #[true, true, true, true, true, true, true, false, false, false, false, false, false, false] rfl rfl cq3 (fun _ _ _ h => h) (Or.inl ⟨by rfl, ?_⟩) hHeld ?_ ?_
    rotate_left
    · rintro w' ⟨s0, s1⟩
      go_simp
      with_reducible rfl
    rotate_left
    · simp only [Act.put, qS, qZ, qN, i64_w, i32_w]
      rfl
    refine take_ (i := 7) (N := some 36) (v := ?_) (a' := ?_) #[true, true, true, true, true, true, true, true, false, false, false, false, false, false] rfl rfl cq3 (fun _ _ _ h => h) (Or.inl ⟨by rfl, ?_⟩) hHeld ?_ ?_
    rotate_left
    · rintro w' ⟨s0, s1⟩
      go_simp
      with_reducible rfl
    rotate_left
    · simp only [Act.put, qS, qZ, qN, i64_w, i32_w]
      rfl
    refine pure_ (i := 8) (N := some 37) (v := ?_) (a' := ?_) #[true, true, true, true, true, true, true, true, true, false, false, false, false, false] rfl rfl cq3 (fun _ _ _ h => h) (Or.inl ⟨by rfl, ?_⟩) ?_ ?_
    rotate_left
    · intro w'
      go_simp
      with_reducible rfl
    rotate_left
    · simp only [Act.put, qS, qZ, qN, i64_w, i32_w]
      rfl
    refine pure_ (i := 9) (N := some 38) (v := ?_) (a' := ?_) #[true, true, true, true, true, true, true, true, true, true, false, false, false, false] rfl rfl cq3 (fun _ _ _ h => h) (Or.inl ⟨by rfl, ?_⟩) ?_ ?_
    rotate_left
    · intro w'
      go_simp
      with_reducible rfl
    rotate_left
    · simp only [Act.put, qS, qZ, qN, i64_w, i32_w]
      rfl
    refine pure_ (i := 10) (N := some 39) (v := ?_) (a' := ?_) #[true, true, true, true, true, true, true, true, true, true, true, false, false, false] rfl rfl cq3 (fun _ _ _ h => h) (Or.inl ⟨by rfl, ?_⟩) ?_ ?_
    rotate_left
    · intro w'
      go_simp
      with_reducible rfl
    rotate_left
    · simp only [Act.put, qS, qZ, qN, i64_w, i32_w]
      rfl
    refine pure_ (i := 11) (N := some 40) (v := ?_) (a' := ?_) #[true, true, true, true, true, true, true, true, true, true, true, true, false, false] rfl rfl cq3 (fun _ _ _ h => h) (Or.inl ⟨by rfl, ?_⟩) ?_ ?_
    rotate_left
    · intro w'
      go_simp
      with_reducible rfl
    rotate_left
    · simp only [Act.put, qS, qZ, qN, i64_w, i32_w]
      rfl
    refine take_ (i := 12) (N := some 41) (v := ?_) (a' := ?_) #[true, true, true, true, true, true, true, true, true, true, true, true, true, false] rfl rfl cq3 (fun _ _ _ h => h) (Or.inl ⟨by rfl, ?_⟩) hHeld ?_ ?_
    rotate_left
    · rintro w' ⟨s0, s1⟩
      go_simp
      with_reducible rfl
    rotate_left
    · simp only [Act.put, qS, qZ, qN, i64_w, i32_w]
      rfl
    refine pure_ (i := 13) (N := some 4) (v := ?_) (a' := ?_) #[true, true, true, true, true, true, true, true, true, true, true, true, true, true] rfl rfl cq3 (fun _ _ _ h => h) (Or.inl ⟨by rfl, ?_⟩) ?_ ?_
    rotate_left
    · intro w'
      go_simp
      with_reducible rfl
    rotate_left
    · simp only [Act.put, qS, qZ, qN, i64_w, i32_w]
      rfl
    refine done_ cq3 ?_
  
  
    have xl : w2.drew.cell? ⟨p.g, 2, none⟩ = some (.slice (some ⟨p.bl, 0, none⟩) p.N p.N) := H2.out.drew.c2
    have xlu : w2.drew.cell? ⟨p.bl, u, none⟩ = some (.int .i64 (m2.lo u : Nat)) := H2.out.drew.ls.cell huN
    have xlv : w2.drew.cell? ⟨p.bl, v, none⟩ = some (.int .i64 (m2.lo v : Nat)) := H2.out.drew.ls.cell hvN
    have fl : w2.drew.frozen? ⟨p.bl, u, none⟩ = false := H2.out.drew.ls.frozen u
    have pu : 0 ≤ (u : Int) := by omega
    have qu : (u : Int) < (p.N : Int) := by omega
    have pv' : 0 ≤ (v : Int) := by omega
    have qv : (v : Int) < (p.N : Int) := by omega
    clear hHeld
    go_wp2
    refine start_ (n := 22) (S := fun w' => w'.cell? ⟨p.g, 2, none⟩ = some (.slice (some ⟨p.bl, 0, none⟩) p.N p.N) ∧ w'.cell? ⟨p.bl, u, none⟩ = some (.int .i64 (m2.lo u : Nat)) ∧ w'.cell? ⟨p.bl, v, none⟩ = some (.int .i64 (m2.lo v : Nat))) (ds := [21]) #[false, false, false, false, false, false, false, false, false, false, false, false, false, false, false, false, false, false, false, false, false, false] cq3 rfl rfl ⟨(pw_cell_below (below_drew (Below.refl _ _)) xl), (pw_cell_below (below_drew (Below.refl _ _)) xlu), (pw_cell_below (below_drew (Below.refl _ _)) xlv)⟩ (fun hHeld => ?_)
    refine pure_ (i := 0) (N := some 42) (v := ?_) (a' := ?_) #[true, false, false, false, false, false, false, false, false, false, false, false, false, false, false, false, false, false, false, false, false, false] rfl rfl cq3 (fun _ _ _ h => h) (Or.inl ⟨by rfl, ?_⟩) ?_ ?_
    rotate_left
    · intro w'
      go_simp
      with_reducible rfl
    rotate_left
    · simp only [Act.put, qS, qZ, qN, i64_w, i32_w]
      rfl
    refine pure_ (i := 1) (N := some 43) (v := ?_) (a' := ?_) #[true, true, false, false, false, false, false, false, false, false, false, false, false, false, false, false, false, false, false, false, false, false] rfl rfl cq3 (fun _ _ _ h => h) (Or.inl ⟨by rfl, ?_⟩) ?_ ?_
    rotate_left
    · intro w'
      go_simp
      with_reducible rfl
    rotate_left
    · simp only [Act.put, qS, qZ, qN, i64_w, i32_w]
      rfl
    refine pure_ (i := 2) (N := some 44) (v := ?_) (a' := ?_) #[true, true, true, false, false, false, false, false, false, false, false, false, false, false, false, false, false, false, false, false, false, false] rfl rfl cq3 (fun _ _ _ h => h) (Or.inl ⟨by rfl, ?_⟩) ?_ ?_
    rotate_left
    · intro w'
      go_simp
      with_reducible rfl
    rotate_left
    · simp only [Act.put, qS, qZ, qN, i64_w, i32_w]
      rfl
    refine pure_ (i := 4) (N := some 46) (v := ?_) (a' := ?_) #[true, true, true, false, true, false, false, false, false, false, false, false, false, false, false, false, false, false, false, false, false, false] rfl rfl cq3 (fun _ _ _ h => h) (Or.inl ⟨by rfl, ?_⟩) ?_ ?_
    rotate_left
    · intro w'
      go_simp
      with_reducible rfl
    rotate_left
    · simp only [Act.put, qS, qZ, qN, i64_w, i32_w]
      rfl
    refine pure_ (i := 5) (N := some 47) (v := ?_) (a' := ?_) #[true, true, true, false, true, true, false, false, false, false, false, false, false, false, false, false, false, false, false, false, false, false] rfl rfl cq3 (fun _ _ _ h => h) (Or.inl ⟨by rfl, ?_⟩) ?_ ?_
    rotate_left
    · intro w'
      go_simp
      with_reducible rfl
    rotate_left
    · simp only [Act.put, qS, qZ, qN, i64_w, i32_w]
      rfl
    refine pure_ (i := 6) (N := some 48) (v := ?_) (a' := ?_) #[true, true, true, false, true, true, true, false, false, false, false, false, false, false, false, false, false, false, false, false, false, false] rfl rfl cq3 (fun _ _ _ h => h) (Or.inl ⟨by rfl, ?_⟩) ?_ ?_
    rotate_left
    · intro w'
      go_simp
      with_reducible rfl
    rotate_left
    · simp only [Act.put, qS, qZ, qN, i64_w, i32_w]
      rfl
    refine pure_ (i := 7) (N := some 49) (v := ?_) (a' := ?_) #[true, true, true, false, true, true, true, true, false, false, false, false, false, false, false, false, false, false, false, false, false, false] rfl rfl cq3 (fun _ _ _ h => h) (Or.inl ⟨by rfl, ?_⟩) ?_ ?_
    rotate_left
    · intro w'
      go_simp
      with_reducible rfl
    rotate_left
    · simp only [Act.put, qS, qZ, qN, i64_w, i32_w]
      rfl
    refine pure_ (i := 9) (N := some 51) (v := ?_) (a' := ?_) #[true, true, true, false, true, true, true, true, false, true, false, false, false, false, false, false, false, false, false, false, false, false] rfl rfl cq3 (fun _ _ _ h => h) (Or.inl ⟨by rfl, ?_⟩) ?_ ?_
    rotate_left
    · intro w'
      go_simp
      with_reducible rfl
    rotate_left
    · simp only [Act.put, qS, qZ, qN, i64_w, i32_w]
      rfl
    refine pure_ (i := 12) (N := some 54) (v := ?_) (a' := ?_) #[true, true, true, false, true, true, true, true, false, true, false, false, true, false, false, false, false, false, false, false, false, false] rfl rfl cq3 (fun _ _ _ h => h) (Or.inl ⟨by rfl, ?_⟩) ?_ ?_
    rotate_left
    · intro w'
      go_simp
      with_reducible rfl
    rotate_left
    · simp only [Act.put, qS, qZ, qN, i64_w, i32_w]
      rfl
    refine pure_ (i := 13) (N := some 55) (v := ?_) (a' := ?_) #[true, true, true, false, true, true, true, true, false, true, false, false, true, true, false, false, false, false, false, false, false, false] rfl rfl cq3 (fun _ _ _ h => h) (Or.inl ⟨by rfl, ?_⟩) ?_ ?_
    rotate_left
    · intro w'
      go_simp
      with_reducible rfl
    rotate_left
    · simp only [Act.put, qS, qZ, qN, i64_w, i32_w]
      rfl
    refine pure_ (i := 14) (N := some 56) (v := ?_) (a' := ?_) #[true, true, true, false, true, true, true, true, false, true, false, false, true, true, true, false, false, false, false, false, false, false] rfl rfl cq3 (fun _ _ _ h => h) (Or.inl ⟨by rfl, ?_⟩) ?_ ?_
    rotate_left
    · intro w'
      go_simp
      with_reducible rfl
    rotate_left
    · simp only [Act.put, qS, qZ, qN, i64_w, i32_w]
      rfl
    refine pure_ (i := 16) (N := some 58) (v := ?_) (a' := ?_) #[true, true, true, false, true, true, true, true, false, true, false, false, true, true, true, false, true, false, false, false, false, false] rfl rfl cq3 (fun _ _ _ h => h) (Or.inl ⟨by rfl, ?_⟩) ?_ ?_
    rotate_left
    · intro w'
      go_simp
      with_reducible rfl
    rotate_left
    · simp only [Act.put, qS, qZ, qN, i64_w, i32_w]
      rfl
    refine take_ (i := 3) (N := some 45) (v := ?_) (a' := ?_) #[true, true, true, true, true, true, true, true, false, true, false, false, true, true, true, false, true, false, false, false, false, false] rfl rfl cq3 (fun _ _ _ h => h) (Or.inl ⟨by rfl, ?_⟩) hHeld ?_ ?_
    rotate_left
    · rintro w' ⟨s0, s1, s2⟩
      go_simp
      with_reducible rfl
    rotate_left
    · simp only [Act.put, qS, qZ, qN, i64_w, i32_w]
      rfl
    refine take_ (i := 8) (N := some 50) (v := ?_) (a' := ?_) #[true, true, true, true, true, true, true, true, true, true, false, false, true, true, true, false, true, false, false, false, false, false] rfl rfl cq3 (fun _ _ _ h => h) (Or.inl ⟨by rfl, ?_⟩) hHeld ?_ ?_
    rotate_left
    · rintro w' ⟨s0, s1, s2⟩
      go_simp
      with_reducible rfl
    rotate_left
    · simp only [Act.put, qS, qZ, qN, i64_w, i32_w]
      rfl
    refine pure_ (i := 10) (N := some 52) (v := ?_) (a' := ?_) #[true, true, true, true, true, true, true, true, true, true, true, false, true, true, true, false, true, false, false, false, false, false] rfl rfl cq3 (fun _ _ _ h => h) (Or.inl ⟨by rfl, ?_⟩) ?_ ?_
    rotate_left
    · intro w'
      go_simp
      with_reducible rfl
    rotate_left
    · simp only [Act.put, qS, qZ, qN, i64_w, i32_w]
      rfl
    refine take_ (i := 11) (N := some 53) (v := ?_) (a' := ?_) #[true, true, true, true, true, true, true, true, true, true, true, true, true, true, true, false, true, false, false, false, false, false] rfl rfl cq3 (fun _ _ _ h => h) (Or.inl ⟨by rfl, ?_⟩) hHeld ?_ ?_
    rotate_left
    · rintro w' ⟨s0, s1, s2⟩
      go_simp
      with_reducible rfl
    rotate_left
    · simp only [Act.put, qS, qZ, qN, i64_w, i32_w]
      rfl
    refine take_ (i := 15) (N := some 57) (v := ?_) (a' := ?_) #[true, true, true, true, true, true, true, true, true, true, true, true, true, true, true, true, true, false, false, false, false, false] rfl rfl cq3 (fun _ _ _ h => h) (Or.inl ⟨by rfl, ?_⟩) hHeld ?_ ?_
    rotate_left
    · rintro w' ⟨s0, s1, s2⟩
      go_simp
      with_reducible rfl
    rotate_left
    · simp only [Act.put, qS, qZ, qN, i64_w, i32_w]
      rfl
    refine pure_ (i := 17) (N := some 59) (v := ?_) (a' := ?_) #[true, true, true, true, true, true, true, true, true, true, true, true, true, true, true, true, true, true, false, false, false, false] rfl rfl cq3 (fun _ _ _ h => h) (Or.inl ⟨by rfl, ?_⟩) ?_ ?_
    rotate_left
    · intro w'
      go_simp
      with_reducible rfl
    rotate_left
    · simp only [Act.put, qS, qZ, qN, i64_w, i32_w]
      rfl
    refine take_ (i := 18) (N := some 60) (v := ?_) (a' := ?_) #[true, true, true, true, true, true, true, true, true, true, true, true, true, true, true, true, true, true, true, false, false, false] rfl rfl cq3 (fun _ _ _ h => h) (Or.inl ⟨by rfl, ?_⟩) hHeld ?_ ?_
    rotate_left
    · rintro w' ⟨s0, s1, s2⟩
      go_simp
      with_reducible rfl
    rotate_left
    · simp only [Act.put, qS, qZ, qN, i64_w, i32_w]
      rfl
    refine pure_ (i := 19) (N := some 61) (v := ?_) (a' := ?_) #[true, true, true, true, true, true, true, true, true, true, true, true, true, true, true, true, true, true, true, true, false, false] rfl rfl cq3 (fun _ _ _ h => h) (Or.inl ⟨by rfl, ?_⟩) ?_ ?_
    rotate_left
    · intro w'
      go_simp
      with_reducible rfl
    rotate_left
    · simp only [Act.put, qS, qZ, qN, i64_w, i32_w]
      rfl
    refine pure_ (i := 20) (N := some 62) (v := ?_) (a' := ?_) #[true, true, true, true, true, true, true, true, true, true, true, true, true, true, true, true, true, true, true, true, true, false] rfl rfl cq3 (fun _ _ _ h => h) (Or.inl ⟨by rfl, ?_⟩) ?_ ?_
    rotate_left
    · intro w'
      go_simp
      with_reducible rfl
    rotate_left
    · simp only [Act.put, qS, qZ, qN, i64_w, i32_w]
      rfl
    refine last_ (i := 21) (N := none) #[true, true, true, true, true, true, true, true, true, true, true, true, true, true, true, true, true, true, true, true, true, true] rfl rfl cq3 cq6 (fun K hK => ?_)
    refine skip_ (w1 := ?_) cq60 rfl ?_ ?_
    rotate_left
    · go_simp
      rfl
    refine hK.out _ _ ?_
    clear hK K
    refine done_ cq3 ?_
  
  
    obtain ⟨w3, ew3⟩ : ∃ w3, w3 = (w2.setCell ⟨p.bl, u, none⟩ (.int .i64 (if m2.lo v < m2.lo u then ((m2.lo v : Nat) : Int) else ((m2.lo u : Nat) : Int)))).drew.drew := ⟨_, rfl⟩
    have H3 := qA (show Ws w0 w1 p w3 { m2 with lo := up m2.lo u (min (m2.lo u) (m2.lo v)) } by
      rw [ew3, show (if m2.lo v < m2.lo u then ((m2.lo v : Nat) : Int) else ((m2.lo u : Nat) : Int)) = ((min (m2.lo u) (m2.lo v) : Nat) : Int) by split <;> omega]
      exact (H2.out.setL u _).drew.drew)
    rw [← ew3]
    obtain ⟨m3, em3⟩ : ∃ m3 : Mm, m3 = { m2 with lo := up m2.lo u (min (m2.lo u) (m2.lo v)) } := ⟨_, rfl⟩
    rw [← em3] at H3
    obtain ⟨wv3, E3⟩ : ∃ wv3, Aside0 (m3 = { mm s rv wv3 pv ps with way := s.way.tail, lo := lowP v s }) := ⟨.slice (some ⟨gy, 0, none⟩) (r'.length + 1) cy, ⟨by
      rw [em3, E2.out]
      unfold lowP
      rw [W.out]
      rfl⟩⟩
    clear em3 ew3 xl xlu xlv fl pu qu hHeld x5 xu ew2 e1 hwr p1 pos q1 huN hrl hrl1 hcy0 pv' qv
    generalize (if m2.lo v < m2.lo u then ((m2.lo v : Nat) : Int) else ((m2.lo u : Nat) : Int)) = lz
    (try go_wp2)
    skip
    (try simp only [Exit.then])
    exact HK2.out _ _ (leave_mid nx w0 w1 w3 p s m3 rv wv3 pv ps v II.out xvr.out BB.out hN E3.out H3.out)
end Go.Proofs.YtligpleningglaaGreat.Cw
