/- The kit's bag of lists: one more list put into it; all of a bag's lists lie apart; ApartInts, ApartMoves. (Written by genbag.py, a program of this session.) -/
import Derived.Test.YtcmbpboeilojmaaGreatFlatH
import Derived.Test.YtcmbpboeilojmaaGreatNil
namespace Go.Proofs.YtcmbpboeilojmaaGreat.Sw
open Go Go.RowKit Go.Proofs.YtcmbpboeilojmaaGreatW.PrintWords Go.Proofs.YtcmbpboeilojmaaGreatW.PrintLast Go.Proofs.YtcmbpboeilojmaaGreatW.PrintMore Go.Proofs.YtcmbpboeilojmaaGreat.Mi Go.Proofs.YtcmbpboeilojmaaGreat.F Go.Proofs.YtcmbpboeilojmaaGreat.Keep
set_option linter.unusedVariables false
set_option linter.unusedSimpArgs false

/-- the cells of a bag in which the lists of one kind alone lie. -/
def bagC (f : Nat) (v : Value) : Array Value := ((List.replicate 28 (Value.slice none 0 0)).set f v).toArray
theorem bagC_at {f : Nat} {v : Value} (h : f < 28) : (bagC f v)[f]? = some v := by unfold bagC; simp [h]
theorem bagC_nil {f i : Nat} {v : Value} (h : i < 28) (hne : f ≠ i) : (bagC f v)[i]? = some (.slice none 0 0) := by unfold bagC; rw [List.getElem?_toArray, List.getElem?_set_ne hne, List.getElem?_replicate, if_pos h]
theorem bagC_set (f : Nat) (v u : Value) : (bagC f v).setIfInBounds f u = bagC f u := by unfold bagC; simp
theorem info27b : (Tryz.prog.info? 27).map (fun i => (i.zero, i.size, i.bytes)) = some (some (.slice none 0 0), 1, 24) := by kernel_rfl
theorem grown_setCell (w : World) (g i : Nat) (u : Value) : w.grownBy (w.setCell ⟨g, i, none⟩ u) (some g) := ⟨rfl, rfl, rfl, by simp, fun k _ hne => Below.heap_setCell w ⟨g, i, none⟩ u k (fun e => hne (by rw [e]))⟩
theorem wl_lit1 (w : World) (v : Value) (e : TypeId) : ∀ (j : Nat) (u : Value), [v][j]? = some u → (w.alloc (Obj.cells #[v] e)).cell? ((⟨w.heap.size, 0, none⟩ : Addr).add j) = some u := cells_lit1 w v e

/-! ### Homes -/
set_option maxHeartbeats 4000000 in
set_option maxRecDepth 100000 in
theorem putHomes_calls (base : Nat) (g : Nat) (A : Option Addr) (n c : Nat) (cur : Value) (vs : List Value) (m : Nat) (w : World) (hbase : base ≤ w.heap.size) (hm : m ≤ 1000)
    (hB : w.heap[g]? = some (.cells (bagC 25 cur) 79 (0, 0))) (ho : w.ownsRow base 27 1 cur m vs) (hg : cur.ownBlock ≠ some g) :
    Calls Tryz.prog 17 #[.pointer (some ⟨g, 0, none⟩), .slice A n c] w fun e w' => ∃ u : Value, e = .returned (.tuple #[]) ∧ w'.heap[g]? = some (.cells (bagC 25 u) 79 (0, 0)) ∧ w'.ownsRow base 27 1 u (m + 1) (vs ++ [.slice A n c]) ∧ u.ownBlock ≠ some g ∧
      (∀ q, q < w.heap.size → q ≠ g → cur.ownBlock ≠ some q → w'.heap[q]? = w.heap[q]?) ∧ (w'.os = w.os ∧ w'.tape = w.tape ∧ w'.output = w.output ∧ w.heap.size ≤ w'.heap.size) ∧ (u.ownBlock = cur.ownBlock ∨ ∃ b, u.ownBlock = some b ∧ w.heap.size ≤ b) := by
  obtain ⟨Ac, cc, rfl⟩ := own_slice ho
  have HO := Aside0.mk ho
  have HB := Aside0.mk hB
  have HG := Aside0.mk hg
  have hc0 : w.cell? ⟨g, 25, none⟩ = some (.slice Ac m cc) := (blk_cell hB 25).trans (bagC_at (by decide))
  have hlt := blk_lt hB
  clear ho hB hg
  go_enter Tryz.func17, Tryz.ntmps17
  go_wp2_with (first | ((with_reducible refine gate_builtin (b := .append) (xs := #[.tmp 8, .tmp 10]) rfl ?_); at_builtin; go_loud (refine O_append_keep (w0 := w) base rfl (.tmp 8) (.tmp 10) 33 27 (.slice none 0 0) 1 24 rfl Tryz.underlying33 info27b rfl (by decide) (by omega) (.slice Ac m cc) m vs 1 1 [.slice A n c] ⟨w.heap.size, 0, none⟩ ?aS ?aX rfl ?aC ?aN ?aO ?aB ?aZ ?aL ?_; (case aS => first | rfl | (simp [Act.eval]; done)); (case aX => first | rfl | (simp [Act.eval]; done)); (case aC => exact wl_lit1 _ _ _); (case aN => intro u hu; simp at hu; subst hu; rfl); (case aO => exact HO.out.alloc _); (case aB => exact (Below.refl _ _).alloc hbase _); (case aZ => simp; omega); (case aL => omega); intro v11 w4 ho1 ho2 hb hg hat; have HN4 := Aside0.mk ho1; have HG4 := Aside0.mk hg; have HAT := Aside0.mk hat; clear ho1 ho2 hb hg hat; obtain ⟨A7, c7, rfl⟩ := own_slice HN4.out; have HB4 := Aside0.mk (blk_grown (blk_alloc HB.out (Obj.cells #[Value.slice A n c] 27)) HG4.out (fun e => HG.out e.symm)); have hc4 : w4.cell? ⟨g, 25, none⟩ = some (.slice Ac m cc) := (blk_cell HB4.out 25).trans (bagC_at (by decide)); have hf4 := blk_frozen HB4.out 25; clear hc0)))
  have hgn : (Value.slice A7 (m + 1) c7).ownBlock ≠ some g := by
    intro e
    rcases HAT.out with h | h
    · exact HG.out (h.symm.trans e)
    · rw [h] at e; injection e with e; simp at e; omega
  refine bodyPost_end (v := .tuple #[]) (by simp [results, Tryz.results17, go_sem]) rfl ⟨_, rfl, ?_, own_grown HN4.out (u := .slice (some ⟨g, 0, none⟩) 0 0) (w1 := w4.setCell ⟨g, 25, none⟩ (.slice A7 (m + 1) c7)) (grown_setCell w4 g 25 _) (.inr hgn), hgn, ?_, ?_, ?_⟩
  · have := blk_put HB4.out 25 (.slice A7 (m + 1) c7) (bagC_set _ _ _)
    exact this
  · intro q hq hqg hqc
    have h1 : (w4.setCell ⟨g, 25, none⟩ (.slice A7 (m + 1) c7)).heap[q]? = w4.heap[q]? := Below.heap_setCell w4 ⟨g, 25, none⟩ _ q hqg
    rw [h1, HG4.out.block q (by simp; omega) (fun e => hqc e.symm)]
    exact Below.heap_alloc w _ q hq
  · refine ⟨HG4.out.os, HG4.out.tape, HG4.out.output, ?_⟩
    have := HG4.out.size
    simp at this ⊢
    omega
  · rcases HAT.out with h | h
    · exact .inl h
    · exact .inr ⟨_, h, by simp⟩

set_option maxHeartbeats 8000000 in
set_option maxRecDepth 100000 in
theorem bagHomes_calls (base : Nat) (g : Nat) (vls : Value) (vs : List Value) (ns : List Nat) (w : World) (hm : vs.length ≤ 100) (hn : ∀ j, ns.getD j 0 + 64 ≤ 5864062014805) (hbase : base ≤ w.heap.size)
    (hB : w.heap[g]? = some (.cells (bagC 25 vls) 79 (0, 0))) (ho : w.ownsRow base 27 1 vls vs.length vs) (hr : ∃ cs, RowsO w base 48 3 vs ns cs) (ha : Apart vs vs) (hs : ∀ j, disj vls (at_ vs j)) (hg : ∀ j, (at_ vs j).ownBlock ≠ some g) :
    Calls Tryz.prog 18 #[.pointer (some ⟨g, 0, none⟩)] w fun e w' => e = .returned (.bool true) ∧ Below base w w' ∧ KQ w w' vs := by
  obtain ⟨cs0, hr0⟩ := hr
  have HO := Aside0.mk ho
  have HR := Aside0.mk hr0
  have HA := Aside0.mk ha
  have HN := Aside0.mk hn
  have HS := Aside0.mk hs
  have HG := Aside0.mk hg
  have HB := Aside0.mk hB
  obtain ⟨A, c, rfl⟩ := own_slice ho
  have HW := Aside0.mk (Below.refl w.heap.size w)
  have hc : w.cell? ⟨g, 0, none⟩ = some (.slice none 0 0) := (blk_cell hB 0).trans (bagC_nil (by decide) (by decide))
  clear ho hr0 ha hn hs hg hB
  go_enter Tryz.func18, Tryz.ntmps18
  go_wp2_with fail
  refine (flat29_nil _).mono ?_
  rintro e w1 ⟨rfl, hb⟩
  have HB' := Aside0.mk (blk_below HB.out hb)
  have HW' := Aside0.mk (below_then HW.out HW.out.size hb)
  have HO' := Aside0.mk (pw_own_below HO.out hb)
  have HR' := Aside0.mk (HR.out.below hb)
  clear hb hc HB HW HO HR
  have HB := HB'
  have HW := HW'
  have HO := HO'
  have HR := HR'
  clear HB' HW' HO' HR'
  have hc : w1.cell? ⟨g, 1, none⟩ = some (.slice none 0 0) := (blk_cell HB.out 1).trans (bagC_nil (by decide) (by decide))
  go_wp2_with fail
  refine (flat30_nil _).mono ?_
  rintro e w2 ⟨rfl, hb⟩
  have HB' := Aside0.mk (blk_below HB.out hb)
  have HW' := Aside0.mk (below_then HW.out HW.out.size hb)
  have HO' := Aside0.mk (pw_own_below HO.out hb)
  have HR' := Aside0.mk (HR.out.below hb)
  clear hb hc HB HW HO HR
  have HB := HB'
  have HW := HW'
  have HO := HO'
  have HR := HR'
  clear HB' HW' HO' HR'
  have hc : w2.cell? ⟨g, 2, none⟩ = some (.slice none 0 0) := (blk_cell HB.out 2).trans (bagC_nil (by decide) (by decide))
  go_wp2_with fail
  refine (flat31_nil _).mono ?_
  rintro e w3 ⟨rfl, hb⟩
  have HB' := Aside0.mk (blk_below HB.out hb)
  have HW' := Aside0.mk (below_then HW.out HW.out.size hb)
  have HO' := Aside0.mk (pw_own_below HO.out hb)
  have HR' := Aside0.mk (HR.out.below hb)
  clear hb hc HB HW HO HR
  have HB := HB'
  have HW := HW'
  have HO := HO'
  have HR := HR'
  clear HB' HW' HO' HR'
  have hc : w3.cell? ⟨g, 3, none⟩ = some (.slice none 0 0) := (blk_cell HB.out 3).trans (bagC_nil (by decide) (by decide))
  go_wp2_with fail
  refine (flat32_nil _).mono ?_
  rintro e w4 ⟨rfl, hb⟩
  have HB' := Aside0.mk (blk_below HB.out hb)
  have HW' := Aside0.mk (below_then HW.out HW.out.size hb)
  have HO' := Aside0.mk (pw_own_below HO.out hb)
  have HR' := Aside0.mk (HR.out.below hb)
  clear hb hc HB HW HO HR
  have HB := HB'
  have HW := HW'
  have HO := HO'
  have HR := HR'
  clear HB' HW' HO' HR'
  have hc : w4.cell? ⟨g, 4, none⟩ = some (.slice none 0 0) := (blk_cell HB.out 4).trans (bagC_nil (by decide) (by decide))
  go_wp2_with fail
  refine (flat33_nil _).mono ?_
  rintro e w5 ⟨rfl, hb⟩
  have HB' := Aside0.mk (blk_below HB.out hb)
  have HW' := Aside0.mk (below_then HW.out HW.out.size hb)
  have HO' := Aside0.mk (pw_own_below HO.out hb)
  have HR' := Aside0.mk (HR.out.below hb)
  clear hb hc HB HW HO HR
  have HB := HB'
  have HW := HW'
  have HO := HO'
  have HR := HR'
  clear HB' HW' HO' HR'
  have hc : w5.cell? ⟨g, 5, none⟩ = some (.slice none 0 0) := (blk_cell HB.out 5).trans (bagC_nil (by decide) (by decide))
  go_wp2_with fail
  refine (flat34_nil _).mono ?_
  rintro e w6 ⟨rfl, hb⟩
  have HB' := Aside0.mk (blk_below HB.out hb)
  have HW' := Aside0.mk (below_then HW.out HW.out.size hb)
  have HO' := Aside0.mk (pw_own_below HO.out hb)
  have HR' := Aside0.mk (HR.out.below hb)
  clear hb hc HB HW HO HR
  have HB := HB'
  have HW := HW'
  have HO := HO'
  have HR := HR'
  clear HB' HW' HO' HR'
  have hc : w6.cell? ⟨g, 6, none⟩ = some (.slice none 0 0) := (blk_cell HB.out 6).trans (bagC_nil (by decide) (by decide))
  go_wp2_with fail
  refine (flat35_nil _).mono ?_
  rintro e w7 ⟨rfl, hb⟩
  have HB' := Aside0.mk (blk_below HB.out hb)
  have HW' := Aside0.mk (below_then HW.out HW.out.size hb)
  have HO' := Aside0.mk (pw_own_below HO.out hb)
  have HR' := Aside0.mk (HR.out.below hb)
  clear hb hc HB HW HO HR
  have HB := HB'
  have HW := HW'
  have HO := HO'
  have HR := HR'
  clear HB' HW' HO' HR'
  have hc : w7.cell? ⟨g, 7, none⟩ = some (.slice none 0 0) := (blk_cell HB.out 7).trans (bagC_nil (by decide) (by decide))
  go_wp2_with fail
  refine (flat36_nil _).mono ?_
  rintro e w8 ⟨rfl, hb⟩
  have HB' := Aside0.mk (blk_below HB.out hb)
  have HW' := Aside0.mk (below_then HW.out HW.out.size hb)
  have HO' := Aside0.mk (pw_own_below HO.out hb)
  have HR' := Aside0.mk (HR.out.below hb)
  clear hb hc HB HW HO HR
  have HB := HB'
  have HW := HW'
  have HO := HO'
  have HR := HR'
  clear HB' HW' HO' HR'
  have hc : w8.cell? ⟨g, 8, none⟩ = some (.slice none 0 0) := (blk_cell HB.out 8).trans (bagC_nil (by decide) (by decide))
  go_wp2_with fail
  refine (flat37_nil _).mono ?_
  rintro e w9 ⟨rfl, hb⟩
  have HB' := Aside0.mk (blk_below HB.out hb)
  have HW' := Aside0.mk (below_then HW.out HW.out.size hb)
  have HO' := Aside0.mk (pw_own_below HO.out hb)
  have HR' := Aside0.mk (HR.out.below hb)
  clear hb hc HB HW HO HR
  have HB := HB'
  have HW := HW'
  have HO := HO'
  have HR := HR'
  clear HB' HW' HO' HR'
  have hc : w9.cell? ⟨g, 9, none⟩ = some (.slice none 0 0) := (blk_cell HB.out 9).trans (bagC_nil (by decide) (by decide))
  go_wp2_with fail
  refine (flat38_nil _).mono ?_
  rintro e w10 ⟨rfl, hb⟩
  have HB' := Aside0.mk (blk_below HB.out hb)
  have HW' := Aside0.mk (below_then HW.out HW.out.size hb)
  have HO' := Aside0.mk (pw_own_below HO.out hb)
  have HR' := Aside0.mk (HR.out.below hb)
  clear hb hc HB HW HO HR
  have HB := HB'
  have HW := HW'
  have HO := HO'
  have HR := HR'
  clear HB' HW' HO' HR'
  have hc : w10.cell? ⟨g, 10, none⟩ = some (.slice none 0 0) := (blk_cell HB.out 10).trans (bagC_nil (by decide) (by decide))
  go_wp2_with fail
  refine (flat39_nil _).mono ?_
  rintro e w11 ⟨rfl, hb⟩
  have HB' := Aside0.mk (blk_below HB.out hb)
  have HW' := Aside0.mk (below_then HW.out HW.out.size hb)
  have HO' := Aside0.mk (pw_own_below HO.out hb)
  have HR' := Aside0.mk (HR.out.below hb)
  clear hb hc HB HW HO HR
  have HB := HB'
  have HW := HW'
  have HO := HO'
  have HR := HR'
  clear HB' HW' HO' HR'
  have hc : w11.cell? ⟨g, 11, none⟩ = some (.slice none 0 0) := (blk_cell HB.out 11).trans (bagC_nil (by decide) (by decide))
  go_wp2_with fail
  refine (flat40_nil _).mono ?_
  rintro e w12 ⟨rfl, hb⟩
  have HB' := Aside0.mk (blk_below HB.out hb)
  have HW' := Aside0.mk (below_then HW.out HW.out.size hb)
  have HO' := Aside0.mk (pw_own_below HO.out hb)
  have HR' := Aside0.mk (HR.out.below hb)
  clear hb hc HB HW HO HR
  have HB := HB'
  have HW := HW'
  have HO := HO'
  have HR := HR'
  clear HB' HW' HO' HR'
  have hc : w12.cell? ⟨g, 12, none⟩ = some (.slice none 0 0) := (blk_cell HB.out 12).trans (bagC_nil (by decide) (by decide))
  go_wp2_with fail
  refine (flat41_nil _).mono ?_
  rintro e w13 ⟨rfl, hb⟩
  have HB' := Aside0.mk (blk_below HB.out hb)
  have HW' := Aside0.mk (below_then HW.out HW.out.size hb)
  have HO' := Aside0.mk (pw_own_below HO.out hb)
  have HR' := Aside0.mk (HR.out.below hb)
  clear hb hc HB HW HO HR
  have HB := HB'
  have HW := HW'
  have HO := HO'
  have HR := HR'
  clear HB' HW' HO' HR'
  have hc : w13.cell? ⟨g, 13, none⟩ = some (.slice none 0 0) := (blk_cell HB.out 13).trans (bagC_nil (by decide) (by decide))
  go_wp2_with fail
  refine (flat42_nil _).mono ?_
  rintro e w14 ⟨rfl, hb⟩
  have HB' := Aside0.mk (blk_below HB.out hb)
  have HW' := Aside0.mk (below_then HW.out HW.out.size hb)
  have HO' := Aside0.mk (pw_own_below HO.out hb)
  have HR' := Aside0.mk (HR.out.below hb)
  clear hb hc HB HW HO HR
  have HB := HB'
  have HW := HW'
  have HO := HO'
  have HR := HR'
  clear HB' HW' HO' HR'
  have hc : w14.cell? ⟨g, 14, none⟩ = some (.slice none 0 0) := (blk_cell HB.out 14).trans (bagC_nil (by decide) (by decide))
  go_wp2_with fail
  refine (flat43_nil _).mono ?_
  rintro e w15 ⟨rfl, hb⟩
  have HB' := Aside0.mk (blk_below HB.out hb)
  have HW' := Aside0.mk (below_then HW.out HW.out.size hb)
  have HO' := Aside0.mk (pw_own_below HO.out hb)
  have HR' := Aside0.mk (HR.out.below hb)
  clear hb hc HB HW HO HR
  have HB := HB'
  have HW := HW'
  have HO := HO'
  have HR := HR'
  clear HB' HW' HO' HR'
  have hc : w15.cell? ⟨g, 15, none⟩ = some (.slice none 0 0) := (blk_cell HB.out 15).trans (bagC_nil (by decide) (by decide))
  go_wp2_with fail
  refine (flat44_nil _).mono ?_
  rintro e w16 ⟨rfl, hb⟩
  have HB' := Aside0.mk (blk_below HB.out hb)
  have HW' := Aside0.mk (below_then HW.out HW.out.size hb)
  have HO' := Aside0.mk (pw_own_below HO.out hb)
  have HR' := Aside0.mk (HR.out.below hb)
  clear hb hc HB HW HO HR
  have HB := HB'
  have HW := HW'
  have HO := HO'
  have HR := HR'
  clear HB' HW' HO' HR'
  have hc : w16.cell? ⟨g, 16, none⟩ = some (.slice none 0 0) := (blk_cell HB.out 16).trans (bagC_nil (by decide) (by decide))
  go_wp2_with fail
  refine (flat45_nil _).mono ?_
  rintro e w17 ⟨rfl, hb⟩
  have HB' := Aside0.mk (blk_below HB.out hb)
  have HW' := Aside0.mk (below_then HW.out HW.out.size hb)
  have HO' := Aside0.mk (pw_own_below HO.out hb)
  have HR' := Aside0.mk (HR.out.below hb)
  clear hb hc HB HW HO HR
  have HB := HB'
  have HW := HW'
  have HO := HO'
  have HR := HR'
  clear HB' HW' HO' HR'
  have hc : w17.cell? ⟨g, 17, none⟩ = some (.slice none 0 0) := (blk_cell HB.out 17).trans (bagC_nil (by decide) (by decide))
  go_wp2_with fail
  refine (flat46_nil _).mono ?_
  rintro e w18 ⟨rfl, hb⟩
  have HB' := Aside0.mk (blk_below HB.out hb)
  have HW' := Aside0.mk (below_then HW.out HW.out.size hb)
  have HO' := Aside0.mk (pw_own_below HO.out hb)
  have HR' := Aside0.mk (HR.out.below hb)
  clear hb hc HB HW HO HR
  have HB := HB'
  have HW := HW'
  have HO := HO'
  have HR := HR'
  clear HB' HW' HO' HR'
  have hc : w18.cell? ⟨g, 18, none⟩ = some (.slice none 0 0) := (blk_cell HB.out 18).trans (bagC_nil (by decide) (by decide))
  go_wp2_with fail
  refine (flat47_nil _).mono ?_
  rintro e w19 ⟨rfl, hb⟩
  have HB' := Aside0.mk (blk_below HB.out hb)
  have HW' := Aside0.mk (below_then HW.out HW.out.size hb)
  have HO' := Aside0.mk (pw_own_below HO.out hb)
  have HR' := Aside0.mk (HR.out.below hb)
  clear hb hc HB HW HO HR
  have HB := HB'
  have HW := HW'
  have HO := HO'
  have HR := HR'
  clear HB' HW' HO' HR'
  have hc : w19.cell? ⟨g, 19, none⟩ = some (.slice none 0 0) := (blk_cell HB.out 19).trans (bagC_nil (by decide) (by decide))
  go_wp2_with fail
  refine (flat48_nil _).mono ?_
  rintro e w20 ⟨rfl, hb⟩
  have HB' := Aside0.mk (blk_below HB.out hb)
  have HW' := Aside0.mk (below_then HW.out HW.out.size hb)
  have HO' := Aside0.mk (pw_own_below HO.out hb)
  have HR' := Aside0.mk (HR.out.below hb)
  clear hb hc HB HW HO HR
  have HB := HB'
  have HW := HW'
  have HO := HO'
  have HR := HR'
  clear HB' HW' HO' HR'
  have hc : w20.cell? ⟨g, 20, none⟩ = some (.slice none 0 0) := (blk_cell HB.out 20).trans (bagC_nil (by decide) (by decide))
  go_wp2_with fail
  refine (flat49_nil _).mono ?_
  rintro e w21 ⟨rfl, hb⟩
  have HB' := Aside0.mk (blk_below HB.out hb)
  have HW' := Aside0.mk (below_then HW.out HW.out.size hb)
  have HO' := Aside0.mk (pw_own_below HO.out hb)
  have HR' := Aside0.mk (HR.out.below hb)
  clear hb hc HB HW HO HR
  have HB := HB'
  have HW := HW'
  have HO := HO'
  have HR := HR'
  clear HB' HW' HO' HR'
  have hc : w21.cell? ⟨g, 21, none⟩ = some (.slice none 0 0) := (blk_cell HB.out 21).trans (bagC_nil (by decide) (by decide))
  go_wp2_with fail
  refine (flat50_nil _).mono ?_
  rintro e w22 ⟨rfl, hb⟩
  have HB' := Aside0.mk (blk_below HB.out hb)
  have HW' := Aside0.mk (below_then HW.out HW.out.size hb)
  have HO' := Aside0.mk (pw_own_below HO.out hb)
  have HR' := Aside0.mk (HR.out.below hb)
  clear hb hc HB HW HO HR
  have HB := HB'
  have HW := HW'
  have HO := HO'
  have HR := HR'
  clear HB' HW' HO' HR'
  have hc : w22.cell? ⟨g, 22, none⟩ = some (.slice none 0 0) := (blk_cell HB.out 22).trans (bagC_nil (by decide) (by decide))
  go_wp2_with fail
  refine (flat51_nil _).mono ?_
  rintro e w23 ⟨rfl, hb⟩
  have HB' := Aside0.mk (blk_below HB.out hb)
  have HW' := Aside0.mk (below_then HW.out HW.out.size hb)
  have HO' := Aside0.mk (pw_own_below HO.out hb)
  have HR' := Aside0.mk (HR.out.below hb)
  clear hb hc HB HW HO HR
  have HB := HB'
  have HW := HW'
  have HO := HO'
  have HR := HR'
  clear HB' HW' HO' HR'
  have hc : w23.cell? ⟨g, 23, none⟩ = some (.slice none 0 0) := (blk_cell HB.out 23).trans (bagC_nil (by decide) (by decide))
  go_wp2_with fail
  refine (flat52_nil _).mono ?_
  rintro e w24 ⟨rfl, hb⟩
  have HB' := Aside0.mk (blk_below HB.out hb)
  have HW' := Aside0.mk (below_then HW.out HW.out.size hb)
  have HO' := Aside0.mk (pw_own_below HO.out hb)
  have HR' := Aside0.mk (HR.out.below hb)
  clear hb hc HB HW HO HR
  have HB := HB'
  have HW := HW'
  have HO := HO'
  have HR := HR'
  clear HB' HW' HO' HR'
  have hc : w24.cell? ⟨g, 24, none⟩ = some (.slice none 0 0) := (blk_cell HB.out 24).trans (bagC_nil (by decide) (by decide))
  go_wp2_with fail
  refine (flat53_nil _).mono ?_
  rintro e w25 ⟨rfl, hb⟩
  have HB' := Aside0.mk (blk_below HB.out hb)
  have HW' := Aside0.mk (below_then HW.out HW.out.size hb)
  have HO' := Aside0.mk (pw_own_below HO.out hb)
  have HR' := Aside0.mk (HR.out.below hb)
  clear hb hc HB HW HO HR
  have HB := HB'
  have HW := HW'
  have HO := HO'
  have HR := HR'
  clear HB' HW' HO' HR'
  have hc : w25.cell? ⟨g, 25, none⟩ = some (.slice A vs.length c) := (blk_cell HB.out 25).trans (bagC_at (by decide))
  go_wp2_with fail
  refine (flatHomes_calls base (.slice A vs.length c) vs ns _ hm HN.out (Nat.le_trans hbase HW.out.size) HO.out ⟨cs0, HR.out⟩ HA.out HS.out).mono ?_
  rintro e w26 ⟨rfl, hb, hk⟩
  have HB' := Aside0.mk ((hk g (blk_lt HB.out) HG.out).trans HB.out)
  have HX := Aside0.mk ((HW.out.mono hbase).trans hb)
  have HK : Aside0 (KQ w w26 vs) := ⟨fun q hq hv => (hk q (Nat.lt_of_lt_of_le hq HW.out.size) hv).trans (HW.out.block q hq)⟩
  clear hb hk hc HO HR HN HA HS HW HB
  have HB := HB'
  clear HB'
  have hc : w26.cell? ⟨g, 26, none⟩ = some (.slice none 0 0) := (blk_cell HB.out 26).trans (bagC_nil (by decide) (by decide))
  go_wp2_with fail
  refine (flat55_nil _).mono ?_
  rintro e w27 ⟨rfl, hb⟩
  have HB' := Aside0.mk (blk_below HB.out hb)
  have HX' := Aside0.mk (below_then HX.out (Nat.le_trans hbase HX.out.size) hb)
  have HK' : Aside0 (KQ w w27 vs) := ⟨HK.out.below HX.out.size hb⟩
  clear hb hc HB HX HK
  have HB := HB'
  have HX := HX'
  have HK := HK'
  clear HB' HX' HK'
  have hc : w27.cell? ⟨g, 27, none⟩ = some (.slice none 0 0) := (blk_cell HB.out 27).trans (bagC_nil (by decide) (by decide))
  go_wp2_with fail
  refine (flat56_nil _).mono ?_
  rintro e w28 ⟨rfl, hb⟩
  have HB' := Aside0.mk (blk_below HB.out hb)
  have HX' := Aside0.mk (below_then HX.out (Nat.le_trans hbase HX.out.size) hb)
  have HK' : Aside0 (KQ w w28 vs) := ⟨HK.out.below HX.out.size hb⟩
  clear hb hc HB HX HK
  have HB := HB'
  have HX := HX'
  have HK := HK'
  clear HB' HX' HK'
  go_wp2
  go_ret
  exact ⟨rfl, HX.out, HK.out⟩

set_option maxHeartbeats 4000000 in
set_option maxRecDepth 100000 in
theorem ApartHomes_calls (base : Nat) (A : Option Addr) (c : Nat) (vs : List Value) (ns : List Nat) (w : World) (hm : vs.length ≤ 100) (hn : ∀ j, ns.getD j 0 + 64 ≤ 5864062014805) (hbase : base ≤ w.heap.size)
    (ho : w.ownsRow base 27 1 (.slice A vs.length c) vs.length vs) (hr : ∃ cs, RowsO w base 48 3 vs ns cs) (ha : Apart vs vs) :
    Calls Tryz.prog 9 #[.slice A vs.length c] w fun e w' => e = .returned (.bool true) ∧ Below base w w' ∧ KQ w w' vs := by
  obtain ⟨cs0, hr0⟩ := hr
  have HO := Aside0.mk ho
  have HR := Aside0.mk hr0
  have HA := Aside0.mk ha
  have HN := Aside0.mk hn
  have HB1 : Aside0 ((w.alloc (.cells (bagC 25 (.slice none 0 0)) 79)).heap[w.heap.size]? = some (.cells (bagC 25 (.slice none 0 0)) 79 (0, 0))) := ⟨blk_new _ _⟩
  have HO1 : Aside0 ((w.alloc (.cells (bagC 25 (.slice none 0 0)) 79)).ownsRow base 27 1 (.slice none 0 0) 0 (vs.take 0)) := ⟨⟨rfl, .inl ⟨rfl, rfl⟩⟩⟩
  have HW1 : Aside0 (Below w.heap.size w (w.alloc (.cells (bagC 25 (.slice none 0 0)) 79))) := ⟨(Below.refl _ _).alloc (Nat.le_refl _) _⟩
  clear ho hr0 ha hn
  go_enter Tryz.func9, Tryz.ntmps9
  go_wp2
  go_loopw [4] (fun v4 wr => ∃ (k : Nat) (cur : Value), k ≤ vs.length ∧ v4 = .int .i64 (k : Int) ∧ Aside0 (wr.heap[w.heap.size]? = some (.cells (bagC 25 cur) 79 (0, 0))) ∧ Aside0 (wr.ownsRow base 27 1 cur k (vs.take k)) ∧ Aside0 (cur.ownBlock = none ∨ ∃ b, cur.ownBlock = some b ∧ w.heap.size ≤ b ∧ b ≠ w.heap.size) ∧ Aside0 (Below w.heap.size w wr)) (fun v4 _ => vs.length - (intOf v4).toNat)
  case atStart => exact ⟨0, .slice none 0 0, Nat.zero_le _, rfl, HB1, HO1, ⟨.inl rfl⟩, HW1⟩
  case round =>
    clear HB1 HO1 HW1
    obtain ⟨k, cur, hk, rfl, HB, HC, HD, HW⟩ := hrel
    by_cases hlt : k < vs.length
    · obtain ⟨L, c', hLv, hLb, hLl⟩ := HO.out.form (by omega)
      injection hLv with e1 _ e2
      subst e1 e2
      have hx0 : wr.cell? ⟨L, k, none⟩ = some (at_ vs k) := pw_cell_below HW.out (by
        have := HO.out.cells (g := L) rfl k (at_ vs k) (by unfold at_; rw [List.getD_eq_getElem?_getD, List.getElem?_eq_getElem hlt]; rfl)
        rwa [add_plain] at this)
      have hk0 := HR.out k hlt
      obtain ⟨Ak, ck, hvk⟩ := own_slice hk0
      obtain ⟨n, hnk⟩ : ∃ n, ns.getD k 0 = n := ⟨_, rfl⟩
      rw [hnk] at hvk
      rw [hvk] at hx0
      have HVK := Aside0.mk hvk
      have HNE : Aside0 (cur.ownBlock ≠ some w.heap.size) := ⟨by
        rcases HD.out with h | ⟨b, h, _, h2⟩
        · rw [h]; simp
        · rw [h]; intro e; injection e with e; exact h2 e⟩
      clear hk0 hvk hnk
      go_wp2_with fail
      with_reducible refine (putHomes_calls base w.heap.size Ak n ck cur (vs.take k) k _ (Nat.le_trans hbase HW.out.size) (by omega) HB.out HC.out HNE.out).mono ?_
      rintro e w2 ⟨u, rfl, h1, h2, h3, h4, h5, h6⟩
      have HB2 := Aside0.mk h1
      have HC2 : Aside0 (w2.ownsRow base 27 1 u (k + 1) (vs.take (k + 1))) := ⟨by
        have e : vs.take (k + 1) = vs.take k ++ [.slice Ak n ck] := by
          rw [List.take_succ_eq_append_getElem hlt, ← HVK.out]
          unfold at_
          rw [List.getD_eq_getElem?_getD, List.getElem?_eq_getElem hlt]
          rfl
        rw [e]; exact h2⟩
      have HD2 : Aside0 (u.ownBlock = none ∨ ∃ b, u.ownBlock = some b ∧ w.heap.size ≤ b ∧ b ≠ w.heap.size) := ⟨by
        rcases h6 with h | ⟨b, h, hb⟩
        · rcases HD.out with h7 | ⟨b, h7, h8, h9⟩
          · exact .inl (h.trans h7)
          · exact .inr ⟨b, h.trans h7, h8, h9⟩
        · exact .inr ⟨b, h, Nat.le_trans HW.out.size hb, fun e => h3 (by rw [h, e])⟩⟩
      have HW2 : Aside0 (∀ q, q < w.heap.size → w2.heap[q]? = w.heap[q]?) := ⟨fun q hq => by
        rw [h4 q (Nat.lt_of_lt_of_le hq HW.out.size) (by omega) (by
          rcases HD.out with h7 | ⟨b, h7, h8, h9⟩
          · rw [h7]; simp
          · rw [h7]; intro e; injection e with e; omega)]
        exact HW.out.block q hq⟩
      have HWB : Aside0 (Below w.heap.size w w2) := ⟨⟨h5.1.trans HW.out.os, h5.2.1.trans HW.out.tape, h5.2.2.1.trans HW.out.output, Nat.le_trans HW.out.size h5.2.2.2, HW2.out⟩⟩
      clear h1 h2 h3 h4 h5 h6 hx0
      go_wp2
      go_roundw
      case rel => exact ⟨k + 1, u, by omega, by go_num, HB2, HC2, HD2, HWB⟩
      case measure => simp [intOf]; omega
    · obtain rfl : k = vs.length := by omega
      have HRW := Aside0.mk (HR.out.below HW.out)
      have HCW : Aside0 (wr.ownsRow base 27 1 cur vs.length vs) := ⟨by have := HC.out; rwa [List.take_length] at this⟩
      have HDJ : Aside0 (∀ j, disj cur (at_ vs j)) := ⟨fun j => by
        rcases HD.out with h | ⟨b, h, hb, _⟩
        · exact .inl h
        · by_cases hj : j < vs.length
          · exact (disj_fresh (HR.out j hj) h hb).symm
          · refine disj.symm (.inl ?_)
            unfold at_
            rw [List.getD_eq_getElem?_getD, List.getElem?_eq_none (by omega)]
            rfl⟩
      have HGJ : Aside0 (∀ j, (at_ vs j).ownBlock ≠ some w.heap.size) := ⟨fun j e => by
        by_cases hj : j < vs.length
        · have := ((HR.out j hj).lt w.heap.size e).2
          omega
        · unfold at_ at e
          rw [List.getD_eq_getElem?_getD, List.getElem?_eq_none (by omega)] at e
          cases e⟩
      go_wp2_with fail
      with_reducible refine (bagHomes_calls base w.heap.size cur vs ns _ hm HN.out (Nat.le_trans hbase HW.out.size) HB.out HCW.out ⟨cs0, HRW.out⟩ HA.out HDJ.out HGJ.out).mono ?_
      rintro e w3 ⟨rfl, hb, hk⟩
      have HX := Aside0.mk ((HW.out.mono hbase).trans hb)
      have HK : Aside0 (KQ w w3 vs) := ⟨fun q hq hv => (hk q (Nat.lt_of_lt_of_le hq HW.out.size) hv).trans (HW.out.block q hq)⟩
      clear hb hk
      go_wp2
      go_ret
      exact ⟨rfl, HX.out, HK.out⟩
end Go.Proofs.YtcmbpboeilojmaaGreat.Sw
