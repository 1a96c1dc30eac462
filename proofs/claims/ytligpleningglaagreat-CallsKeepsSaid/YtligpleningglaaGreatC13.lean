/- Texts of this proof, joined in build order: Lv. -/
import Derived.Test.YtligpleningglaaGreatCz
import Derived.Test.YtligpleningglaaGreatC10
import Derived.Test.YtligpleningglaaGreatC12
set_option linter.unusedVariables false
set_option linter.unusedSimpArgs false
set_option linter.unusedSectionVars false
set_option maxHeartbeats 8000000
set_option maxRecDepth 100000
namespace Go.Proofs.YtligpleningglaaGreat.Lk
open Go Go.RowKit Go.Proofs.YtligpleningglaaGreatW.PrintWords Go.Proofs.YtligpleningglaaGreatW.PrintLast Go.Proofs.YtligpleningglaaGreatW.PrintMore Go.Proofs.YtligpleningglaaGreat.F
def lIns : Kd S75 := Kd.iso (Kd.pair (Kd.int .u8) (Kd.pair (Kd.int .u8) (Kd.pair (Kd.int .i64) (Kd.pair lInts (Kd.pair (Kd.int .u64) (Kd.int .i64)))))) (fun x : S75 => (x.f0, x.f1, x.f2, x.f3, x.f4, x.f5))
def xIns : Kd (Bool × S75) := alt lIns k75 rfl
def mIns (i : Int) : S75 := ⟨0, 0, mkI 1 i, [], 0, 0⟩
def lInstrs : Kd (List S75) := hid 75 xIns List.length (fun l => both l (mks mIns 12))
def lBlock : Kd S58 := Kd.iso (Kd.pair lInstrs k56) (fun x : S58 => (x.f0, x.f1))
def xBlock : Kd (Bool × S58) := alt lBlock k58 rfl
def mBlock (i : Int) : S58 := ⟨[], ⟨0, mkI 1 i, ⟨0, 0⟩, 0⟩⟩
def lBlocks : Kd (List S58) := hid 58 xBlock List.length (fun l => both l (mks mBlock 12))
def lGraph : Kd S50 := Kd.iso (Kd.pair Kd.string (pairs lInts (Kd.pair (Kd.int .u8) (pairs lTypes (pairs lArrays lBlocks))))) (fun x : S50 => (x.f0, x.f1, x.f2, x.f3, x.f4, x.f5))
def xGraph : Kd (Bool × S50) := alt lGraph k50 rfl
def mText (k i : Int) : ByteArray := strOfNums [35, k % 256, (k / 256) % 256, (k / 65536) % 256, 47, i % 256, (i / 256) % 256, (i / 65536) % 256]
def mGraph (i : Int) : S50 := ⟨mText 1 i, [], 0, [], [], []⟩
def lGraphs : Kd (List S50) := hid 50 xGraph List.length (fun l => both l (mks mGraph 12))
def xInts : Kd (Bool × List Int) := alt lInts (Kd.slice 3 (Kd.int .i64)) rfl
def mRow (i : Int) : List Int := [mkI 1 i]
def lRows : Kd (List (List Int)) := hid 44 xInts List.length (fun l => both l (mks mRow 12))
def szI (x : S75) : Prop := (x.f3.length + 12) * 8 ≤ 140737488355328
def szB (b : S58) : Prop := (b.f0.length + 12) * 56 ≤ 140737488355328 ∧ ∀ x ∈ b.f0, szI x
def szG (g : S50) : Prop := (g.f1.length + 12) * 8 ≤ 140737488355328 ∧ (g.f3.length + 12) * 1 ≤ 140737488355328 ∧ (g.f4.length + 12) * 16 ≤ 140737488355328 ∧ (g.f5.length + 12) * 64 ≤ 140737488355328 ∧ ∀ b ∈ g.f5, szB b
def szP (p : List S50) : Prop := (p.length + 12) * 120 ≤ 140737488355328 ∧ ∀ g ∈ p, szG g
def szN (n : List (List Int)) : Prop := (n.length + 12) * 24 ≤ 140737488355328 ∧ ∀ l ∈ n, (l.length + 12) * 8 ≤ 140737488355328
theorem hid_form {α β : Type} {e : Nat} {d : Kd β} {len : α → Nat} {full : α → List β} {w : World} {b : Nat} {ok : Nat → Prop} {x : α} {v : Value} (h : (hid e d len full).M w b ok x [v]) : ∃ A c, v = .slice A (len x) c := by
  obtain ⟨A, c, e, -⟩ := h
  exact ⟨A, c, List.head_eq_of_cons_eq e⟩
theorem M_since {α : Type} {d : Kd α} {w : World} {base : Nat} {ok : Nat → Prop} {x : α} {cs : List Value} (h : d.M w base ok x cs) : d.M w base (fun k => base ≤ k ∧ k < w.heap.size) x cs := d.M_mono (fun _ hk => ⟨hk.2.1, hk.2.2.1⟩) (d.M_bound h)
theorem lIns_mk {w : World} {b : Nat} {ok : Nat → Prop} {x : S75} {v3 : Value} (h : lInts.M w b ok x.f3 [v3]) : lIns.M w b ok x [.int .u8 x.f0, .int .u8 x.f1, .int .i64 x.f2, v3, .int .u64 x.f4, .int .i64 x.f5] :=
  ⟨[.int .u8 x.f0], [.int .u8 x.f1, .int .i64 x.f2, v3, .int .u64 x.f4, .int .i64 x.f5], rfl, rfl, ⟨[.int .u8 x.f1], [.int .i64 x.f2, v3, .int .u64 x.f4, .int .i64 x.f5], rfl, rfl, ⟨[.int .i64 x.f2], [v3, .int .u64 x.f4, .int .i64 x.f5], rfl, rfl, ⟨[v3], [.int .u64 x.f4, .int .i64 x.f5], rfl, h, ⟨[.int .u64 x.f4], [.int .i64 x.f5], rfl, rfl, rfl⟩⟩⟩⟩⟩
theorem lBlock_mk {w : World} {b : Nat} {ok : Nat → Prop} {x : S58} {v0 : Value} (h : lInstrs.M w b ok x.f0 [v0]) : lBlock.M w b ok x [v0, .int .u8 x.f1.f0, .int .i64 x.f1.f1, .int .i64 x.f1.f2.f0, .int .i64 x.f1.f2.f1, .int .u8 x.f1.f3] :=
  ⟨[v0], [.int .u8 x.f1.f0, .int .i64 x.f1.f1, .int .i64 x.f1.f2.f0, .int .i64 x.f1.f2.f1, .int .u8 x.f1.f3], rfl, h, k56_mkM w b ok x.f1⟩
theorem lGraph_mk {w : World} {b n1 n2 n3 : Nat} {ok : Nat → Prop} {x : S50} {v1 v3 v4 v5 : Value} (h1 : lInts.M w b (fun k => ok k ∧ k < n1) x.f1 [v1]) (h3 : lTypes.M w b (fun k => ok k ∧ n1 ≤ k ∧ k < n2) x.f3 [v3]) (h4 : lArrays.M w b (fun k => ok k ∧ n2 ≤ k ∧ k < n3) x.f4 [v4]) (h5 : lBlocks.M w b (fun k => ok k ∧ n3 ≤ k) x.f5 [v5]) (h12 : n1 ≤ n2) (h23 : n2 ≤ n3) :
    lGraph.M w b ok x [.string x.f0, v1, .int .u8 x.f2, v3, v4, v5] :=
  ⟨[.string x.f0], [v1, .int .u8 x.f2, v3, v4, v5], rfl, rfl, ⟨fun k => k < n1, [v1], [.int .u8 x.f2, v3, v4, v5], rfl, h1, ⟨[.int .u8 x.f2], [v3, v4, v5], rfl, rfl, ⟨fun k => k < n2, [v3], [v4, v5], rfl, lTypes.M_mono (fun k hk => ⟨⟨hk.1, by have := hk.2; omega⟩, hk.2.2⟩) h3,
    ⟨fun k => k < n3, [v4], [v5], rfl, lArrays.M_mono (fun k hk => ⟨⟨⟨hk.1, by have := hk.2; omega⟩, by have := hk.2; omega⟩, hk.2.2⟩) h4, lBlocks.M_mono (fun k hk => ⟨⟨⟨hk.1, by have := hk.2; omega⟩, by have := hk.2; omega⟩, by have := hk.2; omega⟩) h5⟩⟩⟩⟩⟩
theorem lGraph_form {w : World} {b : Nat} {ok : Nat → Prop} {x : S50} {v1 v3 v4 v5 : Value} (h : lGraph.M w b ok x [.string x.f0, v1, .int .u8 x.f2, v3, v4, v5]) : ∃ A1 c1 A3 c3 A4 c4 A5 c5, v1 = .slice A1 x.f1.length c1 ∧ v3 = .slice A3 x.f3.length c3 ∧ v4 = .slice A4 x.f4.length c4 ∧ v5 = .slice A5 x.f5.length c5 := by
  obtain ⟨_, _, e, rfl, _, _, _, rfl, ⟨A1, c1, rfl, -⟩, _, _, rfl, rfl, _, _, _, rfl, ⟨A3, c3, rfl, -⟩, _, _, _, rfl, ⟨A4, c4, rfl, -⟩, ⟨A5, c5, rfl, -⟩⟩ := h
  simp only [List.cons_append, List.nil_append, List.cons.injEq] at e
  obtain ⟨-, rfl, -, rfl, rfl, rfl, -⟩ := e
  exact ⟨A1, c1, A3, c3, A4, c4, A5, c5, rfl, rfl, rfl, rfl⟩
theorem markIns_calls (k i : Int) (w : World) (h0 : 0 ≤ k) (h1 : k ≤ 1000) (h2 : 0 ≤ i) (h3 : i ≤ 281474976710656) : Calls Tryz.prog 110 #[.int .i64 k, .int .i64 i] w fun e w' => e = .returned (.agg #[.int .u8 0, .int .u8 0, .int .i64 (mkI k i), .slice none 0 0, .int .u64 0, .int .i64 0]) ∧ Below w.heap.size w w' := by
  refine markIns_nil k i 0 0 (mkI k i) [] 0 0 w ?_
  unfold smithykit_markIns.f
  rw [mark_f k i h0 h1 h2 h3]
  rfl
theorem markBlock_calls (k i : Int) (w : World) (h0 : 0 ≤ k) (h1 : k ≤ 1000) (h2 : 0 ≤ i) (h3 : i ≤ 281474976710656) : Calls Tryz.prog 91 #[.int .i64 k, .int .i64 i] w fun e w' => e = .returned (.agg #[.slice none 0 0, .int .u8 0, .int .i64 (mkI k i), .int .i64 0, .int .i64 0, .int .u8 0]) ∧ Below w.heap.size w w' := by
  refine markBlock_nil k i [] 0 (mkI k i) 0 0 0 w ?_
  unfold smithykit_markBlock.f
  rw [mark_f k i h0 h1 h2 h3]
  rfl
theorem markGraph_calls (k i : Int) (w : World) (h0 : 0 ≤ k) (h1 : k ≤ 1000) (h2 : 0 ≤ i) (h3 : i ≤ 281474976710656) : Calls Tryz.prog 26 #[.int .i64 k, .int .i64 i] w fun e w' => e = .returned (.agg #[.string (mText k i), .slice none 0 0, .int .u8 0, .slice none 0 0, .slice none 0 0, .slice none 0 0]) ∧ Below w.heap.size w w' := by
  refine markGraph_nil k i (mText k i) [] 0 [] [] [] w ?_
  unfold smithykit_markGraph.f smithykit_markText.f
  rfl
theorem lentIns_calls (x : S75) (A3 : Option Addr) (c3 : Nat) (w : World) (hc3 : x.f3.length ≤ c3) (hr3 : Kd.C (Kd.int .i64) w A3 x.f3.length x.f3) (hs : szI x) :
    Calls Tryz.prog 143 #[.agg #[.int .u8 x.f0, .int .u8 x.f1, .int .i64 x.f2, .slice A3 x.f3.length c3, .int .u64 x.f4, .int .i64 x.f5]] w fun e w' => ∃ v3 : Value, e = .returned (.agg #[.int .u8 x.f0, .int .u8 x.f1, .int .i64 x.f2, v3, .int .u64 x.f4, .int .i64 x.f5]) ∧ lInts.M w' w.heap.size (fun _ => True) x.f3 [v3] ∧ Below w.heap.size w w' := by
  have HR3 := qA hr3
  have HS := qA hs
  have huT := Tryz.underlying75
  clear hs hr3
  go_enter Tryz.func143, Tryz.ntmps143
  go_wp2_with (first | ((with_reducible refine gate_dst (N := 1) rfl ?_); refine box_event ?hg (N := 1) ?hd (cs := #[.int .u8 x.f0, .int .u8 x.f1, .int .i64 x.f2, .slice A3 x.f3.length c3, .int .u64 x.f4, .int .i64 x.f5]) (t := 75) ?hr ?_; (case hd => rfl); (case hg => rfl); (case hr => first | (go_simp; done) | (go_simp; rfl)); intro g1 e1 w1 b1 hb1) | ((with_reducible refine gate_dst (N := 2) rfl ?_); refine box_event ?hg (N := 2) ?hd (cs := #[.int .u8 0, .int .u8 0, .int .i64 0, .slice none 0 0, .int .u64 0, .int .i64 0]) (t := 75) ?hr ?_; (case hd => rfl); (case hg => rfl); (case hr => first | (go_simp; done) | (go_simp; rfl)); intro g2 e2 w2 b2 hb2; have B1 := qA (blk_below b1 hb2); have B2 := qA b2; have L1 := qA (show w.heap.size ≤ g1 by omega); have L2 := qA (show w.heap.size ≤ g2 by rw [e2]; exact hb1.size); have D12 := qA (show g1 ≠ g2 by have := blk_lt b1; omega); have HB := qA (below_step hb1 hb2); have HB2 := qA (show w.heap.size ≤ w2.heap.size from HB.out.size); have T1 := qA (blk_lt B1.out); have T2 := qA (blk_lt b2); have Z := qA (Nat.le_refl w2.heap.size); clear e1 e2 b1 b2 hb1 hb2; have hzg1_3 : w2.cell? ⟨g1, 3, none⟩ = some (.slice A3 x.f3.length c3) := (blk_cell B1.out 3).trans rfl))
  refine (lentInts_calls A3 c3 x.f3 _ (Kd.C_below HR3.out HB.out) hc3 HS.out).mono ?_
  rintro e w10 ⟨v3, rfl, hM, hb⟩
  obtain ⟨Av3, cv3, hv⟩ := hid_form hM
  subst hv
  have M3 := qA (M_since hM)
  replace B1 := qA (blk_below B1.out hb)
  replace B2 := qA (blk_below B2.out hb)
  replace HB := qA (below_step HB.out hb)
  have Y3 := qA (show w2.heap.size ≤ w2.heap.size from Z.out)
  have X3 := qA (show w2.heap.size ≤ w10.heap.size from hb.size)
  replace Z := qA (Nat.le_trans Z.out hb.size)
  clear hM hb hzg1_3
  have hy : w10.cell? ⟨g1, 3, none⟩ = some (.slice A3 x.f3.length c3) := (blk_cell B1.out 3).trans rfl
  have hyf := blk_frozen B1.out 3
  go_wp2_with (first | ((with_reducible refine gate_store (t := 44) (p := 6) rfl ?_); go_loud (refine store_event (t := 44) (p := 6) (v := ?vo3) (w1 := (w10.setCell ⟨g1, 3, none⟩ (.slice Av3 x.f3.length cv3))) ?hg ?ho ?hn ?hr ?_; (case ho => rfl); (case hg => rfl); (case hn => rfl); (case hr => first | (go_simp; done) | (go_simp; rfl)); intro w20 hw; replace B1 := qA (show w20.heap[g1]? = some (.cells #[.int .u8 x.f0, .int .u8 x.f1, .int .i64 x.f2, .slice Av3 x.f3.length cv3, .int .u64 x.f4, .int .i64 x.f5] 75 (0, 0)) by rw [hw]; exact blk_put B1.out 3 _ rfl); replace B2 := qA (show w20.heap[g2]? = some (.cells #[.int .u8 0, .int .u8 0, .int .i64 0, .slice none 0 0, .int .u64 0, .int .i64 0] 75 (0, 0)) by rw [hw]; exact (Below.heap_setCell _ _ _ _ (Ne.symm D12.out)).trans B2.out); replace HB := qA (show Below w.heap.size w w20 by rw [hw]; exact below_set HB.out L1.out); replace Z := qA (show w2.heap.size ≤ w20.heap.size by have := Z.out; rw [hw]; simpa [World.setCell] using this); have U3 := qA (show w20.heap.size = w10.heap.size by rw [hw]; simp [World.setCell]); replace M3 := qA (show lInts.M w20 w2.heap.size (fun k => w2.heap.size ≤ k ∧ k < w10.heap.size) x.f3 [.slice Av3 x.f3.length cv3] by rw [hw]; exact Kd.M_far M3.out (fun k hk => by show k ≠ g1; have := hk.1; have := T1.out; have := Y3.out; omega) _); clear hw hy hyf; have hzg1_0 : w20.cell? ⟨g1, 0, none⟩ = some (.int .u8 x.f0) := (blk_cell B1.out 0).trans rfl; have hzg1_1 : w20.cell? ⟨g1, 1, none⟩ = some (.int .u8 x.f1) := (blk_cell B1.out 1).trans rfl; have hzg1_2 : w20.cell? ⟨g1, 2, none⟩ = some (.int .i64 x.f2) := (blk_cell B1.out 2).trans rfl; have hzg1_3 : w20.cell? ⟨g1, 3, none⟩ = some (.slice Av3 x.f3.length cv3) := (blk_cell B1.out 3).trans rfl; have hzg1_4 : w20.cell? ⟨g1, 4, none⟩ = some (.int .u64 x.f4) := (blk_cell B1.out 4).trans rfl; have hzg1_5 : w20.cell? ⟨g1, 5, none⟩ = some (.int .i64 x.f5) := (blk_cell B1.out 5).trans rfl; have hzg2_0 : w20.cell? ⟨g2, 0, none⟩ = some (.int .u8 0) := (blk_cell B2.out 0).trans rfl; have hzg2_1 : w20.cell? ⟨g2, 1, none⟩ = some (.int .u8 0) := (blk_cell B2.out 1).trans rfl; have hzg2_2 : w20.cell? ⟨g2, 2, none⟩ = some (.int .i64 0) := (blk_cell B2.out 2).trans rfl; have hzg2_3 : w20.cell? ⟨g2, 3, none⟩ = some (.slice none 0 0) := (blk_cell B2.out 3).trans rfl; have hzg2_4 : w20.cell? ⟨g2, 4, none⟩ = some (.int .u64 0) := (blk_cell B2.out 4).trans rfl; have hzg2_5 : w20.cell? ⟨g2, 5, none⟩ = some (.int .i64 0) := (blk_cell B2.out 5).trans rfl; have hfg2_0 := blk_frozen B2.out 0; have hfg2_1 := blk_frozen B2.out 1; have hfg2_2 := blk_frozen B2.out 2; have hfg2_3 := blk_frozen B2.out 3; have hfg2_4 := blk_frozen B2.out 4; have hfg2_5 := blk_frozen B2.out 5)))
  refine bodyPost_ret (results_cell_row rfl _ _ g2 75 #[.int .u8 x.f0, .int .u8 x.f1, .int .i64 x.f2, .slice Av3 x.f3.length cv3, .int .u64 x.f4, .int .i64 x.f5] (0, 0) _ rfl (by refine blk_put (cs := #[.int .u8 x.f0, .int .u8 x.f1, .int .i64 x.f2, .slice Av3 x.f3.length cv3, .int .u64 x.f4, .int .i64 0]) ?_ 5 _ rfl; refine blk_put (cs := #[.int .u8 x.f0, .int .u8 x.f1, .int .i64 x.f2, .slice Av3 x.f3.length cv3, .int .u64 0, .int .i64 0]) ?_ 4 _ rfl; refine blk_put (cs := #[.int .u8 x.f0, .int .u8 x.f1, .int .i64 x.f2, .slice none 0 0, .int .u64 0, .int .i64 0]) ?_ 3 _ rfl; refine blk_put (cs := #[.int .u8 x.f0, .int .u8 x.f1, .int .i64 0, .slice none 0 0, .int .u64 0, .int .i64 0]) ?_ 2 _ rfl; refine blk_put (cs := #[.int .u8 x.f0, .int .u8 0, .int .i64 0, .slice none 0 0, .int .u64 0, .int .i64 0]) ?_ 1 _ rfl; refine blk_put (cs := #[.int .u8 0, .int .u8 0, .int .i64 0, .slice none 0 0, .int .u64 0, .int .i64 0]) ?_ 0 _ rfl; exact B2.out) Tryz.underlying75 rfl cq3) rfl ?_
  exact ⟨_, rfl, lInts.M_lower HB2.out (lInts.M_mono (ok := (fun k => w2.heap.size ≤ k ∧ k < w10.heap.size)) (fun _ _ => trivial) cq36), cq43⟩
theorem lentInstrs_calls (A : Option Addr) (c : Nat) (l : List S75) (w : World) (hc : l.length ≤ c) (hr : Kd.C k75 w A l.length l) (hl : (l.length + 12) * 56 ≤ 140737488355328) (hsz : ∀ x ∈ l, szI x) :
    Calls Tryz.prog 121 #[.slice A l.length c] w fun e w' => ∃ v, e = .returned v ∧ (hid 75 xIns List.length (fun l => both l (mks mIns 12))).M w' w.heap.size (fun _ => True) l [v] ∧ Below w.heap.size w w' := by
  have HR := qA hr
  have HSZ := qA hsz
  obtain ⟨i0, hi, hz0, hz1, hz2⟩ := info_parts info75
  obtain ⟨w0, hrun, hown, hg⟩ := run_make_own (P := Tryz.prog) w w.heap.size 51 75 i0 (.agg #[.int .u8 0, .int .u8 0, .int .i64 0, .slice none 0 0, .int .u64 0, .int .i64 0]) 6 Tryz.underlying51 hi hz0 hz1 .i64 .i64 (l.length + 12) cq49 cq35 (Nat.le_refl _)
  rw [show ((l.length + 12 : Nat) : Int) = (l.length : Int) + 12 by omega] at hrun
  have HB0 : Aside0 (Below w.heap.size w w0) := ⟨(Below.refl _ _).grown hg (Nat.le_refl _) (fun k hk => by cases hk)⟩
  have HO0 : Aside0 (Kd.S xIns 75 w0 w.heap.size (fun _ => True) (.slice (some ⟨w.heap.size, 0, none⟩) 0 (l.length + 12)) (both (l.take 0) [])) := ⟨⟨fun _ => 0, fun _ _ => trivial, [], hown, Reps.none _ _⟩⟩
  have hlm : l.length + 12 ≤ 9223372036854775807 := by omega
  have HL := qA hl
  clear hi hz0 hz1 hz2 hown hg hr hl hsz
  go_enter Tryz.func121, Tryz.ntmps121
  go_wp2
  go_loopw [3, 4] (fun v3 v4 wr => ∃ j : Nat, j ≤ l.length ∧ v4 = .int .i64 (j : Int) ∧ Aside0 (Kd.S xIns 75 wr w.heap.size (fun _ => True) v3 (both (l.take j) [])) ∧ Aside0 (Below w.heap.size w wr)) (fun _ i _ => l.length - (intOf i).toNat)
  case atStart => exact ⟨0, by omega, rfl, HO0, HB0⟩
  case round =>
    clear HO0 HB0 hrun
    obtain ⟨j, hj, rfl, HO, HB⟩ := hrel
    by_cases hlt : j < l.length
    · obtain ⟨wo, rfl⟩ : ∃ wo : World, wo = wr := ⟨_, rfl⟩
      have HLL := qA (show (both (l.take j) ([] : List S75)).length = j by rw [both_len, List.length_take]; simp; omega)
      have HJ := qA (show both (l.take (j + 1)) [] = both (l.take j) [] ++ [(true, l[j])] by rw [List.take_succ_eq_append_getElem hlt, both_snoc_l])
      obtain ⟨ad, A3, c3, hA, hx0, hx1, hx2, hx3, hx4, hx5, hc3, hr3⟩ := at_T75 (Kd.C_below HR.out HB.out) (j : Int) cq2 cq2
      subst hA
      have HX := qA (HSZ.out l[j] (List.getElem_mem hlt))
      obtain ⟨x, hx⟩ : ∃ x, x = l[j] := ⟨_, rfl⟩
      have hrd : rd_T75 l (j : Int) = x := by rw [hx]; unfold rd_T75; rw [Int.toNat_natCast, qD, qE hlt]; rfl
      rw [hrd] at hx0 hx1 hx2 hx3 hx4 hx5 hc3 hr3
      rw [Int.toNat_natCast] at hx0 hx1 hx2 hx3 hx4 hx5
      rw [← hx] at HX HJ
      have hlt' : (j : Int) < (l.length : Int) := by omega
      clear hx hrd
      go_wp2_with fail
      refine (lentIns_calls x A3 c3 _ hc3 hr3 HX.out).mono ?_
      rintro e w2 ⟨v3, rfl, hM3, hb⟩
      obtain ⟨Av3, cv3, hv3⟩ := hid_form hM3; subst hv3;
      have HM := qA (lIns_mk (lInts.M_lower HB.out.size (M_since hM3)))
      have HO2 := qA (Kd.S_mono (ok' := fun k => True ∧ ¬ (wo.heap.size ≤ k ∧ k < w2.heap.size)) (Kd.S_below (Kd.S_bound HO.out) hb) (fun k hk => ⟨trivial, fun h2 => by have := hk.2.2.1; omega⟩))
      have HV := qA (Kd.S_lt HO.out)
      have HB2 := qA (below_then HB.out HB.out.size hb)
      clear hb hM3 hx0 hx1 hx2 hx3 hx4 hx5 hc3 hr3
      go_wp2_with (first | ((with_reducible refine gate_builtin (b := .append) (xs := #[.tmp 22, .tmp 24]) rfl ?_); at_builtin; go_loud (refine Kd.S_append xIns (w0 := w) w.heap.size rfl (.tmp 22) (.tmp 24) 51 75 (.agg #[.int .u8 0, .int .u8 0, .int .i64 0, .slice none 0 0, .int .u64 0, .int .i64 0]) 56 rfl Tryz.underlying51 info75 rfl cq6 cq2 u3 (both (l.take j) []) (true, x) [.int .u8 x.f0, .int .u8 x.f1, .int .i64 x.f2, .slice Av3 x.f3.length cv3, .int .u64 x.f4, .int .i64 x.f5] (fun _ => True) (fun k => wo.heap.size ≤ k ∧ k < w2.heap.size) rfl ?aX ?aM ?aO (fun _ _ => trivial) ?aS ?aB ?aZ ?aL ?_; (case aX => simp [Act.eval]); (case aM => exact .inl ⟨rfl, M_of_below HM.out cq41⟩); (case aO => exact fun k hk => ⟨trivial, fun e => by have := HV.out k e.symm; omega⟩); (case aS => repeat (first | (with_reducible exact HO2.out) | refine Kd.S_alloc ?_ _)); (case aB => repeat (first | (with_reducible exact HB2.out) | refine below_alloc ?_ _)); (case aZ => have := HB2.out.size; simp; omega); (case aL => have := HLL.out; have := HL.out; omega); intro v1 w1 ho hb hg hat; have HO4 := qA ho; have HB4 := qA hb; clear ho hb hg hat)))
      go_roundw
      case rel => exact ⟨j + 1, by omega, by go_num, ⟨by rw [HJ.out]; exact HO4.out⟩, HB4⟩
      case measure => simp [intOf]; omega
    · obtain rfl : j = l.length := by omega
      rw [List.take_length] at HO
      have hge : ¬ (l.length : Int) < (l.length : Int) := by omega
      have HO5 : Aside0 (Kd.S xIns 75 wr w.heap.size (fun _ => True) u3 (both l (mks mIns 0))) := HO
      clear HO
      go_wp2
      go_loopw [3, 6] (fun v3 v6 wr => ∃ j : Nat, j ≤ 12 ∧ v6 = .int .i64 (j : Int) ∧ Aside0 (Kd.S xIns 75 wr w.heap.size (fun _ => True) v3 (both l (mks mIns j))) ∧ Aside0 (Below w.heap.size w wr)) (fun _ i _ => 12 - (intOf i).toNat)
      case atStart => exact ⟨0, by omega, rfl, HO5, HB⟩
      case round =>
        clear HO5 HB hge
        obtain ⟨j, hj, rfl, HO, HB⟩ := hrel
        by_cases hlt : j < 12
        · obtain ⟨wo, rfl⟩ : ∃ wo : World, wo = wr := ⟨_, rfl⟩
          have HLL := qA (show (both l (mks mIns j)).length = l.length + j by rw [both_len, mks_len])
          have HJ := qA (show both l (mks mIns (j + 1)) = both l (mks mIns j) ++ [(false, mIns (j : Int))] by rw [mks_succ, both_snoc_r])
          have hlt' : (j : Int) < 12 := by omega
          go_wp2_with fail
          refine (markIns_calls 1 (j : Int) _ cq2 cq2 cq2 cq2).mono ?_
          rintro e w2 ⟨rfl, hb⟩
          have HO2 := qA (Kd.S_mono (ok' := fun k => True ∧ ¬ False) (Kd.S_below HO.out hb) (fun k hk => ⟨trivial, id⟩))
          have HB2 := qA (below_then HB.out HB.out.size hb)
          clear hb
          go_wp2_with (first | ((with_reducible refine gate_builtin (b := .append) (xs := #[.tmp 30, .tmp 33]) rfl ?_); at_builtin; go_loud (refine Kd.S_append xIns (w0 := w) w.heap.size rfl (.tmp 30) (.tmp 33) 51 75 (.agg #[.int .u8 0, .int .u8 0, .int .i64 0, .slice none 0 0, .int .u64 0, .int .i64 0]) 56 rfl Tryz.underlying51 info75 rfl cq6 cq2 u3 (both l (mks mIns j)) (false, mIns (j : Int)) [.int .u8 0, .int .u8 0, .int .i64 (mkI 1 (j : Int)), .slice none 0 0, .int .u64 0, .int .i64 0] (fun _ => True) (fun _ => False) rfl rfl ?aM (fun _ hk => hk.elim) (fun _ _ => trivial) ?aS ?aB ?aZ ?aL ?_; (case aM => exact .inr ⟨rfl, k75_mkM _ _ _ (mIns (j : Int)) (Kd.R_nil _ _ _ _ _)⟩); (case aS => repeat (first | (with_reducible exact HO2.out) | refine Kd.S_alloc ?_ _)); (case aB => repeat (first | (with_reducible exact HB2.out) | refine below_alloc ?_ _)); (case aZ => have := HB2.out.size; simp; omega); (case aL => have := HLL.out; have := HL.out; omega); intro v1 w1 ho hb hg hat; have HO4 := qA ho; have HB4 := qA hb; clear ho hb hg hat)))
          go_roundw
          case rel => exact ⟨j + 1, by omega, by go_num, ⟨by rw [HJ.out]; exact HO4.out⟩, HB4⟩
          case measure => simp [intOf]; omega
        · obtain rfl : j = 12 := by omega
          have hge : ¬ (12 : Int) < 12 := by omega
          have HLL := qA (show (both l (mks mIns 12)).length = l.length + 12 by rw [both_len, mks_len])
          obtain ⟨g, cap, rfl, hgb, hgl, _⟩ := Kd.R_form (Kd.S_R HO.out) cq55
          have hrd := Kd.R_reads' (Kd.S_R HO.out)
          have hcap : l.length + 12 ≤ cap := by have := hrd.2.1; have := HLL.out; omega
          have hcap2 : l.length ≤ cap := by omega
          clear hrd hgb hgl
          go_wp2
          go_ret
          exact ⟨_, rfl, ⟨_, cap, rfl, by have := HLL.out; show l.length ≤ (both l (mks mIns 12)).length; omega, HO.out⟩, HB.out⟩
theorem lentBlock_calls (x : S58) (A0 : Option Addr) (c0 : Nat) (w : World) (hc0 : x.f0.length ≤ c0) (hr0 : Kd.C k75 w A0 x.f0.length x.f0) (hs : szB x) :
    Calls Tryz.prog 90 #[.agg #[.slice A0 x.f0.length c0, .int .u8 x.f1.f0, .int .i64 x.f1.f1, .int .i64 x.f1.f2.f0, .int .i64 x.f1.f2.f1, .int .u8 x.f1.f3]] w fun e w' => ∃ v0 : Value, e = .returned (.agg #[v0, .int .u8 x.f1.f0, .int .i64 x.f1.f1, .int .i64 x.f1.f2.f0, .int .i64 x.f1.f2.f1, .int .u8 x.f1.f3]) ∧ lInstrs.M w' w.heap.size (fun _ => True) x.f0 [v0] ∧ Below w.heap.size w w' := by
  have HR0 := qA hr0
  have HS := qA hs
  have huT := Tryz.underlying58
  clear hs hr0
  go_enter Tryz.func90, Tryz.ntmps90
  go_wp2_with (first | ((with_reducible refine gate_dst (N := 1) rfl ?_); refine box_event ?hg (N := 1) ?hd (cs := #[.slice A0 x.f0.length c0, .int .u8 x.f1.f0, .int .i64 x.f1.f1, .int .i64 x.f1.f2.f0, .int .i64 x.f1.f2.f1, .int .u8 x.f1.f3]) (t := 58) ?hr ?_; (case hd => rfl); (case hg => rfl); (case hr => first | (go_simp; done) | (go_simp; rfl)); intro g1 e1 w1 b1 hb1) | ((with_reducible refine gate_dst (N := 2) rfl ?_); refine box_event ?hg (N := 2) ?hd (cs := #[.slice none 0 0, .int .u8 0, .int .i64 0, .int .i64 0, .int .i64 0, .int .u8 0]) (t := 58) ?hr ?_; (case hd => rfl); (case hg => rfl); (case hr => first | (go_simp; done) | (go_simp; rfl)); intro g2 e2 w2 b2 hb2; have B1 := qA (blk_below b1 hb2); have B2 := qA b2; have L1 := qA (show w.heap.size ≤ g1 by omega); have L2 := qA (show w.heap.size ≤ g2 by rw [e2]; exact hb1.size); have D12 := qA (show g1 ≠ g2 by have := blk_lt b1; omega); have HB := qA (below_step hb1 hb2); have HB2 := qA (show w.heap.size ≤ w2.heap.size from HB.out.size); have T1 := qA (blk_lt B1.out); have T2 := qA (blk_lt b2); have Z := qA (Nat.le_refl w2.heap.size); clear e1 e2 b1 b2 hb1 hb2; have hzg1_0 : w2.cell? ⟨g1, 0, none⟩ = some (.slice A0 x.f0.length c0) := (blk_cell B1.out 0).trans rfl))
  refine (lentInstrs_calls A0 c0 x.f0 _ hc0 (Kd.C_below HR0.out HB.out) HS.out.1 HS.out.2).mono ?_
  rintro e w10 ⟨v0, rfl, hM, hb⟩
  obtain ⟨Av0, cv0, hv⟩ := hid_form hM
  subst hv
  have M0 := qA (M_since hM)
  replace B1 := qA (blk_below B1.out hb)
  replace B2 := qA (blk_below B2.out hb)
  replace HB := qA (below_step HB.out hb)
  have Y0 := qA (show w2.heap.size ≤ w2.heap.size from Z.out)
  have X0 := qA (show w2.heap.size ≤ w10.heap.size from hb.size)
  replace Z := qA (Nat.le_trans Z.out hb.size)
  clear hM hb hzg1_0
  have hy : w10.cell? ⟨g1, 0, none⟩ = some (.slice A0 x.f0.length c0) := (blk_cell B1.out 0).trans rfl
  have hyf := blk_frozen B1.out 0
  go_wp2_with (first | ((with_reducible refine gate_store (t := 51) (p := 6) rfl ?_); go_loud (refine store_event (t := 51) (p := 6) (v := ?vo0) (w1 := (w10.setCell ⟨g1, 0, none⟩ (.slice Av0 x.f0.length cv0))) ?hg ?ho ?hn ?hr ?_; (case ho => rfl); (case hg => rfl); (case hn => rfl); (case hr => first | (go_simp; done) | (go_simp; rfl)); intro w20 hw; replace B1 := qA (show w20.heap[g1]? = some (.cells #[.slice Av0 x.f0.length cv0, .int .u8 x.f1.f0, .int .i64 x.f1.f1, .int .i64 x.f1.f2.f0, .int .i64 x.f1.f2.f1, .int .u8 x.f1.f3] 58 (0, 0)) by rw [hw]; exact blk_put B1.out 0 _ rfl); replace B2 := qA (show w20.heap[g2]? = some (.cells #[.slice none 0 0, .int .u8 0, .int .i64 0, .int .i64 0, .int .i64 0, .int .u8 0] 58 (0, 0)) by rw [hw]; exact (Below.heap_setCell _ _ _ _ (Ne.symm D12.out)).trans B2.out); replace HB := qA (show Below w.heap.size w w20 by rw [hw]; exact below_set HB.out L1.out); replace Z := qA (show w2.heap.size ≤ w20.heap.size by have := Z.out; rw [hw]; simpa [World.setCell] using this); have U0 := qA (show w20.heap.size = w10.heap.size by rw [hw]; simp [World.setCell]); replace M0 := qA (show lInstrs.M w20 w2.heap.size (fun k => w2.heap.size ≤ k ∧ k < w10.heap.size) x.f0 [.slice Av0 x.f0.length cv0] by rw [hw]; exact Kd.M_far M0.out (fun k hk => by show k ≠ g1; have := hk.1; have := T1.out; have := Y0.out; omega) _); clear hw hy hyf; have hzg1_0 : w20.cell? ⟨g1, 0, none⟩ = some (.slice Av0 x.f0.length cv0) := (blk_cell B1.out 0).trans rfl; have hzg1_1 : w20.cell? ⟨g1, 1, none⟩ = some (.int .u8 x.f1.f0) := (blk_cell B1.out 1).trans rfl; have hzg1_2 : w20.cell? ⟨g1, 2, none⟩ = some (.int .i64 x.f1.f1) := (blk_cell B1.out 2).trans rfl; have hzg1_3 : w20.cell? ⟨g1, 3, none⟩ = some (.int .i64 x.f1.f2.f0) := (blk_cell B1.out 3).trans rfl; have hzg1_4 : w20.cell? ⟨g1, 4, none⟩ = some (.int .i64 x.f1.f2.f1) := (blk_cell B1.out 4).trans rfl; have hzg1_5 : w20.cell? ⟨g1, 5, none⟩ = some (.int .u8 x.f1.f3) := (blk_cell B1.out 5).trans rfl; have hzg2_0 : w20.cell? ⟨g2, 0, none⟩ = some (.slice none 0 0) := (blk_cell B2.out 0).trans rfl; have hzg2_1 : w20.cell? ⟨g2, 1, none⟩ = some (.int .u8 0) := (blk_cell B2.out 1).trans rfl; have hzg2_2 : w20.cell? ⟨g2, 2, none⟩ = some (.int .i64 0) := (blk_cell B2.out 2).trans rfl; have hzg2_3 : w20.cell? ⟨g2, 3, none⟩ = some (.int .i64 0) := (blk_cell B2.out 3).trans rfl; have hzg2_4 : w20.cell? ⟨g2, 4, none⟩ = some (.int .i64 0) := (blk_cell B2.out 4).trans rfl; have hzg2_5 : w20.cell? ⟨g2, 5, none⟩ = some (.int .u8 0) := (blk_cell B2.out 5).trans rfl; have hfg2_0 := blk_frozen B2.out 0; have hfg2_1 := blk_frozen B2.out 1; have hfg2_2 := blk_frozen B2.out 2; have hfg2_3 := blk_frozen B2.out 3; have hfg2_4 := blk_frozen B2.out 4; have hfg2_5 := blk_frozen B2.out 5)))
  refine bodyPost_ret (results_cell_row rfl _ _ g2 58 #[.slice Av0 x.f0.length cv0, .int .u8 x.f1.f0, .int .i64 x.f1.f1, .int .i64 x.f1.f2.f0, .int .i64 x.f1.f2.f1, .int .u8 x.f1.f3] (0, 0) _ rfl (by refine blk_put (cs := #[.slice Av0 x.f0.length cv0, .int .u8 x.f1.f0, .int .i64 x.f1.f1, .int .i64 x.f1.f2.f0, .int .i64 x.f1.f2.f1, .int .u8 0]) ?_ 5 _ rfl; refine blk_put (cs := #[.slice Av0 x.f0.length cv0, .int .u8 x.f1.f0, .int .i64 x.f1.f1, .int .i64 x.f1.f2.f0, .int .i64 0, .int .u8 0]) ?_ 4 _ rfl; refine blk_put (cs := #[.slice Av0 x.f0.length cv0, .int .u8 x.f1.f0, .int .i64 x.f1.f1, .int .i64 0, .int .i64 0, .int .u8 0]) ?_ 3 _ rfl; refine blk_put (cs := #[.slice Av0 x.f0.length cv0, .int .u8 x.f1.f0, .int .i64 0, .int .i64 0, .int .i64 0, .int .u8 0]) ?_ 2 _ rfl; refine blk_put (cs := #[.slice Av0 x.f0.length cv0, .int .u8 0, .int .i64 0, .int .i64 0, .int .i64 0, .int .u8 0]) ?_ 1 _ rfl; refine blk_put (cs := #[.slice none 0 0, .int .u8 0, .int .i64 0, .int .i64 0, .int .i64 0, .int .u8 0]) ?_ 0 _ rfl; exact B2.out) Tryz.underlying58 rfl cq3) rfl ?_
  exact ⟨_, rfl, lInstrs.M_lower HB2.out (lInstrs.M_mono (ok := (fun k => w2.heap.size ≤ k ∧ k < w10.heap.size)) (fun _ _ => trivial) (by repeat (first | (with_reducible exact M0.out) | refine Kd.M_far ?_ (fun k hk => by show k ≠ g2; have := hk.1; have := T2.out; have := Y0.out; omega) _))), cq43⟩
theorem lentBlocks_calls (A : Option Addr) (c : Nat) (l : List S58) (w : World) (hc : l.length ≤ c) (hr : Kd.C k58 w A l.length l) (hl : (l.length + 12) * 64 ≤ 140737488355328) (hsz : ∀ x ∈ l, szB x) :
    Calls Tryz.prog 44 #[.slice A l.length c] w fun e w' => ∃ v, e = .returned v ∧ (hid 58 xBlock List.length (fun l => both l (mks mBlock 12))).M w' w.heap.size (fun _ => True) l [v] ∧ Below w.heap.size w w' := by
  have HR := qA hr
  have HSZ := qA hsz
  obtain ⟨i0, hi, hz0, hz1, hz2⟩ := info_parts info58
  obtain ⟨w0, hrun, hown, hg⟩ := run_make_own (P := Tryz.prog) w w.heap.size 48 58 i0 (.agg #[.slice none 0 0, .int .u8 0, .int .i64 0, .int .i64 0, .int .i64 0, .int .u8 0]) 6 Tryz.underlying48 hi hz0 hz1 .i64 .i64 (l.length + 12) cq49 cq35 (Nat.le_refl _)
  rw [show ((l.length + 12 : Nat) : Int) = (l.length : Int) + 12 by omega] at hrun
  have HB0 : Aside0 (Below w.heap.size w w0) := ⟨(Below.refl _ _).grown hg (Nat.le_refl _) (fun k hk => by cases hk)⟩
  have HO0 : Aside0 (Kd.S xBlock 58 w0 w.heap.size (fun _ => True) (.slice (some ⟨w.heap.size, 0, none⟩) 0 (l.length + 12)) (both (l.take 0) [])) := ⟨⟨fun _ => 0, fun _ _ => trivial, [], hown, Reps.none _ _⟩⟩
  have hlm : l.length + 12 ≤ 9223372036854775807 := by omega
  have HL := qA hl
  clear hi hz0 hz1 hz2 hown hg hr hl hsz
  go_enter Tryz.func44, Tryz.ntmps44
  go_wp2
  go_loopw [3, 4] (fun v3 v4 wr => ∃ j : Nat, j ≤ l.length ∧ v4 = .int .i64 (j : Int) ∧ Aside0 (Kd.S xBlock 58 wr w.heap.size (fun _ => True) v3 (both (l.take j) [])) ∧ Aside0 (Below w.heap.size w wr)) (fun _ i _ => l.length - (intOf i).toNat)
  case atStart => exact ⟨0, by omega, rfl, HO0, HB0⟩
  case round =>
    clear HO0 HB0 hrun
    obtain ⟨j, hj, rfl, HO, HB⟩ := hrel
    by_cases hlt : j < l.length
    · obtain ⟨wo, rfl⟩ : ∃ wo : World, wo = wr := ⟨_, rfl⟩
      have HLL := qA (show (both (l.take j) ([] : List S58)).length = j by rw [both_len, List.length_take]; simp; omega)
      have HJ := qA (show both (l.take (j + 1)) [] = both (l.take j) [] ++ [(true, l[j])] by rw [List.take_succ_eq_append_getElem hlt, both_snoc_l])
      obtain ⟨ad, A0, c0, hA, hx0, hx1, hx2, hx3, hx4, hx5, hc0, hr0⟩ := at_T58 (Kd.C_below HR.out HB.out) (j : Int) cq2 cq2
      subst hA
      have HX := qA (HSZ.out l[j] (List.getElem_mem hlt))
      obtain ⟨x, hx⟩ : ∃ x, x = l[j] := ⟨_, rfl⟩
      have hrd : rd_T58 l (j : Int) = x := by rw [hx]; unfold rd_T58; rw [Int.toNat_natCast, qD, qE hlt]; rfl
      rw [hrd] at hx0 hx1 hx2 hx3 hx4 hx5 hc0 hr0
      rw [Int.toNat_natCast] at hx0 hx1 hx2 hx3 hx4 hx5
      rw [← hx] at HX HJ
      have hlt' : (j : Int) < (l.length : Int) := by omega
      clear hx hrd
      go_wp2_with fail
      refine (lentBlock_calls x A0 c0 _ hc0 hr0 HX.out).mono ?_
      rintro e w2 ⟨v0, rfl, hM0, hb⟩
      obtain ⟨Av0, cv0, hv0⟩ := hid_form hM0; subst hv0;
      have HM := qA (lBlock_mk (lInstrs.M_lower HB.out.size (M_since hM0)))
      have HO2 := qA (Kd.S_mono (ok' := fun k => True ∧ ¬ (wo.heap.size ≤ k ∧ k < w2.heap.size)) (Kd.S_below (Kd.S_bound HO.out) hb) (fun k hk => ⟨trivial, fun h2 => by have := hk.2.2.1; omega⟩))
      have HV := qA (Kd.S_lt HO.out)
      have HB2 := qA (below_then HB.out HB.out.size hb)
      clear hb hM0 hx0 hx1 hx2 hx3 hx4 hx5 hc0 hr0
      go_wp2_with (first | ((with_reducible refine gate_builtin (b := .append) (xs := #[.tmp 22, .tmp 24]) rfl ?_); at_builtin; go_loud (refine Kd.S_append xBlock (w0 := w) w.heap.size rfl (.tmp 22) (.tmp 24) 48 58 (.agg #[.slice none 0 0, .int .u8 0, .int .i64 0, .int .i64 0, .int .i64 0, .int .u8 0]) 64 rfl Tryz.underlying48 info58 rfl cq6 cq2 u3 (both (l.take j) []) (true, x) [.slice Av0 x.f0.length cv0, .int .u8 x.f1.f0, .int .i64 x.f1.f1, .int .i64 x.f1.f2.f0, .int .i64 x.f1.f2.f1, .int .u8 x.f1.f3] (fun _ => True) (fun k => wo.heap.size ≤ k ∧ k < w2.heap.size) rfl ?aX ?aM ?aO (fun _ _ => trivial) ?aS ?aB ?aZ ?aL ?_; (case aX => simp [Act.eval]); (case aM => exact .inl ⟨rfl, M_of_below HM.out cq41⟩); (case aO => exact fun k hk => ⟨trivial, fun e => by have := HV.out k e.symm; omega⟩); (case aS => repeat (first | (with_reducible exact HO2.out) | refine Kd.S_alloc ?_ _)); (case aB => repeat (first | (with_reducible exact HB2.out) | refine below_alloc ?_ _)); (case aZ => have := HB2.out.size; simp; omega); (case aL => have := HLL.out; have := HL.out; omega); intro v1 w1 ho hb hg hat; have HO4 := qA ho; have HB4 := qA hb; clear ho hb hg hat)))
      go_roundw
      case rel => exact ⟨j + 1, by omega, by go_num, ⟨by rw [HJ.out]; exact HO4.out⟩, HB4⟩
      case measure => simp [intOf]; omega
    · obtain rfl : j = l.length := by omega
      rw [List.take_length] at HO
      have hge : ¬ (l.length : Int) < (l.length : Int) := by omega
      have HO5 : Aside0 (Kd.S xBlock 58 wr w.heap.size (fun _ => True) u3 (both l (mks mBlock 0))) := HO
      clear HO
      go_wp2
      go_loopw [3, 6] (fun v3 v6 wr => ∃ j : Nat, j ≤ 12 ∧ v6 = .int .i64 (j : Int) ∧ Aside0 (Kd.S xBlock 58 wr w.heap.size (fun _ => True) v3 (both l (mks mBlock j))) ∧ Aside0 (Below w.heap.size w wr)) (fun _ i _ => 12 - (intOf i).toNat)
      case atStart => exact ⟨0, by omega, rfl, HO5, HB⟩
      case round =>
        clear HO5 HB hge
        obtain ⟨j, hj, rfl, HO, HB⟩ := hrel
        by_cases hlt : j < 12
        · obtain ⟨wo, rfl⟩ : ∃ wo : World, wo = wr := ⟨_, rfl⟩
          have HLL := qA (show (both l (mks mBlock j)).length = l.length + j by rw [both_len, mks_len])
          have HJ := qA (show both l (mks mBlock (j + 1)) = both l (mks mBlock j) ++ [(false, mBlock (j : Int))] by rw [mks_succ, both_snoc_r])
          have hlt' : (j : Int) < 12 := by omega
          go_wp2_with fail
          refine (markBlock_calls 1 (j : Int) _ cq2 cq2 cq2 cq2).mono ?_
          rintro e w2 ⟨rfl, hb⟩
          have HO2 := qA (Kd.S_mono (ok' := fun k => True ∧ ¬ False) (Kd.S_below HO.out hb) (fun k hk => ⟨trivial, id⟩))
          have HB2 := qA (below_then HB.out HB.out.size hb)
          clear hb
          go_wp2_with (first | ((with_reducible refine gate_builtin (b := .append) (xs := #[.tmp 30, .tmp 33]) rfl ?_); at_builtin; go_loud (refine Kd.S_append xBlock (w0 := w) w.heap.size rfl (.tmp 30) (.tmp 33) 48 58 (.agg #[.slice none 0 0, .int .u8 0, .int .i64 0, .int .i64 0, .int .i64 0, .int .u8 0]) 64 rfl Tryz.underlying48 info58 rfl cq6 cq2 u3 (both l (mks mBlock j)) (false, mBlock (j : Int)) [.slice none 0 0, .int .u8 0, .int .i64 (mkI 1 (j : Int)), .int .i64 0, .int .i64 0, .int .u8 0] (fun _ => True) (fun _ => False) rfl rfl ?aM (fun _ hk => hk.elim) (fun _ _ => trivial) ?aS ?aB ?aZ ?aL ?_; (case aM => exact .inr ⟨rfl, k58_mkM _ _ _ (mBlock (j : Int)) (Kd.R_nil _ _ _ _ _)⟩); (case aS => repeat (first | (with_reducible exact HO2.out) | refine Kd.S_alloc ?_ _)); (case aB => repeat (first | (with_reducible exact HB2.out) | refine below_alloc ?_ _)); (case aZ => have := HB2.out.size; simp; omega); (case aL => have := HLL.out; have := HL.out; omega); intro v1 w1 ho hb hg hat; have HO4 := qA ho; have HB4 := qA hb; clear ho hb hg hat)))
          go_roundw
          case rel => exact ⟨j + 1, by omega, by go_num, ⟨by rw [HJ.out]; exact HO4.out⟩, HB4⟩
          case measure => simp [intOf]; omega
        · obtain rfl : j = 12 := by omega
          have hge : ¬ (12 : Int) < 12 := by omega
          have HLL := qA (show (both l (mks mBlock 12)).length = l.length + 12 by rw [both_len, mks_len])
          obtain ⟨g, cap, rfl, hgb, hgl, _⟩ := Kd.R_form (Kd.S_R HO.out) cq55
          have hrd := Kd.R_reads' (Kd.S_R HO.out)
          have hcap : l.length + 12 ≤ cap := by have := hrd.2.1; have := HLL.out; omega
          have hcap2 : l.length ≤ cap := by omega
          clear hrd hgb hgl
          go_wp2
          go_ret
          exact ⟨_, rfl, ⟨_, cap, rfl, by have := HLL.out; show l.length ≤ (both l (mks mBlock 12)).length; omega, HO.out⟩, HB.out⟩
theorem lentGraph_calls (x : S50) (A1 : Option Addr) (c1 : Nat) (A3 : Option Addr) (c3 : Nat) (A4 : Option Addr) (c4 : Nat) (A5 : Option Addr) (c5 : Nat) (w : World) (hc1 : x.f1.length ≤ c1) (hr1 : Kd.C (Kd.int .i64) w A1 x.f1.length x.f1) (hc3 : x.f3.length ≤ c3) (hr3 : Kd.C (Kd.int .u8) w A3 x.f3.length x.f3) (hc4 : x.f4.length ≤ c4) (hr4 : Kd.C k155 w A4 x.f4.length x.f4) (hc5 : x.f5.length ≤ c5) (hr5 : Kd.C k58 w A5 x.f5.length x.f5) (hs : szG x) :
    Calls Tryz.prog 25 #[.agg #[.string x.f0, .slice A1 x.f1.length c1, .int .u8 x.f2, .slice A3 x.f3.length c3, .slice A4 x.f4.length c4, .slice A5 x.f5.length c5]] w fun e w' => ∃ v1 v3 v4 v5 : Value, e = .returned (.agg #[.string x.f0, v1, .int .u8 x.f2, v3, v4, v5]) ∧ lGraph.M w' w.heap.size (fun _ => True) x [.string x.f0, v1, .int .u8 x.f2, v3, v4, v5] ∧ Below w.heap.size w w' := by
  have HR1 := qA hr1
  have HR3 := qA hr3
  have HR4 := qA hr4
  have HR5 := qA hr5
  have HS := qA hs
  have huT := Tryz.underlying50
  clear hs hr1 hr3 hr4 hr5
  go_enter Tryz.func25, Tryz.ntmps25
  go_wp2_with (first | ((with_reducible refine gate_dst (N := 1) rfl ?_); refine box_event ?hg (N := 1) ?hd (cs := #[.string x.f0, .slice A1 x.f1.length c1, .int .u8 x.f2, .slice A3 x.f3.length c3, .slice A4 x.f4.length c4, .slice A5 x.f5.length c5]) (t := 50) ?hr ?_; (case hd => rfl); (case hg => rfl); (case hr => first | (go_simp; done) | (go_simp; rfl)); intro g1 e1 w1 b1 hb1) | ((with_reducible refine gate_dst (N := 2) rfl ?_); refine box_event ?hg (N := 2) ?hd (cs := #[.string (⟨#[]⟩ : ByteArray), .slice none 0 0, .int .u8 0, .slice none 0 0, .slice none 0 0, .slice none 0 0]) (t := 50) ?hr ?_; (case hd => rfl); (case hg => rfl); (case hr => first | (go_simp; done) | (go_simp; rfl)); intro g2 e2 w2 b2 hb2; have B1 := qA (blk_below b1 hb2); have B2 := qA b2; have L1 := qA (show w.heap.size ≤ g1 by omega); have L2 := qA (show w.heap.size ≤ g2 by rw [e2]; exact hb1.size); have D12 := qA (show g1 ≠ g2 by have := blk_lt b1; omega); have HB := qA (below_step hb1 hb2); have HB2 := qA (show w.heap.size ≤ w2.heap.size from HB.out.size); have T1 := qA (blk_lt B1.out); have T2 := qA (blk_lt b2); have Z := qA (Nat.le_refl w2.heap.size); clear e1 e2 b1 b2 hb1 hb2; have hzg1_1 : w2.cell? ⟨g1, 1, none⟩ = some (.slice A1 x.f1.length c1) := (blk_cell B1.out 1).trans rfl))
  refine (lentInts_calls A1 c1 x.f1 _ (Kd.C_below HR1.out HB.out) hc1 HS.out.1).mono ?_
  rintro e w10 ⟨v1, rfl, hM, hb⟩
  obtain ⟨Av1, cv1, hv⟩ := hid_form hM
  subst hv
  have M1 := qA (M_since hM)
  replace B1 := qA (blk_below B1.out hb)
  replace B2 := qA (blk_below B2.out hb)
  replace HB := qA (below_step HB.out hb)
  have Y1 := qA (show w2.heap.size ≤ w2.heap.size from Z.out)
  have X1 := qA (show w2.heap.size ≤ w10.heap.size from hb.size)
  replace Z := qA (Nat.le_trans Z.out hb.size)
  clear hM hb hzg1_1
  have hy : w10.cell? ⟨g1, 1, none⟩ = some (.slice A1 x.f1.length c1) := (blk_cell B1.out 1).trans rfl
  have hyf := blk_frozen B1.out 1
  go_wp2_with (first | ((with_reducible refine gate_store (t := 44) (p := 6) rfl ?_); go_loud (refine store_event (t := 44) (p := 6) (v := ?vo1) (w1 := (w10.setCell ⟨g1, 1, none⟩ (.slice Av1 x.f1.length cv1))) ?hg ?ho ?hn ?hr ?_; (case ho => rfl); (case hg => rfl); (case hn => rfl); (case hr => first | (go_simp; done) | (go_simp; rfl)); intro w20 hw; replace B1 := qA (show w20.heap[g1]? = some (.cells #[.string x.f0, .slice Av1 x.f1.length cv1, .int .u8 x.f2, .slice A3 x.f3.length c3, .slice A4 x.f4.length c4, .slice A5 x.f5.length c5] 50 (0, 0)) by rw [hw]; exact blk_put B1.out 1 _ rfl); replace B2 := qA (show w20.heap[g2]? = some (.cells #[.string (⟨#[]⟩ : ByteArray), .slice none 0 0, .int .u8 0, .slice none 0 0, .slice none 0 0, .slice none 0 0] 50 (0, 0)) by rw [hw]; exact (Below.heap_setCell _ _ _ _ (Ne.symm D12.out)).trans B2.out); replace HB := qA (show Below w.heap.size w w20 by rw [hw]; exact below_set HB.out L1.out); replace Z := qA (show w2.heap.size ≤ w20.heap.size by have := Z.out; rw [hw]; simpa [World.setCell] using this); have U1 := qA (show w20.heap.size = w10.heap.size by rw [hw]; simp [World.setCell]); replace M1 := qA (show lInts.M w20 w2.heap.size (fun k => w2.heap.size ≤ k ∧ k < w10.heap.size) x.f1 [.slice Av1 x.f1.length cv1] by rw [hw]; exact Kd.M_far M1.out (fun k hk => by show k ≠ g1; have := hk.1; have := T1.out; have := Y1.out; omega) _); clear hw hy hyf; have hzg1_3 : w20.cell? ⟨g1, 3, none⟩ = some (.slice A3 x.f3.length c3) := (blk_cell B1.out 3).trans rfl)))
  refine (lentTypes_calls A3 c3 x.f3 _ (Kd.C_below HR3.out HB.out) hc3 HS.out.2.1).mono ?_
  rintro e w11 ⟨v3, rfl, hM, hb⟩
  obtain ⟨Av3, cv3, hv⟩ := hid_form hM
  subst hv
  have M3 := qA (M_since hM)
  replace M1 := qA (M_of_below M1.out hb)
  replace B1 := qA (blk_below B1.out hb)
  replace B2 := qA (blk_below B2.out hb)
  replace HB := qA (below_step HB.out hb)
  have Y3 := qA (show w2.heap.size ≤ w20.heap.size from Z.out)
  have X3 := qA (show w20.heap.size ≤ w11.heap.size from hb.size)
  replace Z := qA (Nat.le_trans Z.out hb.size)
  clear hM hb hzg1_3
  have hy : w11.cell? ⟨g1, 3, none⟩ = some (.slice A3 x.f3.length c3) := (blk_cell B1.out 3).trans rfl
  have hyf := blk_frozen B1.out 3
  go_wp2_with (first | ((with_reducible refine gate_store (t := 46) (p := 10) rfl ?_); go_loud (refine store_event (t := 46) (p := 10) (v := ?vo3) (w1 := (w11.setCell ⟨g1, 3, none⟩ (.slice Av3 x.f3.length cv3))) ?hg ?ho ?hn ?hr ?_; (case ho => rfl); (case hg => rfl); (case hn => rfl); (case hr => first | (go_simp; done) | (go_simp; rfl)); intro w21 hw; replace B1 := qA (show w21.heap[g1]? = some (.cells #[.string x.f0, .slice Av1 x.f1.length cv1, .int .u8 x.f2, .slice Av3 x.f3.length cv3, .slice A4 x.f4.length c4, .slice A5 x.f5.length c5] 50 (0, 0)) by rw [hw]; exact blk_put B1.out 3 _ rfl); replace B2 := qA (show w21.heap[g2]? = some (.cells #[.string (⟨#[]⟩ : ByteArray), .slice none 0 0, .int .u8 0, .slice none 0 0, .slice none 0 0, .slice none 0 0] 50 (0, 0)) by rw [hw]; exact (Below.heap_setCell _ _ _ _ (Ne.symm D12.out)).trans B2.out); replace HB := qA (show Below w.heap.size w w21 by rw [hw]; exact below_set HB.out L1.out); replace Z := qA (show w2.heap.size ≤ w21.heap.size by have := Z.out; rw [hw]; simpa [World.setCell] using this); have U3 := qA (show w21.heap.size = w11.heap.size by rw [hw]; simp [World.setCell]); replace M1 := qA (show lInts.M w21 w2.heap.size (fun k => w2.heap.size ≤ k ∧ k < w10.heap.size) x.f1 [.slice Av1 x.f1.length cv1] by rw [hw]; exact Kd.M_far M1.out (fun k hk => by show k ≠ g1; have := hk.1; have := T1.out; have := Y1.out; omega) _); replace M3 := qA (show lTypes.M w21 w20.heap.size (fun k => w20.heap.size ≤ k ∧ k < w11.heap.size) x.f3 [.slice Av3 x.f3.length cv3] by rw [hw]; exact Kd.M_far M3.out (fun k hk => by show k ≠ g1; have := hk.1; have := T1.out; have := Y3.out; omega) _); clear hw hy hyf; have hzg1_4 : w21.cell? ⟨g1, 4, none⟩ = some (.slice A4 x.f4.length c4) := (blk_cell B1.out 4).trans rfl)))
  refine (lentArrays_calls A4 c4 x.f4 _ (Kd.C_below HR4.out HB.out) hc4 HS.out.2.2.1).mono ?_
  rintro e w12 ⟨v4, rfl, hM, hb⟩
  obtain ⟨Av4, cv4, hv⟩ := hid_form hM
  subst hv
  have M4 := qA (M_since hM)
  replace M1 := qA (M_of_below M1.out hb)
  replace M3 := qA (M_of_below M3.out hb)
  replace B1 := qA (blk_below B1.out hb)
  replace B2 := qA (blk_below B2.out hb)
  replace HB := qA (below_step HB.out hb)
  have Y4 := qA (show w2.heap.size ≤ w21.heap.size from Z.out)
  have X4 := qA (show w21.heap.size ≤ w12.heap.size from hb.size)
  replace Z := qA (Nat.le_trans Z.out hb.size)
  clear hM hb hzg1_4
  have hy : w12.cell? ⟨g1, 4, none⟩ = some (.slice A4 x.f4.length c4) := (blk_cell B1.out 4).trans rfl
  have hyf := blk_frozen B1.out 4
  go_wp2_with (first | ((with_reducible refine gate_store (t := 47) (p := 14) rfl ?_); go_loud (refine store_event (t := 47) (p := 14) (v := ?vo4) (w1 := (w12.setCell ⟨g1, 4, none⟩ (.slice Av4 x.f4.length cv4))) ?hg ?ho ?hn ?hr ?_; (case ho => rfl); (case hg => rfl); (case hn => rfl); (case hr => first | (go_simp; done) | (go_simp; rfl)); intro w22 hw; replace B1 := qA (show w22.heap[g1]? = some (.cells #[.string x.f0, .slice Av1 x.f1.length cv1, .int .u8 x.f2, .slice Av3 x.f3.length cv3, .slice Av4 x.f4.length cv4, .slice A5 x.f5.length c5] 50 (0, 0)) by rw [hw]; exact blk_put B1.out 4 _ rfl); replace B2 := qA (show w22.heap[g2]? = some (.cells #[.string (⟨#[]⟩ : ByteArray), .slice none 0 0, .int .u8 0, .slice none 0 0, .slice none 0 0, .slice none 0 0] 50 (0, 0)) by rw [hw]; exact (Below.heap_setCell _ _ _ _ (Ne.symm D12.out)).trans B2.out); replace HB := qA (show Below w.heap.size w w22 by rw [hw]; exact below_set HB.out L1.out); replace Z := qA (show w2.heap.size ≤ w22.heap.size by have := Z.out; rw [hw]; simpa [World.setCell] using this); have U4 := qA (show w22.heap.size = w12.heap.size by rw [hw]; simp [World.setCell]); replace M1 := qA (show lInts.M w22 w2.heap.size (fun k => w2.heap.size ≤ k ∧ k < w10.heap.size) x.f1 [.slice Av1 x.f1.length cv1] by rw [hw]; exact Kd.M_far M1.out (fun k hk => by show k ≠ g1; have := hk.1; have := T1.out; have := Y1.out; omega) _); replace M3 := qA (show lTypes.M w22 w20.heap.size (fun k => w20.heap.size ≤ k ∧ k < w11.heap.size) x.f3 [.slice Av3 x.f3.length cv3] by rw [hw]; exact Kd.M_far M3.out (fun k hk => by show k ≠ g1; have := hk.1; have := T1.out; have := Y3.out; omega) _); replace M4 := qA (show lArrays.M w22 w21.heap.size (fun k => w21.heap.size ≤ k ∧ k < w12.heap.size) x.f4 [.slice Av4 x.f4.length cv4] by rw [hw]; exact Kd.M_far M4.out (fun k hk => by show k ≠ g1; have := hk.1; have := T1.out; have := Y4.out; omega) _); clear hw hy hyf; have hzg1_5 : w22.cell? ⟨g1, 5, none⟩ = some (.slice A5 x.f5.length c5) := (blk_cell B1.out 5).trans rfl)))
  refine (lentBlocks_calls A5 c5 x.f5 _ hc5 (Kd.C_below HR5.out HB.out) HS.out.2.2.2.1 HS.out.2.2.2.2).mono ?_
  rintro e w13 ⟨v5, rfl, hM, hb⟩
  obtain ⟨Av5, cv5, hv⟩ := hid_form hM
  subst hv
  have M5 := qA (M_since hM)
  replace M1 := qA (M_of_below M1.out hb)
  replace M3 := qA (M_of_below M3.out hb)
  replace M4 := qA (M_of_below M4.out hb)
  replace B1 := qA (blk_below B1.out hb)
  replace B2 := qA (blk_below B2.out hb)
  replace HB := qA (below_step HB.out hb)
  have Y5 := qA (show w2.heap.size ≤ w22.heap.size from Z.out)
  have X5 := qA (show w22.heap.size ≤ w13.heap.size from hb.size)
  replace Z := qA (Nat.le_trans Z.out hb.size)
  clear hM hb hzg1_5
  have hy : w13.cell? ⟨g1, 5, none⟩ = some (.slice A5 x.f5.length c5) := (blk_cell B1.out 5).trans rfl
  have hyf := blk_frozen B1.out 5
  go_wp2_with (first | ((with_reducible refine gate_store (t := 48) (p := 18) rfl ?_); go_loud (refine store_event (t := 48) (p := 18) (v := ?vo5) (w1 := (w13.setCell ⟨g1, 5, none⟩ (.slice Av5 x.f5.length cv5))) ?hg ?ho ?hn ?hr ?_; (case ho => rfl); (case hg => rfl); (case hn => rfl); (case hr => first | (go_simp; done) | (go_simp; rfl)); intro w23 hw; replace B1 := qA (show w23.heap[g1]? = some (.cells #[.string x.f0, .slice Av1 x.f1.length cv1, .int .u8 x.f2, .slice Av3 x.f3.length cv3, .slice Av4 x.f4.length cv4, .slice Av5 x.f5.length cv5] 50 (0, 0)) by rw [hw]; exact blk_put B1.out 5 _ rfl); replace B2 := qA (show w23.heap[g2]? = some (.cells #[.string (⟨#[]⟩ : ByteArray), .slice none 0 0, .int .u8 0, .slice none 0 0, .slice none 0 0, .slice none 0 0] 50 (0, 0)) by rw [hw]; exact (Below.heap_setCell _ _ _ _ (Ne.symm D12.out)).trans B2.out); replace HB := qA (show Below w.heap.size w w23 by rw [hw]; exact below_set HB.out L1.out); replace Z := qA (show w2.heap.size ≤ w23.heap.size by have := Z.out; rw [hw]; simpa [World.setCell] using this); have U5 := qA (show w23.heap.size = w13.heap.size by rw [hw]; simp [World.setCell]); replace M1 := qA (show lInts.M w23 w2.heap.size (fun k => w2.heap.size ≤ k ∧ k < w10.heap.size) x.f1 [.slice Av1 x.f1.length cv1] by rw [hw]; exact Kd.M_far M1.out (fun k hk => by show k ≠ g1; have := hk.1; have := T1.out; have := Y1.out; omega) _); replace M3 := qA (show lTypes.M w23 w20.heap.size (fun k => w20.heap.size ≤ k ∧ k < w11.heap.size) x.f3 [.slice Av3 x.f3.length cv3] by rw [hw]; exact Kd.M_far M3.out (fun k hk => by show k ≠ g1; have := hk.1; have := T1.out; have := Y3.out; omega) _); replace M4 := qA (show lArrays.M w23 w21.heap.size (fun k => w21.heap.size ≤ k ∧ k < w12.heap.size) x.f4 [.slice Av4 x.f4.length cv4] by rw [hw]; exact Kd.M_far M4.out (fun k hk => by show k ≠ g1; have := hk.1; have := T1.out; have := Y4.out; omega) _); replace M5 := qA (show lBlocks.M w23 w22.heap.size (fun k => w22.heap.size ≤ k ∧ k < w13.heap.size) x.f5 [.slice Av5 x.f5.length cv5] by rw [hw]; exact Kd.M_far M5.out (fun k hk => by show k ≠ g1; have := hk.1; have := T1.out; have := Y5.out; omega) _); clear hw hy hyf; have hzg1_0 : w23.cell? ⟨g1, 0, none⟩ = some (.string x.f0) := (blk_cell B1.out 0).trans rfl; have hzg1_1 : w23.cell? ⟨g1, 1, none⟩ = some (.slice Av1 x.f1.length cv1) := (blk_cell B1.out 1).trans rfl; have hzg1_2 : w23.cell? ⟨g1, 2, none⟩ = some (.int .u8 x.f2) := (blk_cell B1.out 2).trans rfl; have hzg1_3 : w23.cell? ⟨g1, 3, none⟩ = some (.slice Av3 x.f3.length cv3) := (blk_cell B1.out 3).trans rfl; have hzg1_4 : w23.cell? ⟨g1, 4, none⟩ = some (.slice Av4 x.f4.length cv4) := (blk_cell B1.out 4).trans rfl; have hzg1_5 : w23.cell? ⟨g1, 5, none⟩ = some (.slice Av5 x.f5.length cv5) := (blk_cell B1.out 5).trans rfl; have hzg2_0 : w23.cell? ⟨g2, 0, none⟩ = some (.string (⟨#[]⟩ : ByteArray)) := (blk_cell B2.out 0).trans rfl; have hzg2_1 : w23.cell? ⟨g2, 1, none⟩ = some (.slice none 0 0) := (blk_cell B2.out 1).trans rfl; have hzg2_2 : w23.cell? ⟨g2, 2, none⟩ = some (.int .u8 0) := (blk_cell B2.out 2).trans rfl; have hzg2_3 : w23.cell? ⟨g2, 3, none⟩ = some (.slice none 0 0) := (blk_cell B2.out 3).trans rfl; have hzg2_4 : w23.cell? ⟨g2, 4, none⟩ = some (.slice none 0 0) := (blk_cell B2.out 4).trans rfl; have hzg2_5 : w23.cell? ⟨g2, 5, none⟩ = some (.slice none 0 0) := (blk_cell B2.out 5).trans rfl; have hfg2_0 := blk_frozen B2.out 0; have hfg2_1 := blk_frozen B2.out 1; have hfg2_2 := blk_frozen B2.out 2; have hfg2_3 := blk_frozen B2.out 3; have hfg2_4 := blk_frozen B2.out 4; have hfg2_5 := blk_frozen B2.out 5)))
  refine bodyPost_ret (results_cell_row rfl _ _ g2 50 #[.string x.f0, .slice Av1 x.f1.length cv1, .int .u8 x.f2, .slice Av3 x.f3.length cv3, .slice Av4 x.f4.length cv4, .slice Av5 x.f5.length cv5] (0, 0) _ rfl (by refine blk_put (cs := #[.string x.f0, .slice Av1 x.f1.length cv1, .int .u8 x.f2, .slice Av3 x.f3.length cv3, .slice Av4 x.f4.length cv4, .slice none 0 0]) ?_ 5 _ rfl; refine blk_put (cs := #[.string x.f0, .slice Av1 x.f1.length cv1, .int .u8 x.f2, .slice Av3 x.f3.length cv3, .slice none 0 0, .slice none 0 0]) ?_ 4 _ rfl; refine blk_put (cs := #[.string x.f0, .slice Av1 x.f1.length cv1, .int .u8 x.f2, .slice none 0 0, .slice none 0 0, .slice none 0 0]) ?_ 3 _ rfl; refine blk_put (cs := #[.string x.f0, .slice Av1 x.f1.length cv1, .int .u8 0, .slice none 0 0, .slice none 0 0, .slice none 0 0]) ?_ 2 _ rfl; refine blk_put (cs := #[.string x.f0, .slice none 0 0, .int .u8 0, .slice none 0 0, .slice none 0 0, .slice none 0 0]) ?_ 1 _ rfl; refine blk_put (cs := #[.string (⟨#[]⟩ : ByteArray), .slice none 0 0, .int .u8 0, .slice none 0 0, .slice none 0 0, .slice none 0 0]) ?_ 0 _ rfl; exact B2.out) Tryz.underlying50 rfl cq3) rfl ?_
  exact ⟨_, _, _, _, rfl, lGraph_mk (lInts.M_lower (Nat.le_trans HB2.out Y1.out) (lInts.M_mono (ok := (fun k => w2.heap.size ≤ k ∧ k < w10.heap.size)) (ok' := fun k => True ∧ k < w20.heap.size) (fun k hk => ⟨trivial, (by have := hk.2; have := U1.out; omega)⟩) (by repeat (first | (with_reducible exact M1.out) | refine Kd.M_far ?_ (fun k hk => by show k ≠ g2; have := hk.1; have := T2.out; have := Y1.out; omega) _)))) (lTypes.M_lower (Nat.le_trans HB2.out Y3.out) (lTypes.M_mono (ok := (fun k => w20.heap.size ≤ k ∧ k < w11.heap.size)) (ok' := fun k => True ∧ w20.heap.size ≤ k ∧ k < w21.heap.size) (fun k hk => ⟨trivial, hk.1, (by have := hk.2; have := U3.out; omega)⟩) cq36)) (lArrays.M_lower (Nat.le_trans HB2.out Y4.out) (lArrays.M_mono (ok := (fun k => w21.heap.size ≤ k ∧ k < w12.heap.size)) (ok' := fun k => True ∧ w21.heap.size ≤ k ∧ k < w22.heap.size) (fun k hk => ⟨trivial, hk.1, (by have := hk.2; have := U4.out; omega)⟩) (by repeat (first | (with_reducible exact M4.out) | refine Kd.M_far ?_ (fun k hk => by show k ≠ g2; have := hk.1; have := T2.out; have := Y4.out; omega) _)))) (lBlocks.M_lower (Nat.le_trans HB2.out Y5.out) (lBlocks.M_mono (ok := (fun k => w22.heap.size ≤ k ∧ k < w13.heap.size)) (ok' := fun k => True ∧ w22.heap.size ≤ k) (fun k hk => ⟨trivial, hk.1⟩) (by repeat (first | (with_reducible exact M5.out) | refine Kd.M_far ?_ (fun k hk => by show k ≠ g2; have := hk.1; have := T2.out; have := Y5.out; omega) _)))) (by have := X3.out; have := U3.out; omega) (by have := X4.out; have := U4.out; omega), cq43⟩
theorem lentGraphs_calls (A : Option Addr) (c : Nat) (l : List S50) (w : World) (hc : l.length ≤ c) (hr : Kd.C k50 w A l.length l) (hl : (l.length + 12) * 120 ≤ 140737488355328) (hsz : ∀ x ∈ l, szG x) :
    Calls Tryz.prog 8 #[.slice A l.length c] w fun e w' => ∃ v, e = .returned v ∧ (hid 50 xGraph List.length (fun l => both l (mks mGraph 12))).M w' w.heap.size (fun _ => True) l [v] ∧ Below w.heap.size w w' := by
  have HR := qA hr
  have HSZ := qA hsz
  obtain ⟨i0, hi, hz0, hz1, hz2⟩ := info_parts info50
  obtain ⟨w0, hrun, hown, hg⟩ := run_make_own (P := Tryz.prog) w w.heap.size 23 50 i0 (.agg #[.string (⟨#[]⟩ : ByteArray), .slice none 0 0, .int .u8 0, .slice none 0 0, .slice none 0 0, .slice none 0 0]) 6 Tryz.underlying23 hi hz0 hz1 .i64 .i64 (l.length + 12) cq49 cq35 (Nat.le_refl _)
  rw [show ((l.length + 12 : Nat) : Int) = (l.length : Int) + 12 by omega] at hrun
  have HB0 : Aside0 (Below w.heap.size w w0) := ⟨(Below.refl _ _).grown hg (Nat.le_refl _) (fun k hk => by cases hk)⟩
  have HO0 : Aside0 (Kd.S xGraph 50 w0 w.heap.size (fun _ => True) (.slice (some ⟨w.heap.size, 0, none⟩) 0 (l.length + 12)) (both (l.take 0) [])) := ⟨⟨fun _ => 0, fun _ _ => trivial, [], hown, Reps.none _ _⟩⟩
  have hlm : l.length + 12 ≤ 9223372036854775807 := by omega
  have HL := qA hl
  clear hi hz0 hz1 hz2 hown hg hr hl hsz
  go_enter Tryz.func8, Tryz.ntmps8
  go_wp2
  go_loopw [3, 4] (fun v3 v4 wr => ∃ j : Nat, j ≤ l.length ∧ v4 = .int .i64 (j : Int) ∧ Aside0 (Kd.S xGraph 50 wr w.heap.size (fun _ => True) v3 (both (l.take j) [])) ∧ Aside0 (Below w.heap.size w wr)) (fun _ i _ => l.length - (intOf i).toNat)
  case atStart => exact ⟨0, by omega, rfl, HO0, HB0⟩
  case round =>
    clear HO0 HB0 hrun
    obtain ⟨j, hj, rfl, HO, HB⟩ := hrel
    by_cases hlt : j < l.length
    · obtain ⟨wo, rfl⟩ : ∃ wo : World, wo = wr := ⟨_, rfl⟩
      have HLL := qA (show (both (l.take j) ([] : List S50)).length = j by rw [both_len, List.length_take]; simp; omega)
      have HJ := qA (show both (l.take (j + 1)) [] = both (l.take j) [] ++ [(true, l[j])] by rw [List.take_succ_eq_append_getElem hlt, both_snoc_l])
      obtain ⟨ad, A1, c1, A3, c3, A4, c4, A5, c5, hA, hx0, hx1, hx2, hx3, hx4, hx5, hc1, hr1, hc3, hr3, hc4, hr4, hc5, hr5⟩ := at_T50 (Kd.C_below HR.out HB.out) (j : Int) cq2 cq2
      subst hA
      have HX := qA (HSZ.out l[j] (List.getElem_mem hlt))
      obtain ⟨x, hx⟩ : ∃ x, x = l[j] := ⟨_, rfl⟩
      have hrd : rd_T50 l (j : Int) = x := by rw [hx]; unfold rd_T50; rw [Int.toNat_natCast, qD, qE hlt]; rfl
      rw [hrd] at hx0 hx1 hx2 hx3 hx4 hx5 hc1 hr1 hc3 hr3 hc4 hr4 hc5 hr5
      rw [Int.toNat_natCast] at hx0 hx1 hx2 hx3 hx4 hx5
      rw [← hx] at HX HJ
      have hlt' : (j : Int) < (l.length : Int) := by omega
      clear hx hrd
      go_wp2_with fail
      refine (lentGraph_calls x A1 c1 A3 c3 A4 c4 A5 c5 _ hc1 hr1 hc3 hr3 hc4 hr4 hc5 hr5 HX.out).mono ?_
      rintro e w2 ⟨v1, v3, v4, v5, rfl, hM, hb⟩
      obtain ⟨Av1, cv1, Av3, cv3, Av4, cv4, Av5, cv5, hv1, hv3, hv4, hv5⟩ := lGraph_form hM; subst hv1; subst hv3; subst hv4; subst hv5;
      have HM := qA (lGraph.M_lower HB.out.size (M_since hM))
      have HO2 := qA (Kd.S_mono (ok' := fun k => True ∧ ¬ (wo.heap.size ≤ k ∧ k < w2.heap.size)) (Kd.S_below (Kd.S_bound HO.out) hb) (fun k hk => ⟨trivial, fun h2 => by have := hk.2.2.1; omega⟩))
      have HV := qA (Kd.S_lt HO.out)
      have HB2 := qA (below_then HB.out HB.out.size hb)
      clear hb hM hx0 hx1 hx2 hx3 hx4 hx5 hc1 hr1 hc3 hr3 hc4 hr4 hc5 hr5
      go_wp2_with (first | ((with_reducible refine gate_builtin (b := .append) (xs := #[.tmp 22, .tmp 24]) rfl ?_); at_builtin; go_loud (refine Kd.S_append xGraph (w0 := w) w.heap.size rfl (.tmp 22) (.tmp 24) 23 50 (.agg #[.string (⟨#[]⟩ : ByteArray), .slice none 0 0, .int .u8 0, .slice none 0 0, .slice none 0 0, .slice none 0 0]) 120 rfl Tryz.underlying23 info50 rfl cq6 cq2 u3 (both (l.take j) []) (true, x) [.string x.f0, .slice Av1 x.f1.length cv1, .int .u8 x.f2, .slice Av3 x.f3.length cv3, .slice Av4 x.f4.length cv4, .slice Av5 x.f5.length cv5] (fun _ => True) (fun k => wo.heap.size ≤ k ∧ k < w2.heap.size) rfl ?aX ?aM ?aO (fun _ _ => trivial) ?aS ?aB ?aZ ?aL ?_; (case aX => simp [Act.eval]); (case aM => exact .inl ⟨rfl, M_of_below HM.out cq41⟩); (case aO => exact fun k hk => ⟨trivial, fun e => by have := HV.out k e.symm; omega⟩); (case aS => repeat (first | (with_reducible exact HO2.out) | refine Kd.S_alloc ?_ _)); (case aB => repeat (first | (with_reducible exact HB2.out) | refine below_alloc ?_ _)); (case aZ => have := HB2.out.size; simp; omega); (case aL => have := HLL.out; have := HL.out; omega); intro v1 w1 ho hb hg hat; have HO4 := qA ho; have HB4 := qA hb; clear ho hb hg hat)))
      go_roundw
      case rel => exact ⟨j + 1, by omega, by go_num, ⟨by rw [HJ.out]; exact HO4.out⟩, HB4⟩
      case measure => simp [intOf]; omega
    · obtain rfl : j = l.length := by omega
      rw [List.take_length] at HO
      have hge : ¬ (l.length : Int) < (l.length : Int) := by omega
      have HO5 : Aside0 (Kd.S xGraph 50 wr w.heap.size (fun _ => True) u3 (both l (mks mGraph 0))) := HO
      clear HO
      go_wp2
      go_loopw [3, 6] (fun v3 v6 wr => ∃ j : Nat, j ≤ 12 ∧ v6 = .int .i64 (j : Int) ∧ Aside0 (Kd.S xGraph 50 wr w.heap.size (fun _ => True) v3 (both l (mks mGraph j))) ∧ Aside0 (Below w.heap.size w wr)) (fun _ i _ => 12 - (intOf i).toNat)
      case atStart => exact ⟨0, by omega, rfl, HO5, HB⟩
      case round =>
        clear HO5 HB hge
        obtain ⟨j, hj, rfl, HO, HB⟩ := hrel
        by_cases hlt : j < 12
        · obtain ⟨wo, rfl⟩ : ∃ wo : World, wo = wr := ⟨_, rfl⟩
          have HLL := qA (show (both l (mks mGraph j)).length = l.length + j by rw [both_len, mks_len])
          have HJ := qA (show both l (mks mGraph (j + 1)) = both l (mks mGraph j) ++ [(false, mGraph (j : Int))] by rw [mks_succ, both_snoc_r])
          have hlt' : (j : Int) < 12 := by omega
          go_wp2_with fail
          refine (markGraph_calls 1 (j : Int) _ cq2 cq2 cq2 cq2).mono ?_
          rintro e w2 ⟨rfl, hb⟩
          have HO2 := qA (Kd.S_mono (ok' := fun k => True ∧ ¬ False) (Kd.S_below HO.out hb) (fun k hk => ⟨trivial, id⟩))
          have HB2 := qA (below_then HB.out HB.out.size hb)
          clear hb
          go_wp2_with (first | ((with_reducible refine gate_builtin (b := .append) (xs := #[.tmp 30, .tmp 33]) rfl ?_); at_builtin; go_loud (refine Kd.S_append xGraph (w0 := w) w.heap.size rfl (.tmp 30) (.tmp 33) 23 50 (.agg #[.string (⟨#[]⟩ : ByteArray), .slice none 0 0, .int .u8 0, .slice none 0 0, .slice none 0 0, .slice none 0 0]) 120 rfl Tryz.underlying23 info50 rfl cq6 cq2 u3 (both l (mks mGraph j)) (false, mGraph (j : Int)) [.string (mText 1 (j : Int)), .slice none 0 0, .int .u8 0, .slice none 0 0, .slice none 0 0, .slice none 0 0] (fun _ => True) (fun _ => False) rfl rfl ?aM (fun _ hk => hk.elim) (fun _ _ => trivial) ?aS ?aB ?aZ ?aL ?_; (case aM => exact .inr ⟨rfl, k50_mkM _ _ _ (mGraph (j : Int)) (Kd.R_nil _ _ _ _ _) (Kd.R_nil _ _ _ _ _) (Kd.R_nil _ _ _ _ _) (Kd.R_nil _ _ _ _ _)⟩); (case aS => repeat (first | (with_reducible exact HO2.out) | refine Kd.S_alloc ?_ _)); (case aB => repeat (first | (with_reducible exact HB2.out) | refine below_alloc ?_ _)); (case aZ => have := HB2.out.size; simp; omega); (case aL => have := HLL.out; have := HL.out; omega); intro v1 w1 ho hb hg hat; have HO4 := qA ho; have HB4 := qA hb; clear ho hb hg hat)))
          go_roundw
          case rel => exact ⟨j + 1, by omega, by go_num, ⟨by rw [HJ.out]; exact HO4.out⟩, HB4⟩
          case measure => simp [intOf]; omega
        · obtain rfl : j = 12 := by omega
          have hge : ¬ (12 : Int) < 12 := by omega
          have HLL := qA (show (both l (mks mGraph 12)).length = l.length + 12 by rw [both_len, mks_len])
          obtain ⟨g, cap, rfl, hgb, hgl, _⟩ := Kd.R_form (Kd.S_R HO.out) cq55
          have hrd := Kd.R_reads' (Kd.S_R HO.out)
          have hcap : l.length + 12 ≤ cap := by have := hrd.2.1; have := HLL.out; omega
          have hcap2 : l.length ≤ cap := by omega
          clear hrd hgb hgl
          go_wp2
          go_ret
          exact ⟨_, rfl, ⟨_, cap, rfl, by have := HLL.out; show l.length ≤ (both l (mks mGraph 12)).length; omega, HO.out⟩, HB.out⟩
theorem R_lit1s (w : World) (x : Int) (b : Nat) (hb : b ≤ w.heap.size) : Kd.R (Kd.int .i64) 3 (w.alloc (.cells #[.int .i64 x] 3)) b (fun k => w.heap.size ≤ k) (.slice (some ⟨w.heap.size, 0, none⟩) 1 1) [x] :=
  Kd.R_lower (Kd.R_of_own (World.ownsRow_lit w #[.int .i64 x] 1 (Nat.le_refl _) (by unfold maxLen; omega) rfl) (fun k hk => by simp [Value.ownBlock] at hk; omega)) hb
theorem lentRows_calls (A : Option Addr) (c : Nat) (l : List (List Int)) (w : World) (hc : l.length ≤ c) (hr : Kd.C (Kd.slice 3 (Kd.int .i64)) w A l.length l) (hl : (l.length + 12) * 24 ≤ 140737488355328) (hsz : ∀ x ∈ l, (x.length + 12) * 8 ≤ 140737488355328) :
    Calls Tryz.prog 7 #[.slice A l.length c] w fun e w' => ∃ v, e = .returned v ∧ (hid 44 xInts List.length (fun l => both l (mks mRow 12))).M w' w.heap.size (fun _ => True) l [v] ∧ Below w.heap.size w w' := by
  have HR := qA hr
  have HSZ := qA hsz
  obtain ⟨i0, hi, hz0, hz1, hz2⟩ := info_parts info44
  obtain ⟨w0, hrun, hown, hg⟩ := run_make_own (P := Tryz.prog) w w.heap.size 22 44 i0 (.slice none 0 0) 1 Tryz.underlying22 hi hz0 hz1 .i64 .i64 (l.length + 12) cq49 cq35 (Nat.le_refl _)
  rw [show ((l.length + 12 : Nat) : Int) = (l.length : Int) + 12 by omega] at hrun
  have HB0 : Aside0 (Below w.heap.size w w0) := ⟨(Below.refl _ _).grown hg (Nat.le_refl _) (fun k hk => by cases hk)⟩
  have HO0 : Aside0 (Kd.S xInts 44 w0 w.heap.size (fun _ => True) (.slice (some ⟨w.heap.size, 0, none⟩) 0 (l.length + 12)) (both (l.take 0) [])) := ⟨⟨fun _ => 0, fun _ _ => trivial, [], hown, Reps.none _ _⟩⟩
  have hlm : l.length + 12 ≤ 9223372036854775807 := by omega
  have HL := qA hl
  clear hi hz0 hz1 hz2 hown hg hr hl hsz
  go_enter Tryz.func7, Tryz.ntmps7
  go_wp2
  go_loopw [3, 4] (fun v3 v4 wr => ∃ j : Nat, j ≤ l.length ∧ v4 = .int .i64 (j : Int) ∧ Aside0 (Kd.S xInts 44 wr w.heap.size (fun _ => True) v3 (both (l.take j) [])) ∧ Aside0 (Below w.heap.size w wr)) (fun _ i _ => l.length - (intOf i).toNat)
  case atStart => exact ⟨0, by omega, rfl, HO0, HB0⟩
  case round =>
    clear HO0 HB0 hrun
    obtain ⟨j, hj, rfl, HO, HB⟩ := hrel
    by_cases hlt : j < l.length
    · obtain ⟨wo, rfl⟩ : ∃ wo : World, wo = wr := ⟨_, rfl⟩
      have HLL := qA (show (both (l.take j) ([] : List (List Int))).length = j by rw [both_len, List.length_take]; simp; omega)
      have HJ := qA (show both (l.take (j + 1)) [] = both (l.take j) [] ++ [(true, l[j])] by rw [List.take_succ_eq_append_getElem hlt, both_snoc_l])
      obtain ⟨ad, A0, c0, hA, hx0, hc0, hr0⟩ := at_L1 (Kd.C_below HR.out HB.out) (j : Int) cq2 cq2
      subst hA
      have HX := qA (HSZ.out l[j] (List.getElem_mem hlt))
      obtain ⟨x, hx⟩ : ∃ x, x = l[j] := ⟨_, rfl⟩
      have hrd : rd_L1 l (j : Int) = x := by rw [hx]; unfold rd_L1; rw [Int.toNat_natCast, qD, qE hlt]; rfl
      rw [hrd] at hx0 hc0 hr0
      rw [Int.toNat_natCast] at hx0
      rw [← hx] at HX HJ
      have hlt' : (j : Int) < (l.length : Int) := by omega
      clear hx hrd
      go_wp2_with fail
      refine (lentInts_calls A0 c0 x _ hr0 hc0 HX.out).mono ?_
      rintro e w2 ⟨v0, rfl, hM0, hb⟩
      obtain ⟨Av0, cv0, hv0⟩ := hid_form hM0; subst hv0
      have HM := qA (lInts.M_lower HB.out.size (M_since hM0))
      have HO2 := qA (Kd.S_mono (ok' := fun k => True ∧ ¬ (wo.heap.size ≤ k ∧ k < w2.heap.size)) (Kd.S_below (Kd.S_bound HO.out) hb) (fun k hk => ⟨trivial, fun h2 => by have := hk.2.2.1; omega⟩))
      have HV := qA (Kd.S_lt HO.out)
      have HB2 := qA (below_then HB.out HB.out.size hb)
      clear hb hM0 hx0 hc0 hr0
      go_wp2_with (first | ((with_reducible refine gate_builtin (b := .append) (xs := #[.tmp 22, .tmp 24]) rfl ?_); at_builtin; go_loud (refine Kd.S_append xInts (w0 := w) w.heap.size rfl (.tmp 22) (.tmp 24) 22 44 (.slice none 0 0) 24 rfl Tryz.underlying22 info44 rfl cq6 cq2 u3 (both (l.take j) []) (true, x) [.slice Av0 x.length cv0] (fun _ => True) (fun k => wo.heap.size ≤ k ∧ k < w2.heap.size) rfl ?aX ?aM ?aO (fun _ _ => trivial) ?aS ?aB ?aZ ?aL ?_; (case aX => simp [Act.eval]); (case aM => exact .inl ⟨rfl, M_of_below HM.out cq41⟩); (case aO => exact fun k hk => ⟨trivial, fun e => by have := HV.out k e.symm; omega⟩); (case aS => repeat (first | (with_reducible exact HO2.out) | refine Kd.S_alloc ?_ _)); (case aB => repeat (first | (with_reducible exact HB2.out) | refine below_alloc ?_ _)); (case aZ => have := HB2.out.size; simp; omega); (case aL => have := HLL.out; have := HL.out; omega); intro v1 w1 ho hb hg hat; have HO4 := qA ho; have HB4 := qA hb; clear ho hb hg hat)))
      go_roundw
      case rel => exact ⟨j + 1, by omega, by go_num, ⟨by rw [HJ.out]; exact HO4.out⟩, HB4⟩
      case measure => simp [intOf]; omega
    · obtain rfl : j = l.length := by omega
      rw [List.take_length] at HO
      have hge : ¬ (l.length : Int) < (l.length : Int) := by omega
      have HO5 : Aside0 (Kd.S xInts 44 wr w.heap.size (fun _ => True) u3 (both l (mks mRow 0))) := HO
      clear HO
      go_wp2
      go_loopw [3, 6] (fun v3 v6 wr => ∃ j : Nat, j ≤ 12 ∧ v6 = .int .i64 (j : Int) ∧ Aside0 (Kd.S xInts 44 wr w.heap.size (fun _ => True) v3 (both l (mks mRow j))) ∧ Aside0 (Below w.heap.size w wr)) (fun _ i _ => 12 - (intOf i).toNat)
      case atStart => exact ⟨0, by omega, rfl, HO5, HB⟩
      case round =>
        clear HO5 HB hge
        obtain ⟨j, hj, rfl, HO, HB⟩ := hrel
        by_cases hlt : j < 12
        · obtain ⟨wo, rfl⟩ : ∃ wo : World, wo = wr := ⟨_, rfl⟩
          have HLL := qA (show (both l (mks mRow j)).length = l.length + j by rw [both_len, mks_len])
          have HJ := qA (show both l (mks mRow (j + 1)) = both l (mks mRow j) ++ [(false, mRow (j : Int))] by rw [mks_succ, both_snoc_r])
          have hlt' : (j : Int) < 12 := by omega
          go_wp2_with fail
          refine (mark_calls 1 (j : Int) _ cq2 cq2 cq2 cq2).mono ?_
          rintro e w2 ⟨rfl, hb⟩
          have HV := qA (Kd.S_lt HO.out)
          have HZ := qA hb.size
          have HO2 := qA (Kd.S_mono (ok' := fun k => True ∧ ¬ (w2.heap.size ≤ k)) (Kd.S_below (Kd.S_bound HO.out) hb) (fun k hk => ⟨trivial, by have := hk.2.2.1; have := hb.size; omega⟩))
          have HB2 := qA (below_then HB.out HB.out.size hb)
          clear hb
          go_wp2_with (first | ((with_reducible refine gate_builtin (b := .append) (xs := #[.tmp 30, .tmp 34]) rfl ?_); at_builtin; go_loud (refine Kd.S_append xInts (w0 := w) w.heap.size rfl (.tmp 30) (.tmp 34) 22 44 (.slice none 0 0) 24 rfl Tryz.underlying22 info44 rfl cq6 cq2 u3 (both l (mks mRow j)) (false, mRow (j : Int)) [.slice (some ⟨w2.heap.size, 0, none⟩) 1 1] (fun _ => True) (fun k => w2.heap.size ≤ k) rfl ?aX ?aM ?aO (fun _ _ => trivial) ?aS ?aB ?aZ ?aL ?_; (case aX => simp [Act.eval]); (case aM => exact .inr ⟨rfl, _, rfl, Kd.R_lower (R_lit1s _ _ _ (Nat.le_refl _)) (by have := HB2.out.size; omega)⟩); (case aO => exact fun k hk => ⟨trivial, fun e => by have := HV.out k e.symm; have := HZ.out; omega⟩); (case aS => repeat (first | (with_reducible exact HO2.out) | refine Kd.S_alloc ?_ _)); (case aB => repeat (first | (with_reducible exact HB2.out) | refine below_alloc ?_ _)); (case aZ => have := HB2.out.size; simp; omega); (case aL => have := HLL.out; have := HL.out; omega); intro v1 w1 ho hb hg hat; have HO4 := qA ho; have HB4 := qA hb; clear ho hb hg hat)))
          go_roundw
          case rel => exact ⟨j + 1, by omega, by go_num, ⟨by rw [HJ.out]; exact HO4.out⟩, HB4⟩
          case measure => simp [intOf]; omega
        · obtain rfl : j = 12 := by omega
          have hge : ¬ (12 : Int) < 12 := by omega
          have HLL := qA (show (both l (mks mRow 12)).length = l.length + 12 by rw [both_len, mks_len])
          obtain ⟨g, cap, rfl, hgb, hgl, _⟩ := Kd.R_form (Kd.S_R HO.out) cq55
          have hrd := Kd.R_reads' (Kd.S_R HO.out)
          have hcap : l.length + 12 ≤ cap := by have := hrd.2.1; have := HLL.out; omega
          have hcap2 : l.length ≤ cap := by omega
          clear hrd hgb hgl
          go_wp2
          go_ret
          exact ⟨_, rfl, ⟨_, cap, rfl, by have := HLL.out; show l.length ≤ (both l (mks mRow 12)).length; omega, HO.out⟩, HB.out⟩
end Go.Proofs.YtligpleningglaaGreat.Lk
