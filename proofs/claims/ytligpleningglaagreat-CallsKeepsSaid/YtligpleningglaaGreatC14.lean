/- Texts of this proof, joined in build order: Ov, Sm, Fxe155, Arr, Fxe53, Fxe56, Se. -/
import Derived.Test.YtligpleningglaaGreatCz
import Derived.Test.YtligpleningglaaGreatC13
import Derived.Test.YtligpleningglaaGreatC02
import Derived.Test.YtligpleningglaaGreatC00
import Derived.Laws.StructEq
import Derived.Test.YtligpleningglaaGreatC10
import Derived.Deep.DeepCutAuto
set_option linter.unusedVariables false
set_option linter.unusedSimpArgs false
set_option linter.unusedSectionVars false
set_option maxHeartbeats 8000000
set_option maxRecDepth 100000
namespace Go.Proofs.YtligpleningglaaGreat.Lk
open Go Go.RowKit Go.Proofs.YtligpleningglaaGreatW.PrintWords Go.Proofs.YtligpleningglaaGreatW.PrintLast Go.Proofs.YtligpleningglaaGreatW.PrintMore Go.Proofs.YtligpleningglaaGreat.F
def Touch (base : Nat) (ok : Nat → Prop) (w w' : World) : Prop := Below base w w' ∧ ∀ k, k < w.heap.size → ¬ ok k → w'.heap[k]? = w.heap[k]?
theorem Touch.refl (base : Nat) (ok : Nat → Prop) (w : World) : Touch base ok w w := ⟨Below.refl _ _, fun _ _ _ => rfl⟩
theorem Touch.trans {base : Nat} {ok : Nat → Prop} {w w1 w2 : World} (h : Touch base ok w w1) (k : Touch base ok w1 w2) : Touch base ok w w2 :=
  ⟨h.1.trans k.1, fun q hq hn => (k.2 q (Nat.lt_of_lt_of_le hq h.1.size) hn).trans (h.2 q hq hn)⟩
theorem Touch.mono {base : Nat} {ok ok' : Nat → Prop} {w w1 : World} (h : Touch base ok w w1) (hok : ∀ k, ok k → ok' k) : Touch base ok' w w1 := ⟨h.1, fun q hq hn => h.2 q hq (fun e => hn (hok q e))⟩
theorem Touch.of_below {base : Nat} {ok : Nat → Prop} {w w1 : World} (hb : base ≤ w.heap.size) (h : Below w.heap.size w w1) : Touch base ok w w1 := ⟨h.mono hb, fun q hq _ => h.block q hq⟩
theorem Touch.grown {base : Nat} {ok : Nat → Prop} {w w1 : World} {g : Nat} (hb : base ≤ w.heap.size) (hg : w.grownBy w1 (some g)) (h1 : ok g) (h2 : base ≤ g) : Touch base ok w w1 :=
  ⟨(Below.refl base w).grown hg hb (fun k hk => by injection hk with hk; omega), fun q hq hn => hg.block q hq (fun e => by injection e with e; exact hn (e ▸ h1))⟩
theorem M_touch {α : Type} {d : Kd α} {w w1 : World} {base b2 : Nat} {ok okt : Nat → Prop} {x : α} {cs : List Value} (h : d.M w base ok x cs) (ht : Touch b2 okt w w1) (hn : ∀ k, ok k → ¬ okt k) : d.M w1 base ok x cs :=
  Kd.M_step h (fun k hk hlt => ht.2 k hlt (hn k hk))
theorem R_touch {α : Type} {d : Kd α} {e : Nat} {w w1 : World} {base b2 : Nat} {ok okt : Nat → Prop} {v : Value} {xs : List α} (h : d.R e w base ok v xs) (ht : Touch b2 okt w w1) (hn : ∀ k, ok k → ¬ okt k) : d.R e w1 base ok v xs :=
  Kd.R_step h (fun k hk hlt => ht.2 k hlt (hn k hk))
theorem raw_whole {W : World} {base sz : Nat} {okp : Nat → Prop} {c seg : List Value} (hc : c.length = sz) (hs : seg.length = sz) (h1 : ∀ q ∈ seg, q.oneCell' = true) : (Kd.raw sz).M W base okp seg (c.take 0 ++ seg ++ c.drop (0 + seg.length)) := by
  have e : c.take 0 ++ seg ++ c.drop (0 + seg.length) = seg := by rw [List.take_zero, List.nil_append, List.drop_eq_nil_of_le cq2, List.append_nil]
  rw [e]
  exact ⟨rfl, hs, h1⟩
theorem R_bare {α : Type} {d : Kd α} {e : Nat} {w : World} {base : Nat} {ok : Nat → Prop} {v : Value} {xs : List α} (h : d.R e w base ok v xs) : ∃ rows : List (List Value), rows.length = xs.length ∧ (Kd.raw d.sz).R e w base (fun k => some k = v.ownBlock) v rows := by
  obtain ⟨_, rows, hl, hR, _⟩ := Kd.R_N h
  exact ⟨rows, hl, hR⟩
theorem overInts_raw (A : Option Addr) (c n : Nat) (rows : List (List Value)) (base : Nat) (ok : Nat → Prop) (w : World) (hn : rows.length = n + 12) (hnb : n + 12 ≤ 140737488355328) (h : (Kd.raw 1).R 3 w base ok (.slice A (n + 12) c) rows) (hb : base ≤ w.heap.size) :
    Calls Tryz.prog 33 #[.slice A n c] w fun e w' => e = .returned (.tuple #[]) ∧ Touch base ok w w' := by
  obtain ⟨g, cap, hv, hgb, hgl, _⟩ := Kd.R_form h cq2
  injection hv with hA hq hc
  subst hA; subst hc
  clear hq
  have hrd := Kd.R_reads' h
  have hcap : n + 12 ≤ c := hrd.2.1
  have hcap2 : n ≤ c := by omega
  have hnm : n + 12 ≤ 9223372036854775807 := by have := hrd.2.2.2.1; omega
  have HB := qA hb
  have HN := qA hn
  have HOK := qA (show ok g from h.1 g rfl)
  have HGB := qA hgb
  have HO := qA h
  have HT := qA (Touch.refl base ok w)
  clear hrd hgb hgl h hn hb
  go_enter Tryz.func33, Tryz.ntmps33
  go_wp2
  go_loopw [3] (fun v3 wr => ∃ (j : Nat) (rows : List (List Value)), j ≤ n + 12 ∧ v3 = .int .i64 (j : Int) ∧ Aside0 (rows.length = n + 12) ∧ Aside0 ((Kd.raw 1).R 3 wr base ok (.slice (some ⟨g, 0, none⟩) (n + 12) c) rows) ∧ Aside0 (Touch base ok w wr)) (fun i _ => n + 12 - (intOf i).toNat)
  case atStart => exact ⟨0, rows, by omega, rfl, HN, HO, HT⟩
  case round =>
    clear HN HO HT
    obtain ⟨j, rows, hj, rfl, HN, HO, HT⟩ := hrel
    by_cases hlt : j < n + 12
    · have hlt' : (j : Int) < (n : Int) + 12 := by omega
      go_wp2_with fail
      refine (mark_calls 2 (j : Int) _ cq2 cq2 cq2 cq2).mono ?_
      rintro e w2 ⟨rfl, hb⟩
      have HO2 := qA (Kd.R_below HO.out hb)
      have hz : base ≤ wr.heap.size := by have := HB.out; have := HT.out.1.size; omega
      have HT2 := qA (HT.out.trans (Touch.of_below (ok := ok) hz hb))
      obtain ⟨cc, hcl, -, hcc, hfr⟩ := Kd.R_elem HO2.out [] (j : Int) cq2 cq2
      have HCL := qA hcl; have HCC := qA hcc
      clear hb hcl hcc hfr
      go_wp2_with (first | ((with_reducible refine gate_store (t := 3) (p := 19) rfl ?_); go_loud (refine Kd.R_store (Kd.raw 1) (w0 := w2) base rfl rfl 3 (.tmp 19) (.tmp 18) rfl 3 (g := g) (o' := j * 1) (j : Int) 0 rows [.int .i64 (mkI 2 (j : Int))] _ [.int .i64 (mkI 2 (j : Int))] cc ok (fun _ => False) ?ha ?hf rfl ?hu ?ht ?h1 HO2.out cq2 cq2 HCL.out HCC.out ?hj ?hM (fun _ hk => hk.elim) (Below.refl _ _) ?_; (case ha => first | rfl | (go_simp; done) | (go_simp; rfl)); (case hf => show j * 1 = (j : Int).toNat * 1 + 0; simp); (case hu => rfl); (case ht => kernel_rfl); (case h1 => intro q hq; revert q hq; simp [Value.oneCell']; done); (case hj => exact Nat.le_refl _); (case hM => exact raw_whole HCL.out rfl cq31); intro w1 ho hb1 hg; have HO4 := qA ho; have HT4 := qA (HT2.out.trans (Touch.grown cq32 hg HOK.out HGB.out)); clear ho hb1 hg)))
      go_roundw
      case rel => exact ⟨j + 1, _, by omega, by go_num, ⟨by rw [List.length_set]; exact HN.out⟩, HO4, HT4⟩
      case measure => simp [intOf]; omega
    · obtain rfl : j = n + 12 := by omega
      go_wp2
      go_end0
      exact ⟨rfl, HT.out⟩
theorem overInts_calls (l : List Int) (v : Value) (base : Nat) (ok : Nat → Prop) (w : World) (h : lInts.M w base ok l [v]) (hnb : l.length + 12 ≤ 140737488355328) (hb : base ≤ w.heap.size) :
    Calls Tryz.prog 33 #[v] w fun e w' => e = .returned (.tuple #[]) ∧ Touch base ok w w' := by
  obtain ⟨A, c, e, -, hS⟩ := h
  obtain rfl : v = .slice A l.length c := List.head_eq_of_cons_eq e
  rw [show (l ++ mks mI 12).length = l.length + 12 by rw [List.length_append, mks_len]] at hS
  obtain ⟨rows, hl, hR⟩ := R_bare (Kd.S_R hS)
  exact overInts_raw A c l.length rows base ok w (by rw [hl, List.length_append, mks_len]) hnb (Kd.R_mono hR (fun k hk => (Kd.S_R hS).1 k hk.symm)) hb
theorem overTypes_raw (A : Option Addr) (c n : Nat) (rows : List (List Value)) (base : Nat) (ok : Nat → Prop) (w : World) (hn : rows.length = n + 12) (hnb : n + 12 ≤ 140737488355328) (h : (Kd.raw 1).R 45 w base ok (.slice A (n + 12) c) rows) (hb : base ≤ w.heap.size) :
    Calls Tryz.prog 58 #[.slice A n c] w fun e w' => e = .returned (.tuple #[]) ∧ Touch base ok w w' := by
  obtain ⟨g, cap, hv, hgb, hgl, _⟩ := Kd.R_form h cq2
  injection hv with hA hq hc
  subst hA; subst hc
  clear hq
  have hrd := Kd.R_reads' h
  have hcap : n + 12 ≤ c := hrd.2.1
  have hcap2 : n ≤ c := by omega
  have hnm : n + 12 ≤ 9223372036854775807 := by have := hrd.2.2.2.1; omega
  have HB := qA hb
  have HN := qA hn
  have HOK := qA (show ok g from h.1 g rfl)
  have HGB := qA hgb
  have HO := qA h
  have HT := qA (Touch.refl base ok w)
  clear hrd hgb hgl h hn hb
  go_enter Tryz.func58, Tryz.ntmps58
  go_wp2
  go_loopw [3] (fun v3 wr => ∃ (j : Nat) (rows : List (List Value)), j ≤ n + 12 ∧ v3 = .int .i64 (j : Int) ∧ Aside0 (rows.length = n + 12) ∧ Aside0 ((Kd.raw 1).R 45 wr base ok (.slice (some ⟨g, 0, none⟩) (n + 12) c) rows) ∧ Aside0 (Touch base ok w wr)) (fun i _ => n + 12 - (intOf i).toNat)
  case atStart => exact ⟨0, rows, by omega, rfl, HN, HO, HT⟩
  case round =>
    clear HN HO HT
    obtain ⟨j, rows, hj, rfl, HN, HO, HT⟩ := hrel
    by_cases hlt : j < n + 12
    · have hlt' : (j : Int) < (n : Int) + 12 := by omega
      go_wp2_with fail
      refine (mark_calls 2 (j : Int) _ cq2 cq2 cq2 cq2).mono ?_
      rintro e w2 ⟨rfl, hb⟩
      have HO2 := qA (Kd.R_below HO.out hb)
      have hz : base ≤ wr.heap.size := by have := HB.out; have := HT.out.1.size; omega
      have HT2 := qA (HT.out.trans (Touch.of_below (ok := ok) hz hb))
      obtain ⟨cc, hcl, -, hcc, hfr⟩ := Kd.R_elem HO2.out [] (j : Int) cq2 cq2
      have HCL := qA hcl; have HCC := qA hcc
      clear hb hcl hcc hfr
      go_wp2_with (first | ((with_reducible refine gate_store (t := 45) (p := 20) rfl ?_); go_loud (refine Kd.R_store (Kd.raw 1) (w0 := w2) base rfl rfl 45 (.tmp 20) (.tmp 19) rfl 45 (g := g) (o' := j * 1) (j : Int) 0 rows [.int .u8 (mkI 2 (j : Int) % 256)] _ [.int .u8 (mkI 2 (j : Int) % 256)] cc ok (fun _ => False) ?ha ?hf rfl ?hu ?ht ?h1 HO2.out cq2 cq2 HCL.out HCC.out ?hj ?hM (fun _ hk => hk.elim) (Below.refl _ _) ?_; (case ha => first | rfl | (go_simp; done) | (go_simp; rfl)); (case hf => show j * 1 = (j : Int).toNat * 1 + 0; simp); (case hu => rfl); (case ht => kernel_rfl); (case h1 => intro q hq; revert q hq; simp [Value.oneCell']; done); (case hj => exact Nat.le_refl _); (case hM => exact raw_whole HCL.out rfl cq31); intro w1 ho hb1 hg; have HO4 := qA ho; have HT4 := qA (HT2.out.trans (Touch.grown cq32 hg HOK.out HGB.out)); clear ho hb1 hg)))
      go_roundw
      case rel => exact ⟨j + 1, _, by omega, by go_num, ⟨by rw [List.length_set]; exact HN.out⟩, HO4, HT4⟩
      case measure => simp [intOf]; omega
    · obtain rfl : j = n + 12 := by omega
      go_wp2
      go_end0
      exact ⟨rfl, HT.out⟩
theorem overTypes_calls (l : List Int) (v : Value) (base : Nat) (ok : Nat → Prop) (w : World) (h : lTypes.M w base ok l [v]) (hnb : l.length + 12 ≤ 140737488355328) (hb : base ≤ w.heap.size) :
    Calls Tryz.prog 58 #[v] w fun e w' => e = .returned (.tuple #[]) ∧ Touch base ok w w' := by
  obtain ⟨A, c, e, -, hS⟩ := h
  obtain rfl : v = .slice A l.length c := List.head_eq_of_cons_eq e
  rw [show (l ++ mks mT 12).length = l.length + 12 by rw [List.length_append, mks_len]] at hS
  obtain ⟨rows, hl, hR⟩ := R_bare (Kd.S_R hS)
  exact overTypes_raw A c l.length rows base ok w (by rw [hl, List.length_append, mks_len]) hnb (Kd.R_mono hR (fun k hk => (Kd.S_R hS).1 k hk.symm)) hb
theorem overArrays_raw (A : Option Addr) (c n : Nat) (rows : List (List Value)) (base : Nat) (ok : Nat → Prop) (w : World) (hn : rows.length = n + 12) (hnb : n + 12 ≤ 140737488355328) (h : (Kd.raw 2).R 155 w base ok (.slice A (n + 12) c) rows) (hb : base ≤ w.heap.size) :
    Calls Tryz.prog 59 #[.slice A n c] w fun e w' => e = .returned (.tuple #[]) ∧ Touch base ok w w' := by
  obtain ⟨g, cap, hv, hgb, hgl, _⟩ := Kd.R_form h cq2
  injection hv with hA hq hc
  subst hA; subst hc
  clear hq
  have hrd := Kd.R_reads' h
  have hcap : n + 12 ≤ c := hrd.2.1
  have hcap2 : n ≤ c := by omega
  have hnm : n + 12 ≤ 9223372036854775807 := by have := hrd.2.2.2.1; omega
  have HB := qA hb
  have HN := qA hn
  have HOK := qA (show ok g from h.1 g rfl)
  have HGB := qA hgb
  have HO := qA h
  have HT := qA (Touch.refl base ok w)
  clear hrd hgb hgl h hn hb
  go_enter Tryz.func59, Tryz.ntmps59
  go_wp2
  go_loopw [3] (fun v3 wr => ∃ (j : Nat) (rows : List (List Value)), j ≤ n + 12 ∧ v3 = .int .i64 (j : Int) ∧ Aside0 (rows.length = n + 12) ∧ Aside0 ((Kd.raw 2).R 155 wr base ok (.slice (some ⟨g, 0, none⟩) (n + 12) c) rows) ∧ Aside0 (Touch base ok w wr)) (fun i _ => n + 12 - (intOf i).toNat)
  case atStart => exact ⟨0, rows, by omega, rfl, HN, HO, HT⟩
  case round =>
    clear HN HO HT
    obtain ⟨j, rows, hj, rfl, HN, HO, HT⟩ := hrel
    by_cases hlt : j < n + 12
    · have hlt' : (j : Int) < (n : Int) + 12 := by omega
      go_wp2_with fail
      refine (markArray_calls 2 (j : Int) _ cq2 cq2 cq2 cq2).mono ?_
      rintro e w2 ⟨rfl, hb⟩
      have HO2 := qA (Kd.R_below HO.out hb)
      have hz : base ≤ wr.heap.size := by have := HB.out; have := HT.out.1.size; omega
      have HT2 := qA (HT.out.trans (Touch.of_below (ok := ok) hz hb))
      obtain ⟨cc, hcl, -, hcc, hfr⟩ := Kd.R_elem HO2.out [] (j : Int) cq2 cq2
      have HCL := qA hcl; have HCC := qA hcc
      clear hb hcl hcc hfr
      go_wp2_with (first | ((with_reducible refine gate_store (t := 155) (p := 19) rfl ?_); go_loud (refine Kd.R_store (Kd.raw 2) (w0 := w2) base rfl rfl 155 (.tmp 19) (.tmp 18) rfl 155 (g := g) (o' := j * 2) (j : Int) 0 rows [.int .u8 0, .int .i64 (mkI 2 (j : Int))] _ [.int .u8 0, .int .i64 (mkI 2 (j : Int))] cc ok (fun _ => False) ?ha ?hf rfl ?hu ?ht ?h1 HO2.out cq2 cq2 HCL.out HCC.out ?hj ?hM (fun _ hk => hk.elim) (Below.refl _ _) ?_; (case ha => first | rfl | (go_simp; done) | (go_simp; rfl)); (case hf => show j * 2 = (j : Int).toNat * 2 + 0; simp); (case hu => rfl); (case ht => kernel_rfl); (case h1 => intro q hq; revert q hq; simp [Value.oneCell']; done); (case hj => exact Nat.le_refl _); (case hM => exact raw_whole HCL.out rfl cq31); intro w1 ho hb1 hg; have HO4 := qA ho; have HT4 := qA (HT2.out.trans (Touch.grown cq32 hg HOK.out HGB.out)); clear ho hb1 hg)))
      go_roundw
      case rel => exact ⟨j + 1, _, by omega, by go_num, ⟨by rw [List.length_set]; exact HN.out⟩, HO4, HT4⟩
      case measure => simp [intOf]; omega
    · obtain rfl : j = n + 12 := by omega
      go_wp2
      go_end0
      exact ⟨rfl, HT.out⟩
theorem overArrays_calls (l : List S155) (v : Value) (base : Nat) (ok : Nat → Prop) (w : World) (h : lArrays.M w base ok l [v]) (hnb : l.length + 12 ≤ 140737488355328) (hb : base ≤ w.heap.size) :
    Calls Tryz.prog 59 #[v] w fun e w' => e = .returned (.tuple #[]) ∧ Touch base ok w w' := by
  obtain ⟨A, c, e, -, hS⟩ := h
  obtain rfl : v = .slice A l.length c := List.head_eq_of_cons_eq e
  rw [show (l ++ mks mA 12).length = l.length + 12 by rw [List.length_append, mks_len]] at hS
  obtain ⟨rows, hl, hR⟩ := R_bare (Kd.S_R hS)
  exact overArrays_raw A c l.length rows base ok w (by rw [hl, List.length_append, mks_len]) hnb (Kd.R_mono hR (fun k hk => (Kd.S_R hS).1 k hk.symm)) hb
theorem cell_touch {w w1 : World} {base : Nat} {ok : Nat → Prop} {a : Addr} {u : Value} (ht : Touch base ok w w1) (h : w.cell? a = some u) (hn : ¬ ok a.block) : w1.cell? a = some u := by
  have hlt := World.block_lt_of_cell? w _ h
  have he := ht.2 _ hlt hn
  simpa [World.cell?, he] using h
theorem lIns_open {w : World} {b : Nat} {ok : Nat → Prop} {x : S75} {cs : List Value} (h : lIns.M w b ok x cs) : ∃ A3 c3, cs = [.int .u8 x.f0, .int .u8 x.f1, .int .i64 x.f2, .slice A3 x.f3.length c3, .int .u64 x.f4, .int .i64 x.f5] ∧ lInts.M w b ok x.f3 [.slice A3 x.f3.length c3] := by
  obtain ⟨_, _, rfl, rfl, ⟨_, _, rfl, rfl, ⟨_, _, rfl, rfl, ⟨_, _, rfl, ⟨A, c, rfl, r1, r2⟩, ⟨_, _, rfl, rfl, rfl⟩⟩⟩⟩⟩ := h
  exact ⟨A, c, rfl, ⟨A, c, rfl, r1, r2⟩⟩
theorem lBlock_open {w : World} {b : Nat} {ok : Nat → Prop} {x : S58} {cs : List Value} (h : lBlock.M w b ok x cs) : ∃ A0 c0, cs = [.slice A0 x.f0.length c0, .int .u8 x.f1.f0, .int .i64 x.f1.f1, .int .i64 x.f1.f2.f0, .int .i64 x.f1.f2.f1, .int .u8 x.f1.f3] ∧ lInstrs.M w b ok x.f0 [.slice A0 x.f0.length c0] := by
  obtain ⟨_, c1, rfl, ⟨A, c, rfl, r1, r2⟩, h1⟩ := h
  obtain rfl := k56_openM h1
  exact ⟨A, c, rfl, ⟨A, c, rfl, r1, r2⟩⟩
theorem lGraph_open {w : World} {b : Nat} {ok : Nat → Prop} {x : S50} {cs : List Value} (h : lGraph.M w b ok x cs) : ∃ A1 c1 A3 c3 A4 c4 A5 c5, cs = [.string x.f0, .slice A1 x.f1.length c1, .int .u8 x.f2, .slice A3 x.f3.length c3, .slice A4 x.f4.length c4, .slice A5 x.f5.length c5] ∧
    ∃ p1 p2 p3 : Nat → Prop, lInts.M w b (fun k => ok k ∧ p1 k) x.f1 [.slice A1 x.f1.length c1] ∧ lTypes.M w b (fun k => (ok k ∧ ¬ p1 k) ∧ p2 k) x.f3 [.slice A3 x.f3.length c3] ∧ lArrays.M w b (fun k => ((ok k ∧ ¬ p1 k) ∧ ¬ p2 k) ∧ p3 k) x.f4 [.slice A4 x.f4.length c4] ∧ lBlocks.M w b (fun k => ((ok k ∧ ¬ p1 k) ∧ ¬ p2 k) ∧ ¬ p3 k) x.f5 [.slice A5 x.f5.length c5] := by
  obtain ⟨_, _, rfl, rfl, p1, _, _, rfl, ⟨A1, c1, rfl, a1, b1⟩, _, _, rfl, rfl, p2, _, _, rfl, ⟨A3, c3, rfl, a3, b3⟩, p3, _, _, rfl, ⟨A4, c4, rfl, a4, b4⟩, ⟨A5, c5, rfl, a5, b5⟩⟩ := h
  exact ⟨A1, c1, A3, c3, A4, c4, A5, c5, rfl, p1, p2, p3, ⟨A1, c1, rfl, a1, b1⟩, ⟨A3, c3, rfl, a3, b3⟩, ⟨A4, c4, rfl, a4, b4⟩, ⟨A5, c5, rfl, a5, b5⟩⟩
theorem overIns_calls (x : S75) (cs : List Value) (base : Nat) (ok : Nat → Prop) (w : World) (h : lIns.M w base ok x cs) (hs : szI x) (hb : base ≤ w.heap.size) :
    Calls Tryz.prog 151 #[.agg cs.toArray] w fun e w' => e = .returned (.tuple #[]) ∧ Touch base ok w w' := by
  obtain ⟨A3, c3, rfl, hM⟩ := lIns_open h
  have HM := qA hM
  have HS := qA hs
  have HB := qA hb
  have huT := Tryz.underlying75
  clear h hM hs hb
  go_enter Tryz.func151, Tryz.ntmps151
  go_wp2_with (first | ((with_reducible refine gate_dst (N := 1) rfl ?_); refine box_event ?hg (N := 1) ?hd (cs := #[.int .u8 x.f0, .int .u8 x.f1, .int .i64 x.f2, .slice A3 x.f3.length c3, .int .u64 x.f4, .int .i64 x.f5]) (t := 75) ?hr ?_; (case hd => rfl); (case hg => rfl); (case hr => first | (go_simp; done) | (go_simp; rfl)); intro g1 e1 w1 b1 hb1; have hz : w1.cell? ⟨g1, 3, none⟩ = some (.slice A3 x.f3.length c3) := (blk_cell b1 3).trans rfl; have H1 := qA hb1; clear e1 b1 hb1))
  refine (overInts_calls x.f3 _ base ok _ (M_of_below HM.out H1.out) (by have := HS.out; unfold szI at this; omega) (Nat.le_trans HB.out H1.out.size)).mono ?_
  rintro e w2 ⟨rfl, ht⟩
  have HT := qA ((Touch.of_below HB.out H1.out).trans ht)
  clear ht hz
  go_wp2
  go_end0
  exact ⟨rfl, HT.out⟩
theorem overInstrs_calls (l : List S75) (v : Value) (base : Nat) (ok : Nat → Prop) (w : World) (h : (hid 75 xIns List.length (fun l => both l (mks mIns 12))).M w base ok l [v]) (hnb : (l.length + 12) * 56 ≤ 140737488355328) (hs : ∀ x ∈ l, szI x) (hb : base ≤ w.heap.size) :
    Calls Tryz.prog 135 #[v] w fun e w' => e = .returned (.tuple #[]) ∧ Touch base ok w w' := by
  obtain ⟨A, c, e, -, hS⟩ := h
  obtain rfl : v = .slice A l.length c := List.head_eq_of_cons_eq e
  clear e
  have hlen : (both l (mks mIns 12)).length = l.length + 12 := by rw [both_len, mks_len]
  obtain ⟨f, hR⟩ := hS
  rw [hlen] at hR
  obtain ⟨g0, cap, hv, hgb, hgl, _⟩ := Kd.R_form hR cq58
  injection hv with hA hq hcq
  subst hcq
  obtain ⟨ad, had⟩ : ∃ ad : Addr, ad = ⟨g0, 0, none⟩ := ⟨_, rfl⟩
  obtain rfl : A = some ad := by rw [hA, had]
  have hag : ad.block = g0 := by rw [had]
  clear hq hA
  have hrd := Kd.R_reads' hR
  have hcap : l.length + 12 ≤ c := hrd.2.1
  have hcap2 : l.length ≤ c := by omega
  have hnm : l.length + 12 ≤ 9223372036854775807 := by have := hrd.2.2.2.1; have := hrd.1; omega
  obtain ⟨rows, hrl, hraw⟩ := R_bare hR
  have HRL := qA (show rows.length = l.length + 12 by rw [hrl, List.length_zipIdx, hlen])
  have HRAW := qA hraw
  have HOK := qA (show ok ad.block from hR.1 ad.block rfl)
  have HGB := qA (show base ≤ ad.block by rw [hag]; exact hgb)
  have HAD := qA had
  have HR := qA hR
  have HS := qA hs
  have HB := qA hb
  have HLEN := qA hlen
  have HT := qA ((Touch.refl base (fun k => ok k ∧ k ≠ ad.block ∧ f k < 0) w))
  have hnb2 : l.length + 12 ≤ 140737488355328 := by omega
  clear hrd hgb hgl hR hs hb hraw hrl hag had hlen hnb
  go_enter Tryz.func135, Tryz.ntmps135
  go_wp2
  go_loopw [2] (fun v2 wr => ∃ j : Nat, j ≤ l.length ∧ v2 = .int .i64 (j : Int) ∧ Aside0 (Touch base (fun k => ok k ∧ k ≠ ad.block ∧ f k < j) w wr)) (fun i _ => l.length - (intOf i).toNat)
  case atStart => exact ⟨0, by omega, rfl, HT⟩
  case round =>
    clear HT
    obtain ⟨j, hj, rfl, HT⟩ := hrel
    by_cases hlt : j < l.length
    · obtain ⟨cs, -, hM0, hcc⟩ := Kd.R_getA HR.out ((true, l[j]), 0) (j : Int) cq2 cq2
      have hel : ((both l (mks mIns 12)).zipIdx.getD (j : Int).toNat ((true, l[j]), 0)) = ((true, l[j]), j) := by
        rw [Int.toNat_natCast, qD, List.getElem?_zipIdx, both_lo hlt]; simp
      rw [hel] at hM0
      obtain ⟨x, hx⟩ : ∃ x, x = l[j] := ⟨_, rfl⟩
      rw [← hx] at hM0
      have HX := qA (show szI x by rw [hx]; exact HS.out _ (List.getElem_mem hlt))
      have hM : lIns.M w base (fun k => (ok k ∧ some k ≠ (Value.slice (some ad) (l.length + 12) c).ownBlock) ∧ f k = j) x cs := by
        rcases hM0 with ⟨_, h⟩ | ⟨h, _⟩
        · exact h
        · cases h
      clear hM0 hel hx
      obtain ⟨A3, c3, rfl, -⟩ := lIns_open (id hM)
      rw [Int.toNat_natCast] at hcc
      rw [show (Kd.tag f xIns).sz = 6 from rfl] at hcc
      have hz0 := cell_touch HT.out (hcc 0 _ rfl) cq16
      have hz1 := cell_touch HT.out (hcc 1 _ rfl) cq16
      have hz2 := cell_touch HT.out (hcc 2 _ rfl) cq16
      have hz3 := cell_touch HT.out (hcc 3 _ rfl) cq16
      have hz4 := cell_touch HT.out (hcc 4 _ rfl) cq16
      have hz5 := cell_touch HT.out (hcc 5 _ rfl) cq16
      rw [Nat.add_zero] at hz0
      rw [add_field _ _ 1 cq2] at hz1
      rw [add_field _ _ 2 cq2] at hz2
      rw [add_field _ _ 3 cq2] at hz3
      rw [add_field _ _ 4 cq2] at hz4
      rw [add_field _ _ 5 cq2] at hz5
      have HM := qA (M_touch hM HT.out (fun k h1 h2 => by have := h1.2; have := h2.2.2; omega))
      have hlt' : (j : Int) < (l.length : Int) := by omega
      clear hM hcc
      go_wp2_with fail
      refine (overIns_calls x _ base _ _ HM.out HX.out cq48).mono ?_
      rintro e w2 ⟨rfl, ht⟩
      have HT2 := qA ((HT.out.mono (ok' := fun k => ok k ∧ k ≠ ad.block ∧ f k < j + 1) (fun k hk => ⟨hk.1, hk.2.1, by have := hk.2.2; omega⟩)).trans (ht.mono (fun k hk => ⟨hk.1.1, fun e => hk.1.2 (by rw [e]; rfl), by have := hk.2; omega⟩)))
      clear ht hz0 hz1 hz2 hz3 hz4 hz5
      go_wp2
      go_roundw
      case rel => exact ⟨j + 1, by omega, by go_num, HT2⟩
      case measure => simp [intOf]; omega
    · obtain rfl : j = l.length := by omega
      have hge : ¬ (l.length : Int) < (l.length : Int) := by omega
      have HO0 := qA (R_touch HRAW.out HT.out (fun k h1 h2 => h2.2.1 (by have : some k = some ad.block := h1; injection this)))
      have HT0 := qA (HT.out.mono (ok' := ok) (fun k hk => hk.1))
      clear HT HRAW HR
      obtain ⟨g, rfl⟩ : ∃ g, ad = ⟨g, 0, none⟩ := ⟨g0, HAD.out⟩
      have HOG := qA (show (Kd.raw 6).R 75 wr base ok (.slice (some ⟨g, 0, none⟩) (l.length + 12) c) rows from Kd.R_mono HO0.out (fun k hk => by have : some k = some g := hk; injection this with this; rw [this]; exact HOK.out))
      clear HO0 HAD
      go_wp2
      go_loopw [4] (fun v4 wr => ∃ (j : Nat) (rows : List (List Value)), j ≤ l.length + 12 ∧ v4 = .int .i64 (j : Int) ∧ Aside0 (rows.length = l.length + 12) ∧ Aside0 ((Kd.raw 6).R 75 wr base ok (.slice (some ⟨g, 0, none⟩) (l.length + 12) c) rows) ∧ Aside0 (Touch base ok w wr)) (fun i _ => l.length + 12 - (intOf i).toNat)
      case atStart => exact ⟨0, rows, by omega, rfl, HRL, HOG, HT0⟩
      case round =>
        clear HRL HOG HT0 hge
        obtain ⟨j, rows, hj, rfl, HN, HO, HT⟩ := hrel
        by_cases hlt : j < l.length + 12
        · have hlt' : (j : Int) < (l.length : Int) + 12 := by omega
          go_wp2_with fail
          refine (markIns_calls 2 (j : Int) _ cq2 cq2 cq2 cq2).mono ?_
          rintro e w2 ⟨rfl, hb⟩
          have hz : base ≤ wr.heap.size := by have := HB.out; have := HT.out.1.size; omega
          have HO2 := qA (Kd.R_below HO.out hb)
          have HT2 := qA (HT.out.trans (Touch.of_below (ok := ok) hz hb))
          obtain ⟨cc, hcl, -, hcc, hfr⟩ := Kd.R_elem HO2.out [] (j : Int) cq2 cq2
          have HCL := qA hcl; have HCC := qA hcc
          clear hb hcl hcc hfr
          go_wp2_with (first | ((with_reducible refine gate_store (t := 75) (p := 31) rfl ?_); go_loud (refine Kd.R_store (Kd.raw 6) (w0 := w2) base rfl rfl 75 (.tmp 31) (.tmp 30) rfl 75 (g := g) (o' := j * 6) (j : Int) 0 rows [.int .u8 0, .int .u8 0, .int .i64 (mkI 2 (j : Int)), .slice none 0 0, .int .u64 0, .int .i64 0] _ [.int .u8 0, .int .u8 0, .int .i64 (mkI 2 (j : Int)), .slice none 0 0, .int .u64 0, .int .i64 0] cc ok (fun _ => False) ?ha ?hf rfl ?hu ?ht ?h1 HO2.out cq2 cq2 HCL.out HCC.out ?hj ?hM (fun _ hk => hk.elim) ?hB ?_; (case hB => exact Below.refl _ _); (case ha => first | rfl | (go_simp; done) | (go_simp; rfl)); (case hf => show j * 6 = (j : Int).toNat * 6 + 0; simp); (case hu => rfl); (case ht => kernel_rfl); (case h1 => intro q hq; revert q hq; simp [Value.oneCell']; done); (case hj => exact Nat.le_refl _); (case hM => exact raw_whole HCL.out rfl cq31); intro w1 ho hb1 hg; have HO4 := qA ho; have HT4 := qA (HT2.out.trans (Touch.grown cq32 hg HOK.out HGB.out)); clear ho hb1 hg)))
          go_roundw
          case rel => exact ⟨j + 1, _, by omega, by go_num, ⟨by rw [List.length_set]; exact HN.out⟩, HO4, HT4⟩
          case measure => simp [intOf]; omega
        · obtain rfl : j = l.length + 12 := by omega
          go_wp2
          go_end0
          exact ⟨rfl, HT.out⟩
theorem overBlock_calls (x : S58) (cs : List Value) (base : Nat) (ok : Nat → Prop) (w : World) (h : lBlock.M w base ok x cs) (hs : szB x) (hb : base ≤ w.heap.size) :
    Calls Tryz.prog 96 #[.agg cs.toArray] w fun e w' => e = .returned (.tuple #[]) ∧ Touch base ok w w' := by
  obtain ⟨A0, c0, rfl, hM⟩ := lBlock_open h
  have HM := qA hM
  have HS := qA hs
  have HB := qA hb
  have huT := Tryz.underlying58
  clear h hM hs hb
  go_enter Tryz.func96, Tryz.ntmps96
  go_wp2_with (first | ((with_reducible refine gate_dst (N := 1) rfl ?_); refine box_event ?hg (N := 1) ?hd (cs := #[.slice A0 x.f0.length c0, .int .u8 x.f1.f0, .int .i64 x.f1.f1, .int .i64 x.f1.f2.f0, .int .i64 x.f1.f2.f1, .int .u8 x.f1.f3]) (t := 58) ?hr ?_; (case hd => rfl); (case hg => rfl); (case hr => first | (go_simp; done) | (go_simp; rfl)); intro g1 e1 w1 b1 hb1; have hz : w1.cell? ⟨g1, 0, none⟩ = some (.slice A0 x.f0.length c0) := (blk_cell b1 0).trans rfl; have H1 := qA hb1; clear e1 b1 hb1))
  refine (overInstrs_calls x.f0 _ base ok _ (M_of_below HM.out H1.out) HS.out.1 HS.out.2 (Nat.le_trans HB.out H1.out.size)).mono ?_
  rintro e w2 ⟨rfl, ht⟩
  have HT := qA ((Touch.of_below HB.out H1.out).trans ht)
  clear ht hz
  go_wp2
  go_end0
  exact ⟨rfl, HT.out⟩
theorem overBlocks_calls (l : List S58) (v : Value) (base : Nat) (ok : Nat → Prop) (w : World) (h : (hid 58 xBlock List.length (fun l => both l (mks mBlock 12))).M w base ok l [v]) (hnb : (l.length + 12) * 64 ≤ 140737488355328) (hs : ∀ x ∈ l, szB x) (hb : base ≤ w.heap.size) :
    Calls Tryz.prog 60 #[v] w fun e w' => e = .returned (.tuple #[]) ∧ Touch base ok w w' := by
  obtain ⟨A, c, e, -, hS⟩ := h
  obtain rfl : v = .slice A l.length c := List.head_eq_of_cons_eq e
  clear e
  have hlen : (both l (mks mBlock 12)).length = l.length + 12 := by rw [both_len, mks_len]
  obtain ⟨f, hR⟩ := hS
  rw [hlen] at hR
  obtain ⟨g0, cap, hv, hgb, hgl, _⟩ := Kd.R_form hR cq58
  injection hv with hA hq hcq
  subst hcq
  obtain ⟨ad, had⟩ : ∃ ad : Addr, ad = ⟨g0, 0, none⟩ := ⟨_, rfl⟩
  obtain rfl : A = some ad := by rw [hA, had]
  have hag : ad.block = g0 := by rw [had]
  clear hq hA
  have hrd := Kd.R_reads' hR
  have hcap : l.length + 12 ≤ c := hrd.2.1
  have hcap2 : l.length ≤ c := by omega
  have hnm : l.length + 12 ≤ 9223372036854775807 := by have := hrd.2.2.2.1; have := hrd.1; omega
  obtain ⟨rows, hrl, hraw⟩ := R_bare hR
  have HRL := qA (show rows.length = l.length + 12 by rw [hrl, List.length_zipIdx, hlen])
  have HRAW := qA hraw
  have HOK := qA (show ok ad.block from hR.1 ad.block rfl)
  have HGB := qA (show base ≤ ad.block by rw [hag]; exact hgb)
  have HAD := qA had
  have HR := qA hR
  have HS := qA hs
  have HB := qA hb
  have HLEN := qA hlen
  have HT := qA ((Touch.refl base (fun k => ok k ∧ k ≠ ad.block ∧ f k < 0) w))
  have hnb2 : l.length + 12 ≤ 140737488355328 := by omega
  clear hrd hgb hgl hR hs hb hraw hrl hag had hlen hnb
  go_enter Tryz.func60, Tryz.ntmps60
  go_wp2
  go_loopw [2] (fun v2 wr => ∃ j : Nat, j ≤ l.length ∧ v2 = .int .i64 (j : Int) ∧ Aside0 (Touch base (fun k => ok k ∧ k ≠ ad.block ∧ f k < j) w wr)) (fun i _ => l.length - (intOf i).toNat)
  case atStart => exact ⟨0, by omega, rfl, HT⟩
  case round =>
    clear HT
    obtain ⟨j, hj, rfl, HT⟩ := hrel
    by_cases hlt : j < l.length
    · obtain ⟨cs, -, hM0, hcc⟩ := Kd.R_getA HR.out ((true, l[j]), 0) (j : Int) cq2 cq2
      have hel : ((both l (mks mBlock 12)).zipIdx.getD (j : Int).toNat ((true, l[j]), 0)) = ((true, l[j]), j) := by
        rw [Int.toNat_natCast, qD, List.getElem?_zipIdx, both_lo hlt]; simp
      rw [hel] at hM0
      obtain ⟨x, hx⟩ : ∃ x, x = l[j] := ⟨_, rfl⟩
      rw [← hx] at hM0
      have HX := qA (show szB x by rw [hx]; exact HS.out _ (List.getElem_mem hlt))
      have hM : lBlock.M w base (fun k => (ok k ∧ some k ≠ (Value.slice (some ad) (l.length + 12) c).ownBlock) ∧ f k = j) x cs := by
        rcases hM0 with ⟨_, h⟩ | ⟨h, _⟩
        · exact h
        · cases h
      clear hM0 hel hx
      obtain ⟨A0, c0, rfl, -⟩ := lBlock_open (id hM)
      rw [Int.toNat_natCast] at hcc
      rw [show (Kd.tag f xBlock).sz = 6 from rfl] at hcc
      have hz0 := cell_touch HT.out (hcc 0 _ rfl) cq16
      have hz1 := cell_touch HT.out (hcc 1 _ rfl) cq16
      have hz2 := cell_touch HT.out (hcc 2 _ rfl) cq16
      have hz3 := cell_touch HT.out (hcc 3 _ rfl) cq16
      have hz4 := cell_touch HT.out (hcc 4 _ rfl) cq16
      have hz5 := cell_touch HT.out (hcc 5 _ rfl) cq16
      rw [Nat.add_zero] at hz0
      rw [add_field _ _ 1 cq2] at hz1
      rw [add_field _ _ 2 cq2] at hz2
      rw [add_field _ _ 3 cq2] at hz3
      rw [add_field _ _ 4 cq2] at hz4
      rw [add_field _ _ 5 cq2] at hz5
      have HM := qA (M_touch hM HT.out (fun k h1 h2 => by have := h1.2; have := h2.2.2; omega))
      have hlt' : (j : Int) < (l.length : Int) := by omega
      clear hM hcc
      go_wp2_with fail
      refine (overBlock_calls x _ base _ _ HM.out HX.out cq48).mono ?_
      rintro e w2 ⟨rfl, ht⟩
      have HT2 := qA ((HT.out.mono (ok' := fun k => ok k ∧ k ≠ ad.block ∧ f k < j + 1) (fun k hk => ⟨hk.1, hk.2.1, by have := hk.2.2; omega⟩)).trans (ht.mono (fun k hk => ⟨hk.1.1, fun e => hk.1.2 (by rw [e]; rfl), by have := hk.2; omega⟩)))
      clear ht hz0 hz1 hz2 hz3 hz4 hz5
      go_wp2
      go_roundw
      case rel => exact ⟨j + 1, by omega, by go_num, HT2⟩
      case measure => simp [intOf]; omega
    · obtain rfl : j = l.length := by omega
      have hge : ¬ (l.length : Int) < (l.length : Int) := by omega
      have HO0 := qA (R_touch HRAW.out HT.out (fun k h1 h2 => h2.2.1 (by have : some k = some ad.block := h1; injection this)))
      have HT0 := qA (HT.out.mono (ok' := ok) (fun k hk => hk.1))
      clear HT HRAW HR
      obtain ⟨g, rfl⟩ : ∃ g, ad = ⟨g, 0, none⟩ := ⟨g0, HAD.out⟩
      have HOG := qA (show (Kd.raw 6).R 58 wr base ok (.slice (some ⟨g, 0, none⟩) (l.length + 12) c) rows from Kd.R_mono HO0.out (fun k hk => by have : some k = some g := hk; injection this with this; rw [this]; exact HOK.out))
      clear HO0 HAD
      go_wp2
      go_loopw [4] (fun v4 wr => ∃ (j : Nat) (rows : List (List Value)), j ≤ l.length + 12 ∧ v4 = .int .i64 (j : Int) ∧ Aside0 (rows.length = l.length + 12) ∧ Aside0 ((Kd.raw 6).R 58 wr base ok (.slice (some ⟨g, 0, none⟩) (l.length + 12) c) rows) ∧ Aside0 (Touch base ok w wr)) (fun i _ => l.length + 12 - (intOf i).toNat)
      case atStart => exact ⟨0, rows, by omega, rfl, HRL, HOG, HT0⟩
      case round =>
        clear HRL HOG HT0 hge
        obtain ⟨j, rows, hj, rfl, HN, HO, HT⟩ := hrel
        by_cases hlt : j < l.length + 12
        · have hlt' : (j : Int) < (l.length : Int) + 12 := by omega
          go_wp2_with fail
          refine (markBlock_calls 2 (j : Int) _ cq2 cq2 cq2 cq2).mono ?_
          rintro e w2 ⟨rfl, hb⟩
          have hz : base ≤ wr.heap.size := by have := HB.out; have := HT.out.1.size; omega
          have HO2 := qA (Kd.R_below HO.out hb)
          have HT2 := qA (HT.out.trans (Touch.of_below (ok := ok) hz hb))
          obtain ⟨cc, hcl, -, hcc, hfr⟩ := Kd.R_elem HO2.out [] (j : Int) cq2 cq2
          have HCL := qA hcl; have HCC := qA hcc
          clear hb hcl hcc hfr
          go_wp2_with (first | ((with_reducible refine gate_store (t := 58) (p := 31) rfl ?_); go_loud (refine Kd.R_store (Kd.raw 6) (w0 := w2) base rfl rfl 58 (.tmp 31) (.tmp 30) rfl 58 (g := g) (o' := j * 6) (j : Int) 0 rows [.slice none 0 0, .int .u8 0, .int .i64 (mkI 2 (j : Int)), .int .i64 0, .int .i64 0, .int .u8 0] _ [.slice none 0 0, .int .u8 0, .int .i64 (mkI 2 (j : Int)), .int .i64 0, .int .i64 0, .int .u8 0] cc ok (fun _ => False) ?ha ?hf rfl ?hu ?ht ?h1 HO2.out cq2 cq2 HCL.out HCC.out ?hj ?hM (fun _ hk => hk.elim) ?hB ?_; (case hB => exact Below.refl _ _); (case ha => first | rfl | (go_simp; done) | (go_simp; rfl)); (case hf => show j * 6 = (j : Int).toNat * 6 + 0; simp); (case hu => rfl); (case ht => kernel_rfl); (case h1 => intro q hq; revert q hq; simp [Value.oneCell']; done); (case hj => exact Nat.le_refl _); (case hM => exact raw_whole HCL.out rfl cq31); intro w1 ho hb1 hg; have HO4 := qA ho; have HT4 := qA (HT2.out.trans (Touch.grown cq32 hg HOK.out HGB.out)); clear ho hb1 hg)))
          go_roundw
          case rel => exact ⟨j + 1, _, by omega, by go_num, ⟨by rw [List.length_set]; exact HN.out⟩, HO4, HT4⟩
          case measure => simp [intOf]; omega
        · obtain rfl : j = l.length + 12 := by omega
          go_wp2
          go_end0
          exact ⟨rfl, HT.out⟩
theorem overGraph_calls (x : S50) (cs : List Value) (base : Nat) (ok : Nat → Prop) (w : World) (h : lGraph.M w base ok x cs) (hs : szG x) (hb : base ≤ w.heap.size) :
    Calls Tryz.prog 34 #[.agg cs.toArray] w fun e w' => e = .returned (.tuple #[]) ∧ Touch base ok w w' := by
  obtain ⟨A1, c1, A3, c3, A4, c4, A5, c5, rfl, p1, p2, p3, m1, m3, m4, m5⟩ := lGraph_open (lGraph.M_mono (ok' := fun k => ok k ∧ k < w.heap.size) (fun k hk => ⟨hk.1, hk.2.2.1⟩) (lGraph.M_bound h))
  have M1 := qA m1; have M3 := qA m3; have M4 := qA m4; have M5 := qA m5
  have HS := qA hs
  have HB := qA hb
  have huT := Tryz.underlying50
  clear h m1 m3 m4 m5 hs hb
  go_enter Tryz.func34, Tryz.ntmps34
  go_wp2_with (first | ((with_reducible refine gate_dst (N := 1) rfl ?_); refine box_event ?hg (N := 1) ?hd (cs := #[.string x.f0, .slice A1 x.f1.length c1, .int .u8 x.f2, .slice A3 x.f3.length c3, .slice A4 x.f4.length c4, .slice A5 x.f5.length c5]) (t := 50) ?hr ?_; (case hd => rfl); (case hg => rfl); (case hr => first | (go_simp; done) | (go_simp; rfl)); intro g1 e1 w1 b1 hb1; have hz : w1.cell? ⟨g1, 1, none⟩ = some (.slice A1 x.f1.length c1) := (blk_cell b1 1).trans rfl; have H1 := qA hb1; have B1 := qA b1; have G1 := qA (show w.heap.size ≤ g1 by omega); clear e1 b1 hb1))
  refine (overInts_calls x.f1 _ base _ _ (M_of_below M1.out H1.out) (by have := HS.out.1; omega) (Nat.le_trans HB.out H1.out.size)).mono ?_
  rintro e w2 ⟨rfl, ht⟩
  have HT := qA ((Touch.of_below (ok := ok) HB.out H1.out).trans (ht.mono (fun k hk => hk.1.1)))
  replace M3 := qA (M_touch (M_of_below M3.out H1.out) ht (fun k h1 h2 => h1.1.2 h2.2))
  replace M4 := qA (M_touch (M_of_below M4.out H1.out) ht (fun k h1 h2 => h1.1.1.2 h2.2))
  replace M5 := qA (M_touch (M_of_below M5.out H1.out) ht (fun k h1 h2 => h1.1.1.2 h2.2))
  replace B1 := qA ((ht.2 g1 (blk_lt B1.out) (fun h => by have := h.1.2; have := G1.out; omega)).trans B1.out)
  clear ht hz H1 M1
  have hz : w2.cell? ⟨g1, 3, none⟩ = some (.slice A3 x.f3.length c3) := (blk_cell B1.out 3).trans rfl
  go_wp2_with fail
  refine (overTypes_calls x.f3 _ base _ _ M3.out (by have := HS.out.2.1; omega) (Nat.le_trans HB.out HT.out.1.size)).mono ?_
  rintro e w3 ⟨rfl, ht⟩
  replace HT := qA (HT.out.trans (ht.mono (fun k hk => hk.1.1.1)))
  replace M4 := qA (M_touch M4.out ht (fun k h1 h2 => h1.1.2 h2.2))
  replace M5 := qA (M_touch M5.out ht (fun k h1 h2 => h1.1.2 h2.2))
  replace B1 := qA ((ht.2 g1 (blk_lt B1.out) (fun h => by have := h.1.1.2; have := G1.out; omega)).trans B1.out)
  clear ht hz M3
  have hz : w3.cell? ⟨g1, 4, none⟩ = some (.slice A4 x.f4.length c4) := (blk_cell B1.out 4).trans rfl
  go_wp2_with fail
  refine (overArrays_calls x.f4 _ base _ _ M4.out (by have := HS.out.2.2.1; omega) (Nat.le_trans HB.out HT.out.1.size)).mono ?_
  rintro e w4 ⟨rfl, ht⟩
  replace HT := qA (HT.out.trans (ht.mono (fun k hk => hk.1.1.1.1)))
  replace M5 := qA (M_touch M5.out ht (fun k h1 h2 => h1.2 h2.2))
  replace B1 := qA ((ht.2 g1 (blk_lt B1.out) (fun h => by have := h.1.1.1.2; have := G1.out; omega)).trans B1.out)
  clear ht hz M4
  have hz : w4.cell? ⟨g1, 5, none⟩ = some (.slice A5 x.f5.length c5) := (blk_cell B1.out 5).trans rfl
  go_wp2_with fail
  refine (overBlocks_calls x.f5 _ base _ _ M5.out HS.out.2.2.2.1 HS.out.2.2.2.2 (Nat.le_trans HB.out HT.out.1.size)).mono ?_
  rintro e w5 ⟨rfl, ht⟩
  replace HT := qA (HT.out.trans (ht.mono (fun k hk => hk.1.1.1.1)))
  clear ht hz M5
  go_wp2
  go_end0
  exact ⟨rfl, HT.out⟩
theorem overGraphs_calls (l : List S50) (v : Value) (base : Nat) (ok : Nat → Prop) (w : World) (h : (hid 50 xGraph List.length (fun l => both l (mks mGraph 12))).M w base ok l [v]) (hnb : (l.length + 12) * 120 ≤ 140737488355328) (hs : ∀ x ∈ l, szG x) (hb : base ≤ w.heap.size) :
    Calls Tryz.prog 15 #[v] w fun e w' => e = .returned (.tuple #[]) ∧ Touch base ok w w' := by
  obtain ⟨A, c, e, -, hS⟩ := h
  obtain rfl : v = .slice A l.length c := List.head_eq_of_cons_eq e
  clear e
  have hlen : (both l (mks mGraph 12)).length = l.length + 12 := by rw [both_len, mks_len]
  obtain ⟨f, hR⟩ := hS
  rw [hlen] at hR
  obtain ⟨g0, cap, hv, hgb, hgl, _⟩ := Kd.R_form hR cq58
  injection hv with hA hq hcq
  subst hcq
  obtain ⟨ad, had⟩ : ∃ ad : Addr, ad = ⟨g0, 0, none⟩ := ⟨_, rfl⟩
  obtain rfl : A = some ad := by rw [hA, had]
  have hag : ad.block = g0 := by rw [had]
  clear hq hA
  have hrd := Kd.R_reads' hR
  have hcap : l.length + 12 ≤ c := hrd.2.1
  have hcap2 : l.length ≤ c := by omega
  have hnm : l.length + 12 ≤ 9223372036854775807 := by have := hrd.2.2.2.1; have := hrd.1; omega
  obtain ⟨rows, hrl, hraw⟩ := R_bare hR
  have HRL := qA (show rows.length = l.length + 12 by rw [hrl, List.length_zipIdx, hlen])
  have HRAW := qA hraw
  have HOK := qA (show ok ad.block from hR.1 ad.block rfl)
  have HGB := qA (show base ≤ ad.block by rw [hag]; exact hgb)
  have HAD := qA had
  have HR := qA hR
  have HS := qA hs
  have HB := qA hb
  have HLEN := qA hlen
  have HT := qA ((Touch.refl base (fun k => ok k ∧ k ≠ ad.block ∧ f k < 0) w))
  have hnb2 : l.length + 12 ≤ 140737488355328 := by omega
  clear hrd hgb hgl hR hs hb hraw hrl hag had hlen hnb
  go_enter Tryz.func15, Tryz.ntmps15
  go_wp2
  go_loopw [2] (fun v2 wr => ∃ j : Nat, j ≤ l.length ∧ v2 = .int .i64 (j : Int) ∧ Aside0 (Touch base (fun k => ok k ∧ k ≠ ad.block ∧ f k < j) w wr)) (fun i _ => l.length - (intOf i).toNat)
  case atStart => exact ⟨0, by omega, rfl, HT⟩
  case round =>
    clear HT
    obtain ⟨j, hj, rfl, HT⟩ := hrel
    by_cases hlt : j < l.length
    · obtain ⟨cs, -, hM0, hcc⟩ := Kd.R_getA HR.out ((true, l[j]), 0) (j : Int) cq2 cq2
      have hel : ((both l (mks mGraph 12)).zipIdx.getD (j : Int).toNat ((true, l[j]), 0)) = ((true, l[j]), j) := by
        rw [Int.toNat_natCast, qD, List.getElem?_zipIdx, both_lo hlt]; simp
      rw [hel] at hM0
      obtain ⟨x, hx⟩ : ∃ x, x = l[j] := ⟨_, rfl⟩
      rw [← hx] at hM0
      have HX := qA (show szG x by rw [hx]; exact HS.out _ (List.getElem_mem hlt))
      have hM : lGraph.M w base (fun k => (ok k ∧ some k ≠ (Value.slice (some ad) (l.length + 12) c).ownBlock) ∧ f k = j) x cs := by
        rcases hM0 with ⟨_, h⟩ | ⟨h, _⟩
        · exact h
        · cases h
      clear hM0 hel hx
      obtain ⟨A1, c1, A3, c3, A4, c4, A5, c5, rfl, -⟩ := lGraph_open (id hM)
      rw [Int.toNat_natCast] at hcc
      rw [show (Kd.tag f xGraph).sz = 6 from rfl] at hcc
      have hz0 := cell_touch HT.out (hcc 0 _ rfl) cq16
      have hz1 := cell_touch HT.out (hcc 1 _ rfl) cq16
      have hz2 := cell_touch HT.out (hcc 2 _ rfl) cq16
      have hz3 := cell_touch HT.out (hcc 3 _ rfl) cq16
      have hz4 := cell_touch HT.out (hcc 4 _ rfl) cq16
      have hz5 := cell_touch HT.out (hcc 5 _ rfl) cq16
      rw [Nat.add_zero] at hz0
      rw [add_field _ _ 1 cq2] at hz1
      rw [add_field _ _ 2 cq2] at hz2
      rw [add_field _ _ 3 cq2] at hz3
      rw [add_field _ _ 4 cq2] at hz4
      rw [add_field _ _ 5 cq2] at hz5
      have HM := qA (M_touch hM HT.out (fun k h1 h2 => by have := h1.2; have := h2.2.2; omega))
      have hlt' : (j : Int) < (l.length : Int) := by omega
      clear hM hcc
      go_wp2_with fail
      refine (overGraph_calls x _ base _ _ HM.out HX.out cq48).mono ?_
      rintro e w2 ⟨rfl, ht⟩
      have HT2 := qA ((HT.out.mono (ok' := fun k => ok k ∧ k ≠ ad.block ∧ f k < j + 1) (fun k hk => ⟨hk.1, hk.2.1, by have := hk.2.2; omega⟩)).trans (ht.mono (fun k hk => ⟨hk.1.1, fun e => hk.1.2 (by rw [e]; rfl), by have := hk.2; omega⟩)))
      clear ht hz0 hz1 hz2 hz3 hz4 hz5
      go_wp2
      go_roundw
      case rel => exact ⟨j + 1, by omega, by go_num, HT2⟩
      case measure => simp [intOf]; omega
    · obtain rfl : j = l.length := by omega
      have hge : ¬ (l.length : Int) < (l.length : Int) := by omega
      have HO0 := qA (R_touch HRAW.out HT.out (fun k h1 h2 => h2.2.1 (by have : some k = some ad.block := h1; injection this)))
      have HT0 := qA (HT.out.mono (ok' := ok) (fun k hk => hk.1))
      clear HT HRAW HR
      obtain ⟨g, rfl⟩ : ∃ g, ad = ⟨g, 0, none⟩ := ⟨g0, HAD.out⟩
      have HOG := qA (show (Kd.raw 6).R 50 wr base ok (.slice (some ⟨g, 0, none⟩) (l.length + 12) c) rows from Kd.R_mono HO0.out (fun k hk => by have : some k = some g := hk; injection this with this; rw [this]; exact HOK.out))
      clear HO0 HAD
      go_wp2
      go_loopw [4] (fun v4 wr => ∃ (j : Nat) (rows : List (List Value)), j ≤ l.length + 12 ∧ v4 = .int .i64 (j : Int) ∧ Aside0 (rows.length = l.length + 12) ∧ Aside0 ((Kd.raw 6).R 50 wr base ok (.slice (some ⟨g, 0, none⟩) (l.length + 12) c) rows) ∧ Aside0 (Touch base ok w wr)) (fun i _ => l.length + 12 - (intOf i).toNat)
      case atStart => exact ⟨0, rows, by omega, rfl, HRL, HOG, HT0⟩
      case round =>
        clear HRL HOG HT0 hge
        obtain ⟨j, rows, hj, rfl, HN, HO, HT⟩ := hrel
        by_cases hlt : j < l.length + 12
        · have hlt' : (j : Int) < (l.length : Int) + 12 := by omega
          go_wp2_with fail
          refine (markGraph_calls 2 (j : Int) _ cq2 cq2 cq2 cq2).mono ?_
          rintro e w2 ⟨rfl, hb⟩
          have hz : base ≤ wr.heap.size := by have := HB.out; have := HT.out.1.size; omega
          have HO2 := qA (Kd.R_below HO.out hb)
          have HT2 := qA (HT.out.trans (Touch.of_below (ok := ok) hz hb))
          obtain ⟨cc, hcl, -, hcc, hfr⟩ := Kd.R_elem HO2.out [] (j : Int) cq2 cq2
          have HCL := qA hcl; have HCC := qA hcc
          clear hb hcl hcc hfr
          go_wp2_with (first | ((with_reducible refine gate_store (t := 50) (p := 31) rfl ?_); go_loud (refine Kd.R_store (Kd.raw 6) (w0 := w2) base rfl rfl 50 (.tmp 31) (.tmp 30) rfl 50 (g := g) (o' := j * 6) (j : Int) 0 rows [.string (mText 2 (j : Int)), .slice none 0 0, .int .u8 0, .slice none 0 0, .slice none 0 0, .slice none 0 0] _ [.string (mText 2 (j : Int)), .slice none 0 0, .int .u8 0, .slice none 0 0, .slice none 0 0, .slice none 0 0] cc ok (fun _ => False) ?ha ?hf rfl ?hu ?ht ?h1 HO2.out cq2 cq2 HCL.out HCC.out ?hj ?hM (fun _ hk => hk.elim) ?hB ?_; (case hB => exact Below.refl _ _); (case ha => first | rfl | (go_simp; done) | (go_simp; rfl)); (case hf => show j * 6 = (j : Int).toNat * 6 + 0; simp); (case hu => rfl); (case ht => kernel_rfl); (case h1 => intro q hq; revert q hq; simp [Value.oneCell']; done); (case hj => exact Nat.le_refl _); (case hM => exact raw_whole HCL.out rfl cq31); intro w1 ho hb1 hg; have HO4 := qA ho; have HT4 := qA (HT2.out.trans (Touch.grown cq32 hg HOK.out HGB.out)); clear ho hb1 hg)))
          go_roundw
          case rel => exact ⟨j + 1, _, by omega, by go_num, ⟨by rw [List.length_set]; exact HN.out⟩, HO4, HT4⟩
          case measure => simp [intOf]; omega
        · obtain rfl : j = l.length + 12 := by omega
          go_wp2
          go_end0
          exact ⟨rfl, HT.out⟩
theorem overRows_calls (l : List (List Int)) (v : Value) (base : Nat) (ok : Nat → Prop) (w : World) (h : (hid 44 xInts List.length (fun l => both l (mks mRow 12))).M w base ok l [v]) (hnb : (l.length + 12) * 24 ≤ 140737488355328) (hs : ∀ x ∈ l, (x.length + 12) * 8 ≤ 140737488355328) (hb : base ≤ w.heap.size) :
    Calls Tryz.prog 14 #[v] w fun e w' => e = .returned (.tuple #[]) ∧ Touch base ok w w' := by
  obtain ⟨A, c, e, -, hS⟩ := h
  obtain rfl : v = .slice A l.length c := List.head_eq_of_cons_eq e
  clear e
  have hlen : (both l (mks mRow 12)).length = l.length + 12 := by rw [both_len, mks_len]
  obtain ⟨f, hR⟩ := hS
  rw [hlen] at hR
  obtain ⟨g0, cap, hv, hgb, hgl, _⟩ := Kd.R_form hR cq58
  injection hv with hA hq hcq
  subst hcq
  obtain ⟨ad, had⟩ : ∃ ad : Addr, ad = ⟨g0, 0, none⟩ := ⟨_, rfl⟩
  obtain rfl : A = some ad := by rw [hA, had]
  have hag : ad.block = g0 := by rw [had]
  clear hq hA
  have hrd := Kd.R_reads' hR
  have hcap : l.length + 12 ≤ c := hrd.2.1
  have hcap2 : l.length ≤ c := by omega
  have hnm : l.length + 12 ≤ 9223372036854775807 := by have := hrd.2.2.2.1; have := hrd.1; omega
  obtain ⟨rows, hrl, hraw⟩ := R_bare hR
  have HRL := qA (show rows.length = l.length + 12 by rw [hrl, List.length_zipIdx, hlen])
  have HRAW := qA hraw
  have HOK := qA (show ok ad.block from hR.1 ad.block rfl)
  have HGB := qA (show base ≤ ad.block by rw [hag]; exact hgb)
  have HAD := qA had
  have HR := qA hR
  have HS := qA hs
  have HB := qA hb
  have HLEN := qA hlen
  have HT := qA ((Touch.refl base (fun k => ok k ∧ k ≠ ad.block ∧ f k < 0) w))
  have hnb2 : l.length + 12 ≤ 140737488355328 := by omega
  clear hrd hgb hgl hR hs hb hraw hrl hag had hlen hnb
  go_enter Tryz.func14, Tryz.ntmps14
  go_wp2
  go_loopw [2] (fun v2 wr => ∃ j : Nat, j ≤ l.length ∧ v2 = .int .i64 (j : Int) ∧ Aside0 (Touch base (fun k => ok k ∧ k ≠ ad.block ∧ f k < j) w wr)) (fun i _ => l.length - (intOf i).toNat)
  case atStart => exact ⟨0, by omega, rfl, HT⟩
  case round =>
    clear HT
    obtain ⟨j, hj, rfl, HT⟩ := hrel
    by_cases hlt : j < l.length
    · obtain ⟨cs, -, hM0, hcc⟩ := Kd.R_getA HR.out ((true, l[j]), 0) (j : Int) cq2 cq2
      have hel : ((both l (mks mRow 12)).zipIdx.getD (j : Int).toNat ((true, l[j]), 0)) = ((true, l[j]), j) := by
        rw [Int.toNat_natCast, qD, List.getElem?_zipIdx, both_lo hlt]; simp
      rw [hel] at hM0
      obtain ⟨x, hx⟩ : ∃ x, x = l[j] := ⟨_, rfl⟩
      rw [← hx] at hM0
      have HX := qA (show (x.length + 12) * 8 ≤ 140737488355328 by rw [hx]; exact HS.out _ (List.getElem_mem hlt))
      have hM : lInts.M w base (fun k => (ok k ∧ some k ≠ (Value.slice (some ad) (l.length + 12) c).ownBlock) ∧ f k = j) x cs := by
        rcases hM0 with ⟨_, h⟩ | ⟨h, _⟩
        · exact h
        · cases h
      clear hM0 hel hx
      obtain ⟨A0, c0, hcs, -⟩ := id hM; subst hcs
      rw [Int.toNat_natCast] at hcc
      rw [show (Kd.tag f xInts).sz = 1 from rfl] at hcc
      have hz0 := cell_touch HT.out (hcc 0 _ rfl) cq16
      rw [Nat.add_zero, Nat.mul_one] at hz0
      have HM := qA (M_touch hM HT.out (fun k h1 h2 => by have := h1.2; have := h2.2.2; omega))
      have hlt' : (j : Int) < (l.length : Int) := by omega
      clear hM hcc
      go_wp2_with fail
      refine (overInts_calls x _ base _ _ HM.out (by have := HX.out; omega) cq48).mono ?_
      rintro e w2 ⟨rfl, ht⟩
      have HT2 := qA ((HT.out.mono (ok' := fun k => ok k ∧ k ≠ ad.block ∧ f k < j + 1) (fun k hk => ⟨hk.1, hk.2.1, by have := hk.2.2; omega⟩)).trans (ht.mono (fun k hk => ⟨hk.1.1, fun e => hk.1.2 (by rw [e]; rfl), by have := hk.2; omega⟩)))
      clear ht hz0
      go_wp2
      go_roundw
      case rel => exact ⟨j + 1, by omega, by go_num, HT2⟩
      case measure => simp [intOf]; omega
    · obtain rfl : j = l.length := by omega
      have hge : ¬ (l.length : Int) < (l.length : Int) := by omega
      have HO0 := qA (R_touch HRAW.out HT.out (fun k h1 h2 => h2.2.1 (by have : some k = some ad.block := h1; injection this)))
      have HT0 := qA (HT.out.mono (ok' := ok) (fun k hk => hk.1))
      clear HT HRAW HR
      obtain ⟨g, rfl⟩ : ∃ g, ad = ⟨g, 0, none⟩ := ⟨g0, HAD.out⟩
      have HOG := qA (show (Kd.raw 1).R 44 wr base ok (.slice (some ⟨g, 0, none⟩) (l.length + 12) c) rows from Kd.R_mono HO0.out (fun k hk => by have : some k = some g := hk; injection this with this; rw [this]; exact HOK.out))
      clear HO0 HAD
      go_wp2
      go_loopw [4] (fun v4 wr => ∃ (j : Nat) (rows : List (List Value)), j ≤ l.length + 12 ∧ v4 = .int .i64 (j : Int) ∧ Aside0 (rows.length = l.length + 12) ∧ Aside0 ((Kd.raw 1).R 44 wr base ok (.slice (some ⟨g, 0, none⟩) (l.length + 12) c) rows) ∧ Aside0 (Touch base ok w wr)) (fun i _ => l.length + 12 - (intOf i).toNat)
      case atStart => exact ⟨0, rows, by omega, rfl, HRL, HOG, HT0⟩
      case round =>
        clear HRL HOG HT0 hge
        obtain ⟨j, rows, hj, rfl, HN, HO, HT⟩ := hrel
        by_cases hlt : j < l.length + 12
        · have hlt' : (j : Int) < (l.length : Int) + 12 := by omega
          go_wp2_with fail
          refine (mark_calls 2 (j : Int) _ cq2 cq2 cq2 cq2).mono ?_
          rintro e w2 ⟨rfl, hb⟩
          have hz : base ≤ wr.heap.size := by have := HB.out; have := HT.out.1.size; omega
          have HO2 := qA (Kd.R_below HO.out (hb.trans ((below_alloc (Below.refl _ _) (.cells #[.int .i64 (mkI 2 (j : Int))] 3)).mono hb.size)))
          have HT2 := qA (HT.out.trans (Touch.of_below (ok := ok) hz (hb.trans ((below_alloc (Below.refl _ _) (.cells #[.int .i64 (mkI 2 (j : Int))] 3)).mono hb.size))))
          obtain ⟨cc, hcl, -, hcc, hfr⟩ := Kd.R_elem HO2.out [] (j : Int) cq2 cq2
          have HCL := qA hcl; have HCC := qA hcc
          clear hb hcl hcc hfr
          go_wp2_with (first | ((with_reducible refine gate_store (t := 44) (p := 32) rfl ?_); go_loud (refine Kd.R_store (Kd.raw 1) (w0 := w2.alloc (.cells #[.int .i64 (mkI 2 (j : Int))] 3)) base rfl rfl 44 (.tmp 32) (.tmp 31) rfl 44 (g := g) (o' := j * 1) (j : Int) 0 rows [.slice (some ⟨w2.heap.size, 0, none⟩) 1 1] _ [.slice (some ⟨w2.heap.size, 0, none⟩) 1 1] cc ok (fun _ => False) ?ha ?hf rfl ?hu ?ht ?h1 HO2.out cq2 cq2 HCL.out HCC.out ?hj ?hM (fun _ hk => hk.elim) ?hB ?_; (case hB => exact Below.refl _ _); (case ha => first | rfl | (go_simp; done) | (go_simp; rfl)); (case hf => show j * 1 = (j : Int).toNat * 1 + 0; simp); (case hu => rfl); (case ht => kernel_rfl); (case h1 => intro q hq; revert q hq; simp [Value.oneCell']; done); (case hj => exact Nat.le_refl _); (case hM => exact raw_whole HCL.out rfl cq31); intro w1 ho hb1 hg; have HO4 := qA ho; have HT4 := qA (HT2.out.trans (Touch.grown cq32 hg HOK.out HGB.out)); clear ho hb1 hg)))
          go_roundw
          case rel => exact ⟨j + 1, _, by omega, by go_num, ⟨by rw [List.length_set]; exact HN.out⟩, HO4, HT4⟩
          case measure => simp [intOf]; omega
        · obtain rfl : j = l.length + 12 := by omega
          go_wp2
          go_end0
          exact ⟨rfl, HT.out⟩
end Go.Proofs.YtligpleningglaaGreat.Lk
namespace Go.Proofs.YtligpleningglaaGreat.Lk
open Go Go.RowKit Go.Proofs.YtligpleningglaaGreatW.PrintWords Go.Proofs.YtligpleningglaaGreatW.PrintLast Go.Proofs.YtligpleningglaaGreatW.PrintMore Go.Proofs.YtligpleningglaaGreat.F
theorem C_pre {α β : Type} {d : Kd α} {e : Kd β} {w : World} {A : Option Addr} {n : Nat} {xs : List α} {ys : List β} (h : Kd.C d w A n xs) (hs : e.sz = d.sz) (hl : ys.length ≤ n) (hp : ∀ (j : Nat) (y : β), ys[j]? = some y → ∃ x, xs[j]? = some x ∧ ∀ cs, d.K w x cs → e.K w y cs) : Kd.C e w A ys.length ys := by
  obtain ⟨h1, h2, h3⟩ := h
  refine ⟨rfl, by omega, fun hpos => ?_⟩
  obtain ⟨ad, rfl, h4⟩ := h3 cq2
  refine ⟨ad, rfl, fun j y hy => ?_⟩
  obtain ⟨x, hx, hk⟩ := hp j y hy
  obtain ⟨c, hc, hr, hcell⟩ := h4 j x hx
  exact ⟨c, by rw [hs]; exact hc, hk c hr, by rw [hs]; exact hcell⟩
theorem flat_weak {α : Type} {e : Nat} {d : Kd α} {m : List α} {w : World} {l : List α} {v : Value} (h : (hid e d List.length (fun l => l ++ m)).K w l [v]) : ∃ A c, v = .slice A l.length c ∧ l.length ≤ c ∧ Kd.C d w A l.length l := by
  obtain ⟨A, c, e, h1, h2, h3⟩ := h
  refine ⟨A, c, List.head_eq_of_cons_eq e, by omega, C_pre h3 rfl h1 (fun j y hy => ⟨y, ?_, fun _ h => h⟩)⟩
  rw [List.getElem?_append_left (List.getElem?_eq_some_iff.1 hy).1]
  exact hy
theorem nest_weak {α : Type} {e : Nat} {a b : Kd α} {hs : b.sz = a.sz} {m : List α} {w : World} {l : List α} {v : Value} (hw : ∀ x cs, a.K w x cs → b.K w x cs) (h : (hid e (alt a b hs) List.length (fun l => both l m)).K w l [v]) : ∃ A c, v = .slice A l.length c ∧ l.length ≤ c ∧ Kd.C b w A l.length l := by
  obtain ⟨A, c, e, h1, h2, h3⟩ := h
  refine ⟨A, c, List.head_eq_of_cons_eq e, by omega, C_pre h3 hs h1 (fun j y hy => ⟨(true, y), ?_, ?_⟩)⟩
  · have hj := (List.getElem?_eq_some_iff.1 hy).1
    have hy' := (List.getElem?_eq_some_iff.1 hy).2
    rw [both_lo hj, hy']
  · rintro cs (⟨_, h⟩ | ⟨h, _⟩)
    · exact hw _ _ h
    · cases h
theorem lIns_openK {w : World} {x : S75} {cs : List Value} (h : lIns.K w x cs) : ∃ A3 c3, cs = [.int .u8 x.f0, .int .u8 x.f1, .int .i64 x.f2, .slice A3 x.f3.length c3, .int .u64 x.f4, .int .i64 x.f5] ∧ lInts.K w x.f3 [.slice A3 x.f3.length c3] := by
  obtain ⟨_, _, rfl, rfl, ⟨_, _, rfl, rfl, ⟨_, _, rfl, rfl, ⟨_, _, rfl, ⟨A, c, rfl, r1, r2⟩, ⟨_, _, rfl, rfl, rfl⟩⟩⟩⟩⟩ := h
  exact ⟨A, c, rfl, ⟨A, c, rfl, r1, r2⟩⟩
theorem k75_mkK {w : World} {x : S75} {A3 : Option Addr} {c3 : Nat} (h1 : x.f3.length ≤ c3) (h2 : Kd.C (Kd.int .i64) w A3 x.f3.length x.f3) : k75.K w x [.int .u8 x.f0, .int .u8 x.f1, .int .i64 x.f2, .slice A3 x.f3.length c3, .int .u64 x.f4, .int .i64 x.f5] :=
  ⟨[.int .u8 x.f0], [.int .u8 x.f1, .int .i64 x.f2, .slice A3 x.f3.length c3, .int .u64 x.f4, .int .i64 x.f5], rfl, rfl, ⟨[.int .u8 x.f1], [.int .i64 x.f2, .slice A3 x.f3.length c3, .int .u64 x.f4, .int .i64 x.f5], rfl, rfl, ⟨[.int .i64 x.f2], [.slice A3 x.f3.length c3, .int .u64 x.f4, .int .i64 x.f5], rfl, rfl, ⟨[.slice A3 x.f3.length c3], [.int .u64 x.f4, .int .i64 x.f5], rfl, ⟨A3, c3, rfl, h1, h2⟩, ⟨[.int .u64 x.f4], [.int .i64 x.f5], rfl, rfl, rfl⟩⟩⟩⟩⟩
theorem lIns_weak {w : World} {x : S75} {cs : List Value} (h : lIns.K w x cs) : k75.K w x cs := by
  obtain ⟨A3, c3, rfl, h3⟩ := lIns_openK h
  obtain ⟨A, c, e, h4, h5⟩ := flat_weak h3
  injection e with e1 _ e2
  subst e1; subst e2
  exact k75_mkK h4 h5
theorem lInstrs_weak {w : World} {l : List S75} {v : Value} (h : lInstrs.K w l [v]) : ∃ A c, v = .slice A l.length c ∧ l.length ≤ c ∧ Kd.C k75 w A l.length l := nest_weak (fun _ _ => lIns_weak) h
theorem lBlock_openK {w : World} {x : S58} {cs : List Value} (h : lBlock.K w x cs) : ∃ A0 c0, cs = [.slice A0 x.f0.length c0, .int .u8 x.f1.f0, .int .i64 x.f1.f1, .int .i64 x.f1.f2.f0, .int .i64 x.f1.f2.f1, .int .u8 x.f1.f3] ∧ lInstrs.K w x.f0 [.slice A0 x.f0.length c0] := by
  obtain ⟨_, c1, rfl, ⟨A, c, rfl, r1, r2⟩, h1⟩ := h
  obtain rfl := k56_open h1
  exact ⟨A, c, rfl, ⟨A, c, rfl, r1, r2⟩⟩
theorem lBlock_weak {w : World} {x : S58} {cs : List Value} (h : lBlock.K w x cs) : k58.K w x cs := by
  obtain ⟨A0, c0, rfl, h3⟩ := lBlock_openK h
  obtain ⟨A, c, e, h4, h5⟩ := lInstrs_weak h3
  injection e with e1 _ e2
  subst e1; subst e2
  exact ⟨[.slice A0 x.f0.length c0], [.int .u8 x.f1.f0, .int .i64 x.f1.f1, .int .i64 x.f1.f2.f0, .int .i64 x.f1.f2.f1, .int .u8 x.f1.f3], rfl, ⟨A0, c0, rfl, h4, h5⟩, k56_mk w x.f1⟩
theorem lBlocks_weak {w : World} {l : List S58} {v : Value} (h : lBlocks.K w l [v]) : ∃ A c, v = .slice A l.length c ∧ l.length ≤ c ∧ Kd.C k58 w A l.length l := nest_weak (fun _ _ => lBlock_weak) h
theorem lGraph_openK {w : World} {x : S50} {cs : List Value} (h : lGraph.K w x cs) : ∃ A1 c1 A3 c3 A4 c4 A5 c5, cs = [.string x.f0, .slice A1 x.f1.length c1, .int .u8 x.f2, .slice A3 x.f3.length c3, .slice A4 x.f4.length c4, .slice A5 x.f5.length c5] ∧ lInts.K w x.f1 [.slice A1 x.f1.length c1] ∧ lTypes.K w x.f3 [.slice A3 x.f3.length c3] ∧ lArrays.K w x.f4 [.slice A4 x.f4.length c4] ∧ lBlocks.K w x.f5 [.slice A5 x.f5.length c5] := by
  obtain ⟨_, _, rfl, rfl, _, _, rfl, ⟨A1, c1, rfl, a1⟩, _, _, rfl, rfl, _, _, rfl, ⟨A3, c3, rfl, a3⟩, _, _, rfl, ⟨A4, c4, rfl, a4⟩, ⟨A5, c5, rfl, a5⟩⟩ := h
  exact ⟨A1, c1, A3, c3, A4, c4, A5, c5, rfl, ⟨A1, c1, rfl, a1⟩, ⟨A3, c3, rfl, a3⟩, ⟨A4, c4, rfl, a4⟩, ⟨A5, c5, rfl, a5⟩⟩
theorem lGraph_weak {w : World} {x : S50} {cs : List Value} (h : lGraph.K w x cs) : k50.K w x cs := by
  obtain ⟨A1, c1, A3, c3, A4, c4, A5, c5, rfl, h1, h3, h4, h5⟩ := lGraph_openK h
  obtain ⟨B1, b1, e1, l1, g1⟩ := flat_weak h1
  obtain ⟨B3, b3, e3, l3, g3⟩ := flat_weak h3
  obtain ⟨B4, b4, e4, l4, g4⟩ := flat_weak h4
  obtain ⟨B5, b5, e5, l5, g5⟩ := lBlocks_weak h5
  injection e1 with p1 _ q1; injection e3 with p3 _ q3; injection e4 with p4 _ q4; injection e5 with p5 _ q5
  subst p1 q1 p3 q3 p4 q4 p5 q5
  exact ⟨[.string x.f0], _, rfl, rfl, [.slice A1 x.f1.length c1], _, rfl, ⟨A1, c1, rfl, l1, g1⟩, [.int .u8 x.f2], _, rfl, rfl, [.slice A3 x.f3.length c3], _, rfl, ⟨A3, c3, rfl, l3, g3⟩, [.slice A4 x.f4.length c4], [.slice A5 x.f5.length c5], rfl, ⟨A4, c4, rfl, l4, g4⟩, ⟨A5, c5, rfl, l5, g5⟩⟩
theorem lGraphs_weak {w : World} {l : List S50} {v : Value} (h : lGraphs.K w l [v]) : ∃ A c, v = .slice A l.length c ∧ l.length ≤ c ∧ Kd.C k50 w A l.length l := nest_weak (fun _ _ => lGraph_weak) h
theorem lRows_weak {w : World} {l : List (List Int)} {v : Value} (h : lRows.K w l [v]) : ∃ A c, v = .slice A l.length c ∧ l.length ≤ c ∧ Kd.C (Kd.slice 3 (Kd.int .i64)) w A l.length l := by
  refine nest_weak (fun x cs h2 => ?_) h
  obtain ⟨A, c, rfl, h3⟩ := h2
  obtain ⟨B, b, e, h4, h5⟩ := flat_weak (show lInts.K w x [.slice A x.length c] from ⟨A, c, rfl, h3⟩)
  injection e with e1 _ e2
  subst e1; subst e2
  exact ⟨A, c, rfl, h4, h5⟩
end Go.Proofs.YtligpleningglaaGreat.Lk
namespace Go.Proofs.YtligpleningglaaGreat.F
open Go.RowKit Go.Proofs.YtligpleningglaaGreatW.PrintWords Go.Proofs.YtligpleningglaaGreatW.PrintLast Go.Proofs.YtligpleningglaaGreatW.PrintMore
attribute [local go_sem] min2_int min_two
theorem eqA155 (d : Nat) (w : World) (x0 y0 : Int) (x1 y1 : Int) :
    (Op.equalIn (d + 2) 155 (.agg #[.int .u8 x0, .int .i64 x1]) (.agg #[.int .u8 y0, .int .i64 y1])).run Tryz.prog w = .ok (x0 == y0 && (x1 == y1)) w := by
  refine eqA_of Tryz.underlying155 cq3 ?_
  refine eqf_cons cq60 cq61 cq61 (by go_simp) ?_
  exact eqf_last cq60 cq61 cq61 (by go_simp)
end Go.Proofs.YtligpleningglaaGreat.F
namespace Go.Proofs.YtligpleningglaaGreat.Arr
open Go Go.RowKit
theorem eqA_arr2 {P : Program} {t e : TypeId} {k : IntKind} (hu : P.underlying t = some (.array 2 e)) (he : P.underlying e = some (.int k)) (hs : ∀ w, (sizeOf e).run P w = .ok 1 w) (ha : ∀ w, (isAgg e).run P w = .ok false w) (d : Nat) (w : World) (x0 y0 x1 y1 : Int) :
    (Op.equalIn (d + 2) t (.agg #[.int k x0, .int k x1]) (.agg #[.int k y0, .int k y1])).run P w = .ok (x0 == y0 && x1 == y1) w := by
  have hp : ∀ (xs : Array Value) (o : Nat) (v : Value), xs[o]? = some v → ∀ w, (part e xs o).run P w = .ok v w := by
    intro xs o v hv w
    simp [part, ha, hv]
  have hq : ∀ a b w, (Op.equalIn (d + 1) e (.int k a) (.int k b)).run P w = .ok (a == b) w := fun a b w => run_equalIn_int w d e k k a b he
  rw [Op.equalIn]
  simp only [Sem.run_bind, run_underlying hu, Result.andThen_ok, hs]
  simp [Std.Legacy.Range.forIn_eq_forIn_range', List.range']
  rw [hp _ 0 (.int k x0) rfl, Result.andThen_ok, hp _ 0 (.int k y0) rfl, Result.andThen_ok, hq, Result.andThen_ok]
  by_cases h : x0 = y0
  · simp [h]
    rw [hp _ 1 (.int k x1) rfl, Result.andThen_ok, hp _ 1 (.int k y1) rfl, Result.andThen_ok, hq, Result.andThen_ok]
    by_cases h1 : x1 = y1 <;> simp [h1]
  · simp [h]
end Go.Proofs.YtligpleningglaaGreat.Arr
namespace Go.Proofs.YtligpleningglaaGreat.F
open Go.RowKit Go.Proofs.YtligpleningglaaGreatW.PrintWords Go.Proofs.YtligpleningglaaGreatW.PrintLast Go.Proofs.YtligpleningglaaGreatW.PrintMore
attribute [local go_sem] min2_int min_two
theorem eqA53 (d : Nat) (w : World) (x0 y0 : Int) (x1 y1 : Int) :
    (Op.equalIn (d + 2) 53 (.agg #[.int .i64 x0, .int .i64 x1]) (.agg #[.int .i64 y0, .int .i64 y1])).run Tryz.prog w = .ok (x0 == y0 && x1 == y1) w := Arr.eqA_arr2 Tryz.underlying53 Tryz.underlying3 Tryz.sizeOf3 Tryz.isAgg3 d w x0 y0 x1 y1
end Go.Proofs.YtligpleningglaaGreat.F
namespace Go.Proofs.YtligpleningglaaGreat.F
open Go.RowKit Go.Proofs.YtligpleningglaaGreatW.PrintWords Go.Proofs.YtligpleningglaaGreatW.PrintLast Go.Proofs.YtligpleningglaaGreatW.PrintMore
attribute [local go_sem] min2_int min_two
theorem eqA56 (d : Nat) (w : World) (x0 y0 : Int) (x1 y1 : Int) (x2 y2 : Int) (x3 y3 : Int) (x4 y4 : Int) :
    (Op.equalIn (d + 3) 56 (.agg #[.int .u8 x0, .int .i64 x1, .int .i64 x2, .int .i64 x3, .int .u8 x4]) (.agg #[.int .u8 y0, .int .i64 y1, .int .i64 y2, .int .i64 y3, .int .u8 y4])).run Tryz.prog w = .ok (x0 == y0 && (x1 == y1 && ((x2 == y2 && (x3 == y3)) && (x4 == y4)))) w := by
  refine eqA_of Tryz.underlying56 cq3 ?_
  refine eqf_cons cq60 cq61 cq61 (by go_simp) ?_
  refine eqf_cons cq60 cq61 cq61 (by go_simp) ?_
  refine eqf_cons cq60 (by go_simp) (by go_simp) (eqA53 (d + 0) w _ _ _ _) ?_
  exact eqf_last cq60 cq61 cq61 (by go_simp)
end Go.Proofs.YtligpleningglaaGreat.F
namespace Go.Proofs.YtligpleningglaaGreat.Lk
open Go Go.RowKit Go.Proofs.YtligpleningglaaGreatW.PrintWords Go.Proofs.YtligpleningglaaGreatW.PrintLast Go.Proofs.YtligpleningglaaGreatW.PrintMore Go.Proofs.YtligpleningglaaGreat.F
theorem se0 {p : Prop} (h : p := by exact fun a w' hG hd hf K hK => by have f0 := Rs.ld (hd 0 _ rfl rfl _ rfl) rfl; have f1 := Rs.ld (hd 1 _ rfl rfl _ rfl) rfl; exact Rs.ok_val (Rs.want_none rfl) Rs.gs (hK w' hG)) : p := h
theorem se1 {p : Prop} (h : p := by exact fun a w' hG hd hf K hK => by have f0 := Rs.lf (hf 5 cq6) rfl; exact Rs.ok_val (Rs.want_none rfl) Rs.gs (hK w' hG)) : p := h
theorem se2 {p : Prop} (h : p := by exact fun a w' hG hd hf K hK => by have f0 := Rs.lf (hf 0 cq6) rfl; exact Rs.ok_val (Rs.want_none rfl) Rs.gs (hK w' hG)) : p := h
theorem se3 {p : Prop} (h : p := by exact fun a w' hG hd hf K hK => by have f0 := Rs.lf (hf 1 cq6) rfl; exact Rs.ok_val (Rs.want_none rfl) Rs.gs (hK w' hG)) : p := h
theorem se4 {p : Prop} (h : p := by exact fun a w' hG hd hf K hK => by have f0 := Rs.ld (hd 0 _ rfl rfl _ rfl) rfl; have z0 := pw_cell_below hG hx0; exact Rs.ok_val (Rs.want_none rfl) Rs.gs (hK w' hG)) : p := h
theorem se5 {p : Prop} (h : p := by exact fun a w' hG hd hf K hK => by have f0 := Rs.ld (hd 0 _ rfl rfl _ rfl) rfl; have z0 := pw_cell_below hG hg0; exact Rs.ok_val (Rs.want_none rfl) Rs.gs (hK w' hG)) : p := h
theorem se6 {p : Prop} (h : p := by exact fun a w' hG hd hf K hK => by have f0 := Rs.ld (hd 0 _ rfl rfl _ rfl) rfl; exact Rs.ok_val (Rs.want_none rfl) Rs.gs (hK w' hG)) : p := h
theorem getD_at {α : Type} {xs : List α} {j : Nat} {x z : α} (h : xs[j]? = some x) : xs.getD j z = x := by rw [qD, h]; rfl
theorem sameInts_eq (A B : Option Addr) (c d : Nat) (l : List Int) (w : World) (hA : Kd.C (Kd.int .i64) w A l.length l) (hc : l.length ≤ c) (hB : Kd.C (Kd.int .i64) w B l.length l) (hd : l.length ≤ d) (hl : l.length ≤ 281474976710656) :
    Calls Tryz.prog 38 #[.slice A l.length c, .slice B l.length d] w fun e w' => e = .returned (.bool true) ∧ Below w.heap.size w w' := by
  have HR := qA hA
  have HO := qA hB
  have HB0 : Aside0 (Below w.heap.size w w) := ⟨Below.refl _ _⟩
  clear hA hB
  go_enter Tryz.func38, Tryz.ntmps38
  go_wp2
  go_loopw [5] (fun v5 wr => ∃ j : Nat, j ≤ l.length ∧ v5 = .int .i64 (j : Int) ∧ Aside0 (Below w.heap.size w wr)) (fun i _ => l.length - (intOf i).toNat)
  case atStart => exact ⟨0, by omega, rfl, HB0⟩
  case round =>
  clear HB0
  obtain ⟨j, hj, rfl, HB⟩ := hrel
  by_cases hlt : j < l.length
  · obtain ⟨ad, cx, hA, -, hKx, hcx⟩ := Kd.C_get HR.out 0 (j : Int) cq2 cq2
    subst hA
    obtain ⟨ag, cg, hG, -, hKg, hcg⟩ := Kd.C_get HO.out 0 (j : Int) cq2 cq2
    subst hG
    obtain ⟨x, hx⟩ : ∃ x, x = l[j] := ⟨_, rfl⟩
    rw [Int.toNat_natCast, getD_at (x := x) cq37] at hKx hKg
    rw [Int.toNat_natCast] at hcx hcg
    replace hcx : ∀ q u, cx[q]? = some u → w.cell? (ad.add (j * 1 + q)) = some u := hcx
    replace hcg : ∀ q u, cg[q]? = some u → w.cell? (ag.add (j * 1 + q)) = some u := hcg
    obtain rfl : cx = [.int .i64 x] := hKx
    obtain rfl : cg = [.int .i64 x] := hKg
    have hx0 := hcx 0 _ rfl
    rw [Nat.mul_one, Nat.add_zero] at hx0
    have hg0 := hcg 0 _ rfl
    rw [Nat.mul_one, Nat.add_zero] at hg0
    clear hcx hcg hx
    go_wp2_with fail
    go_upto_region 6 with (fail)
    go_cut [25] (fun v25 wx => v25 = .bool false ∧ Aside0 (Below w.heap.size w wx))
    case first =>
      refine Rs.wp_region_stable [17, 18, 19, 20, 21, 22, 23, 24, 25] [.slice (some ad) l.length c, .int .i64 ((j : Int)), .pointer (some (ad.add j)), .int .i64 x, .slice (some ag) l.length d, .int .i64 ((j : Int)), .pointer (some (ag.add j)), .int .i64 x, .bool false] (Below w.heap.size w) cq3 cq3 rfl (below_drew HB.out) ⟨se2, se1, se0, se4, se3, se1, se0, se5, se0, trivial⟩ ?_
      intro wz hz
      simp only [Rs.putL, Act.put, qS, qZ, qN]
      go_wp2_with fail
      go_meet
      exact ⟨rfl, ⟨hz⟩⟩
    case rest =>
      obtain ⟨rfl, HB2⟩ := hcut
      go_wp2
      go_roundw
      case rel => exact ⟨j + 1, by omega, by go_num, HB2⟩
      case measure => simp [intOf]; omega
  · obtain rfl : j = l.length := by omega
    go_wp2
    go_ret
    exact ⟨rfl, HB.out⟩
theorem sameTypes_eq (A B : Option Addr) (c d : Nat) (l : List Int) (w : World) (hA : Kd.C (Kd.int .u8) w A l.length l) (hc : l.length ≤ c) (hB : Kd.C (Kd.int .u8) w B l.length l) (hd : l.length ≤ d) (hl : l.length ≤ 281474976710656) :
    Calls Tryz.prog 55 #[.slice A l.length c, .slice B l.length d] w fun e w' => e = .returned (.bool true) ∧ Below w.heap.size w w' := by
  have HR := qA hA
  have HO := qA hB
  have HB0 : Aside0 (Below w.heap.size w w) := ⟨Below.refl _ _⟩
  clear hA hB
  go_enter Tryz.func55, Tryz.ntmps55
  go_wp2
  go_loopw [5] (fun v5 wr => ∃ j : Nat, j ≤ l.length ∧ v5 = .int .i64 (j : Int) ∧ Aside0 (Below w.heap.size w wr)) (fun i _ => l.length - (intOf i).toNat)
  case atStart => exact ⟨0, by omega, rfl, HB0⟩
  case round =>
  clear HB0
  obtain ⟨j, hj, rfl, HB⟩ := hrel
  by_cases hlt : j < l.length
  · obtain ⟨ad, cx, hA, -, hKx, hcx⟩ := Kd.C_get HR.out 0 (j : Int) cq2 cq2
    subst hA
    obtain ⟨ag, cg, hG, -, hKg, hcg⟩ := Kd.C_get HO.out 0 (j : Int) cq2 cq2
    subst hG
    obtain ⟨x, hx⟩ : ∃ x, x = l[j] := ⟨_, rfl⟩
    rw [Int.toNat_natCast, getD_at (x := x) cq37] at hKx hKg
    rw [Int.toNat_natCast] at hcx hcg
    replace hcx : ∀ q u, cx[q]? = some u → w.cell? (ad.add (j * 1 + q)) = some u := hcx
    replace hcg : ∀ q u, cg[q]? = some u → w.cell? (ag.add (j * 1 + q)) = some u := hcg
    obtain rfl : cx = [.int .u8 x] := hKx
    obtain rfl : cg = [.int .u8 x] := hKg
    have hx0 := hcx 0 _ rfl
    rw [Nat.mul_one, Nat.add_zero] at hx0
    have hg0 := hcg 0 _ rfl
    rw [Nat.mul_one, Nat.add_zero] at hg0
    clear hcx hcg hx
    go_wp2_with fail
    go_upto_region 6 with (fail)
    go_cut [25] (fun v25 wx => v25 = .bool false ∧ Aside0 (Below w.heap.size w wx))
    case first =>
      refine Rs.wp_region_stable [17, 18, 19, 20, 21, 22, 23, 24, 25] [.slice (some ad) l.length c, .int .i64 ((j : Int)), .pointer (some (ad.add j)), .int .u8 x, .slice (some ag) l.length d, .int .i64 ((j : Int)), .pointer (some (ag.add j)), .int .u8 x, .bool false] (Below w.heap.size w) cq3 cq3 rfl (below_drew HB.out) ⟨se2, se1, se0, se4, se3, se1, se0, se5, se0, trivial⟩ ?_
      intro wz hz
      simp only [Rs.putL, Act.put, qS, qZ, qN]
      go_wp2_with fail
      go_meet
      exact ⟨rfl, ⟨hz⟩⟩
    case rest =>
      obtain ⟨rfl, HB2⟩ := hcut
      go_wp2
      go_roundw
      case rel => exact ⟨j + 1, by omega, by go_num, HB2⟩
      case measure => simp [intOf]; omega
  · obtain rfl : j = l.length := by omega
    go_wp2
    go_ret
    exact ⟨rfl, HB.out⟩
attribute [local go_sem high] eqA155
theorem sameArrays_eq (A B : Option Addr) (c d : Nat) (l : List S155) (w : World) (hA : Kd.C k155 w A l.length l) (hc : l.length ≤ c) (hB : Kd.C k155 w B l.length l) (hd : l.length ≤ d) (hl : l.length ≤ 281474976710656) :
    Calls Tryz.prog 56 #[.slice A l.length c, .slice B l.length d] w fun e w' => e = .returned (.bool true) ∧ Below w.heap.size w w' := by
  have HR := qA hA
  have HO := qA hB
  have HB0 : Aside0 (Below w.heap.size w w) := ⟨Below.refl _ _⟩
  clear hA hB
  go_enter Tryz.func56, Tryz.ntmps56
  go_wp2
  go_loopw [5] (fun v5 wr => ∃ j : Nat, j ≤ l.length ∧ v5 = .int .i64 (j : Int) ∧ Aside0 (Below w.heap.size w wr)) (fun i _ => l.length - (intOf i).toNat)
  case atStart => exact ⟨0, by omega, rfl, HB0⟩
  case round =>
  clear HB0
  obtain ⟨j, hj, rfl, HB⟩ := hrel
  by_cases hlt : j < l.length
  · obtain ⟨ad, cx, hA, -, hKx, hcx⟩ := Kd.C_get HR.out z155 (j : Int) cq2 cq2
    subst hA
    obtain ⟨ag, cg, hG, -, hKg, hcg⟩ := Kd.C_get HO.out z155 (j : Int) cq2 cq2
    subst hG
    obtain ⟨x, hx⟩ : ∃ x, x = l[j] := ⟨_, rfl⟩
    rw [Int.toNat_natCast, getD_at (x := x) cq37] at hKx hKg
    rw [Int.toNat_natCast] at hcx hcg
    replace hcx : ∀ q u, cx[q]? = some u → w.cell? (ad.add (j * 2 + q)) = some u := hcx
    replace hcg : ∀ q u, cg[q]? = some u → w.cell? (ag.add (j * 2 + q)) = some u := hcg
    obtain rfl := k155_open hKx
    obtain rfl := k155_open hKg
    have hx0 := hcx 0 _ rfl
    have hx1 := hcx 1 _ rfl
    rw [Nat.add_zero] at hx0
    rw [add_field _ _ 1 cq2] at hx1
    have hg0 := hcg 0 _ rfl
    have hg1 := hcg 1 _ rfl
    rw [Nat.add_zero] at hg0
    rw [add_field _ _ 1 cq2] at hg1
    clear hcx hcg hx
    go_wp2_with fail
    go_upto_region 6 with (fail)
    go_cut [25] (fun v25 wx => v25 = .bool false ∧ Aside0 (Below w.heap.size w wx))
    case first =>
      refine Rs.wp_region_stable [17, 18, 19, 20, 21, 22, 23, 24, 25] [.slice (some ad) l.length c, .int .i64 ((j : Int)), .pointer (some (ad.add (j * 2))), .agg #[.int .u8 x.f0, .int .i64 x.f1], .slice (some ag) l.length d, .int .i64 ((j : Int)), .pointer (some (ag.add (j * 2))), .agg #[.int .u8 x.f0, .int .i64 x.f1], .bool false] (Below w.heap.size w) cq3 cq3 rfl (below_drew HB.out) ⟨se2, se1, se0, ?s3, se3, se1, se0, ?s7, se0, trivial⟩ ?_
      case s3 => exact fun a w' hG hd hf K hK => by have f0 := Rs.ld (hd 0 _ rfl rfl _ rfl) rfl; have z0 := pw_cell_below hG hx0; have z1 := pw_cell_below hG hx1; exact Rs.ok_val (Rs.want_none rfl) Rs.gs (hK w' hG)
      case s7 => exact fun a w' hG hd hf K hK => by have f0 := Rs.ld (hd 0 _ rfl rfl _ rfl) rfl; have z0 := pw_cell_below hG hg0; have z1 := pw_cell_below hG hg1; exact Rs.ok_val (Rs.want_none rfl) Rs.gs (hK w' hG)
      intro wz hz
      simp only [Rs.putL, Act.put, qS, qZ, qN]
      go_wp2_with fail
      go_meet
      exact ⟨rfl, ⟨hz⟩⟩
    case rest =>
      obtain ⟨rfl, HB2⟩ := hcut
      go_wp2
      go_roundw
      case rel => exact ⟨j + 1, by omega, by go_num, HB2⟩
      case measure => simp [intOf]; omega
  · obtain rfl : j = l.length := by omega
    go_wp2
    go_ret
    exact ⟨rfl, HB.out⟩
attribute [-go_sem] eqA155
def mzI (x : S75) : Prop := x.f3.length ≤ 281474976710656
def mzB (b : S58) : Prop := b.f0.length ≤ 281474976710656 ∧ ∀ x ∈ b.f0, mzI x
def mzG (g : S50) : Prop := g.f1.length ≤ 281474976710656 ∧ g.f3.length ≤ 281474976710656 ∧ g.f4.length ≤ 281474976710656 ∧ g.f5.length ≤ 281474976710656 ∧ ∀ b ∈ g.f5, mzB b
theorem mzI_of {x : S75} (h : szI x) : mzI x := by unfold szI at h; unfold mzI; omega
theorem mzB_of {b : S58} (h : szB b) : mzB b := ⟨by have := h.1; omega, fun x hx => mzI_of (h.2 x hx)⟩
theorem mzG_of {g : S50} (h : szG g) : mzG g := ⟨by have := h.1; omega, by have := h.2.1; omega, by have := h.2.2.1; omega, by have := h.2.2.2.1; omega, fun b hb => mzB_of (h.2.2.2.2 b hb)⟩
theorem sameIns_eq (x : S75) (G3 : Option Addr) (d3 : Nat) (A3 : Option Addr) (c3 : Nat) (w : World) (hG3 : Kd.C (Kd.int .i64) w G3 x.f3.length x.f3) (hd3 : x.f3.length ≤ d3) (hA3 : Kd.C (Kd.int .i64) w A3 x.f3.length x.f3) (hc3 : x.f3.length ≤ c3) (hs : mzI x) :
    Calls Tryz.prog 111 #[.agg #[.int .u8 x.f0, .int .u8 x.f1, .int .i64 x.f2, .slice G3 x.f3.length d3, .int .u64 x.f4, .int .i64 x.f5], .agg #[.int .u8 x.f0, .int .u8 x.f1, .int .i64 x.f2, .slice A3 x.f3.length c3, .int .u64 x.f4, .int .i64 x.f5]] w fun e w' => e = .returned (.bool true) ∧ Below w.heap.size w w' := by
  have HG3 := qA hG3; have HA3 := qA hA3; have HS := qA hs
  have huT := Tryz.underlying75
  clear hs hG3 hA3
  go_enter Tryz.func111, Tryz.ntmps111
  go_wp2_with (first | ((with_reducible refine gate_dst (N := 2) rfl ?_); refine box_event ?hg (N := 2) ?hd (cs := #[.int .u8 x.f0, .int .u8 x.f1, .int .i64 x.f2, .slice G3 x.f3.length d3, .int .u64 x.f4, .int .i64 x.f5]) (t := 75) ?hr ?_; (case hd => rfl); (case hg => rfl); (case hr => first | (go_simp; done) | (go_simp; rfl)); intro g1 e1 w1 b1 hb1) | ((with_reducible refine gate_dst (N := 3) rfl ?_); refine box_event ?hg (N := 3) ?hd (cs := #[.int .u8 x.f0, .int .u8 x.f1, .int .i64 x.f2, .slice A3 x.f3.length c3, .int .u64 x.f4, .int .i64 x.f5]) (t := 75) ?hr ?_; (case hd => rfl); (case hg => rfl); (case hr => first | (go_simp; done) | (go_simp; rfl)); intro g2 e2 w2 b2 hb2; have B1 := qA (blk_below b1 hb2); have B2 := qA b2; have HB := qA (below_step hb1 hb2); clear e1 e2 b1 b2 hb1 hb2; have hzg1_0 : w2.cell? ⟨g1, 0, none⟩ = some (.int .u8 x.f0) := (blk_cell B1.out 0).trans rfl; have hzg1_1 : w2.cell? ⟨g1, 1, none⟩ = some (.int .u8 x.f1) := (blk_cell B1.out 1).trans rfl; have hzg1_2 : w2.cell? ⟨g1, 2, none⟩ = some (.int .i64 x.f2) := (blk_cell B1.out 2).trans rfl; have hzg1_3 : w2.cell? ⟨g1, 3, none⟩ = some (.slice G3 x.f3.length d3) := (blk_cell B1.out 3).trans rfl; have hzg1_4 : w2.cell? ⟨g1, 4, none⟩ = some (.int .u64 x.f4) := (blk_cell B1.out 4).trans rfl; have hzg1_5 : w2.cell? ⟨g1, 5, none⟩ = some (.int .i64 x.f5) := (blk_cell B1.out 5).trans rfl; have hzg2_0 : w2.cell? ⟨g2, 0, none⟩ = some (.int .u8 x.f0) := (blk_cell B2.out 0).trans rfl; have hzg2_1 : w2.cell? ⟨g2, 1, none⟩ = some (.int .u8 x.f1) := (blk_cell B2.out 1).trans rfl; have hzg2_2 : w2.cell? ⟨g2, 2, none⟩ = some (.int .i64 x.f2) := (blk_cell B2.out 2).trans rfl; have hzg2_3 : w2.cell? ⟨g2, 3, none⟩ = some (.slice A3 x.f3.length c3) := (blk_cell B2.out 3).trans rfl; have hzg2_4 : w2.cell? ⟨g2, 4, none⟩ = some (.int .u64 x.f4) := (blk_cell B2.out 4).trans rfl; have hzg2_5 : w2.cell? ⟨g2, 5, none⟩ = some (.int .i64 x.f5) := (blk_cell B2.out 5).trans rfl))
  refine (sameInts_eq G3 A3 d3 c3 x.f3 _ (Kd.C_below HG3.out HB.out) hd3 (Kd.C_below HA3.out HB.out) hc3 HS.out).mono ?_
  rintro e w3 ⟨rfl, hb⟩
  replace B1 := qA (blk_below B1.out hb)
  replace B2 := qA (blk_below B2.out hb)
  replace HB := qA (below_step HB.out hb)
  clear hb hzg1_0 hzg2_0 hzg1_1 hzg2_1 hzg1_2 hzg2_2 hzg1_3 hzg2_3 hzg1_4 hzg2_4 hzg1_5 hzg2_5
  have hzg1_4 : w3.cell? ⟨g1, 4, none⟩ = some (.int .u64 x.f4) := (blk_cell B1.out 4).trans rfl
  have hzg1_5 : w3.cell? ⟨g1, 5, none⟩ = some (.int .i64 x.f5) := (blk_cell B1.out 5).trans rfl
  have hzg2_4 : w3.cell? ⟨g2, 4, none⟩ = some (.int .u64 x.f4) := (blk_cell B2.out 4).trans rfl
  have hzg2_5 : w3.cell? ⟨g2, 5, none⟩ = some (.int .i64 x.f5) := (blk_cell B2.out 5).trans rfl
  go_wp2
  go_ret
  exact ⟨rfl, HB.out⟩
theorem sameInstrs_eq (A B : Option Addr) (c d : Nat) (l : List S75) (w : World) (hA : Kd.C k75 w A l.length l) (hc : l.length ≤ c) (hB : Kd.C k75 w B l.length l) (hd : l.length ≤ d) (hl : l.length ≤ 281474976710656) (hs : ∀ x ∈ l, mzI x) :
    Calls Tryz.prog 134 #[.slice A l.length c, .slice B l.length d] w fun e w' => e = .returned (.bool true) ∧ Below w.heap.size w w' := by
  have HR := qA hA
  have HO := qA hB
  have HB0 : Aside0 (Below w.heap.size w w) := ⟨Below.refl _ _⟩
  have HS := qA hs; clear hs
  clear hA hB
  go_enter Tryz.func134, Tryz.ntmps134
  go_wp2
  go_loopw [5] (fun v5 wr => ∃ j : Nat, j ≤ l.length ∧ v5 = .int .i64 (j : Int) ∧ Aside0 (Below w.heap.size w wr)) (fun i _ => l.length - (intOf i).toNat)
  case atStart => exact ⟨0, by omega, rfl, HB0⟩
  case round =>
  clear HB0
  obtain ⟨j, hj, rfl, HB⟩ := hrel
  by_cases hlt : j < l.length
  · obtain ⟨ad, cx, hA, -, hKx, hcx⟩ := Kd.C_get HR.out z75 (j : Int) cq2 cq2
    subst hA
    obtain ⟨ag, cg, hG, -, hKg, hcg⟩ := Kd.C_get HO.out z75 (j : Int) cq2 cq2
    subst hG
    obtain ⟨x, hx⟩ : ∃ x, x = l[j] := ⟨_, rfl⟩
    rw [Int.toNat_natCast, getD_at (x := x) cq37] at hKx hKg
    rw [Int.toNat_natCast] at hcx hcg
    replace hcx : ∀ q u, cx[q]? = some u → w.cell? (ad.add (j * 6 + q)) = some u := hcx
    replace hcg : ∀ q u, cg[q]? = some u → w.cell? (ag.add (j * 6 + q)) = some u := hcg
    obtain ⟨G3, d3, rfl, hd3, hX3⟩ := k75_open hKx
    obtain ⟨A3, c3, rfl, hc3, hY3⟩ := k75_open hKg
    have hx0 := hcx 0 _ rfl
    have hx1 := hcx 1 _ rfl
    have hx2 := hcx 2 _ rfl
    have hx3 := hcx 3 _ rfl
    have hx4 := hcx 4 _ rfl
    have hx5 := hcx 5 _ rfl
    rw [Nat.add_zero] at hx0
    rw [add_field _ _ 1 cq2] at hx1
    rw [add_field _ _ 2 cq2] at hx2
    rw [add_field _ _ 3 cq2] at hx3
    rw [add_field _ _ 4 cq2] at hx4
    rw [add_field _ _ 5 cq2] at hx5
    have hg0 := hcg 0 _ rfl
    have hg1 := hcg 1 _ rfl
    have hg2 := hcg 2 _ rfl
    have hg3 := hcg 3 _ rfl
    have hg4 := hcg 4 _ rfl
    have hg5 := hcg 5 _ rfl
    rw [Nat.add_zero] at hg0
    rw [add_field _ _ 1 cq2] at hg1
    rw [add_field _ _ 2 cq2] at hg2
    rw [add_field _ _ 3 cq2] at hg3
    rw [add_field _ _ 4 cq2] at hg4
    rw [add_field _ _ 5 cq2] at hg5
    have HX := qA (show mzI x by rw [hx]; exact HS.out _ (List.getElem_mem hlt))
    have HX3 := qA hX3; have HY3 := qA hY3; clear hX3 hY3
    clear hcx hcg hx
    go_wp2_with fail
    go_upto_region 6 with (fail)
    go_cut [26] (fun v25 wx => v25 = .bool false ∧ Aside0 (Below w.heap.size w wx))
    case first =>
      refine Rs.wp_region_stable [17, 18, 19, 20, 21, 22, 23, 24, 25, 26] [.slice (some ad) l.length c, .int .i64 ((j : Int)), .pointer (some (ad.add (j * 6))), .agg #[.int .u8 x.f0, .int .u8 x.f1, .int .i64 x.f2, .slice G3 x.f3.length d3, .int .u64 x.f4, .int .i64 x.f5], .slice (some ag) l.length d, .int .i64 ((j : Int)), .pointer (some (ag.add (j * 6))), .agg #[.int .u8 x.f0, .int .u8 x.f1, .int .i64 x.f2, .slice A3 x.f3.length c3, .int .u64 x.f4, .int .i64 x.f5], .bool true, .bool false] (Below w.heap.size w) cq3 cq3 rfl (below_drew HB.out) ⟨se2, se1, se0, ?s3, se3, se1, se0, ?s7, ?s8, se6, trivial⟩ ?_
      case s3 => exact fun a w' hG hd hf K hK => by have f0 := Rs.ld (hd 0 _ rfl rfl _ rfl) rfl; have z0 := pw_cell_below hG hx0; have z1 := pw_cell_below hG hx1; have z2 := pw_cell_below hG hx2; have z3 := pw_cell_below hG hx3; have z4 := pw_cell_below hG hx4; have z5 := pw_cell_below hG hx5; exact Rs.ok_val (Rs.want_none rfl) Rs.gs (hK w' hG)
      case s7 => exact fun a w' hG hd hf K hK => by have f0 := Rs.ld (hd 0 _ rfl rfl _ rfl) rfl; have z0 := pw_cell_below hG hg0; have z1 := pw_cell_below hG hg1; have z2 := pw_cell_below hG hg2; have z3 := pw_cell_below hG hg3; have z4 := pw_cell_below hG hg4; have z5 := pw_cell_below hG hg5; exact Rs.ok_val (Rs.want_none rfl) Rs.gs (hK w' hG)
      case s8 =>
        exact fun a w' hG hd hf K hK => by
          have e20 : a.tmps[20]? = some (.agg #[.int .u8 x.f0, .int .u8 x.f1, .int .i64 x.f2, .slice G3 x.f3.length d3, .int .u64 x.f4, .int .i64 x.f5]) := hd 0 _ rfl rfl _ rfl; have e24 : a.tmps[24]? = some (.agg #[.int .u8 x.f0, .int .u8 x.f1, .int .i64 x.f2, .slice A3 x.f3.length c3, .int .u64 x.f4, .int .i64 x.f5]) := hd 1 _ rfl rfl _ rfl
          exact goes_ Tryz.func111 cq3 rfl #[.agg #[.int .u8 x.f0, .int .u8 x.f1, .int .i64 x.f2, .slice G3 x.f3.length d3, .int .u64 x.f4, .int .i64 x.f5], .agg #[.int .u8 x.f0, .int .u8 x.f1, .int .i64 x.f2, .slice A3 x.f3.length c3, .int .u64 x.f4, .int .i64 x.f5]] (Rs.want_none rfl) rfl rfl cq53 (((sameIns_eq x G3 d3 A3 c3 w' (Kd.C_below HX3.out hG) hd3 (Kd.C_below HY3.out hG) hc3 HX.out).mono cq7))
      intro wz hz
      simp only [Rs.putL, Act.put, qS, qZ, qN]
      go_wp2_with fail
      go_meet
      exact ⟨rfl, ⟨hz⟩⟩
    case rest =>
      obtain ⟨rfl, HB2⟩ := hcut
      go_wp2
      go_roundw
      case rel => exact ⟨j + 1, by omega, by go_num, HB2⟩
      case measure => simp [intOf]; omega
  · obtain rfl : j = l.length := by omega
    go_wp2
    go_ret
    exact ⟨rfl, HB.out⟩
attribute [local go_sem high] eqA56
theorem sameBlock_eq (x : S58) (G0 : Option Addr) (d0 : Nat) (A0 : Option Addr) (c0 : Nat) (w : World) (hG0 : Kd.C k75 w G0 x.f0.length x.f0) (hd0 : x.f0.length ≤ d0) (hA0 : Kd.C k75 w A0 x.f0.length x.f0) (hc0 : x.f0.length ≤ c0) (hs : mzB x) :
    Calls Tryz.prog 95 #[.agg #[.slice G0 x.f0.length d0, .int .u8 x.f1.f0, .int .i64 x.f1.f1, .int .i64 x.f1.f2.f0, .int .i64 x.f1.f2.f1, .int .u8 x.f1.f3], .agg #[.slice A0 x.f0.length c0, .int .u8 x.f1.f0, .int .i64 x.f1.f1, .int .i64 x.f1.f2.f0, .int .i64 x.f1.f2.f1, .int .u8 x.f1.f3]] w fun e w' => e = .returned (.bool true) ∧ Below w.heap.size w w' := by
  have HG0 := qA hG0; have HA0 := qA hA0; have HS := qA hs
  have huT := Tryz.underlying58
  clear hs hG0 hA0
  go_enter Tryz.func95, Tryz.ntmps95
  go_wp2_with (first | ((with_reducible refine gate_dst (N := 2) rfl ?_); refine box_event ?hg (N := 2) ?hd (cs := #[.slice G0 x.f0.length d0, .int .u8 x.f1.f0, .int .i64 x.f1.f1, .int .i64 x.f1.f2.f0, .int .i64 x.f1.f2.f1, .int .u8 x.f1.f3]) (t := 58) ?hr ?_; (case hd => rfl); (case hg => rfl); (case hr => first | (go_simp; done) | (go_simp; rfl)); intro g1 e1 w1 b1 hb1) | ((with_reducible refine gate_dst (N := 3) rfl ?_); refine box_event ?hg (N := 3) ?hd (cs := #[.slice A0 x.f0.length c0, .int .u8 x.f1.f0, .int .i64 x.f1.f1, .int .i64 x.f1.f2.f0, .int .i64 x.f1.f2.f1, .int .u8 x.f1.f3]) (t := 58) ?hr ?_; (case hd => rfl); (case hg => rfl); (case hr => first | (go_simp; done) | (go_simp; rfl)); intro g2 e2 w2 b2 hb2; have B1 := qA (blk_below b1 hb2); have B2 := qA b2; have HB := qA (below_step hb1 hb2); clear e1 e2 b1 b2 hb1 hb2; have hzg1_0 : w2.cell? ⟨g1, 0, none⟩ = some (.slice G0 x.f0.length d0) := (blk_cell B1.out 0).trans rfl; have hzg1_1 : w2.cell? ⟨g1, 1, none⟩ = some (.int .u8 x.f1.f0) := (blk_cell B1.out 1).trans rfl; have hzg1_2 : w2.cell? ⟨g1, 2, none⟩ = some (.int .i64 x.f1.f1) := (blk_cell B1.out 2).trans rfl; have hzg1_3 : w2.cell? ⟨g1, 3, none⟩ = some (.int .i64 x.f1.f2.f0) := (blk_cell B1.out 3).trans rfl; have hzg1_4 : w2.cell? ⟨g1, 4, none⟩ = some (.int .i64 x.f1.f2.f1) := (blk_cell B1.out 4).trans rfl; have hzg1_5 : w2.cell? ⟨g1, 5, none⟩ = some (.int .u8 x.f1.f3) := (blk_cell B1.out 5).trans rfl; have hzg2_0 : w2.cell? ⟨g2, 0, none⟩ = some (.slice A0 x.f0.length c0) := (blk_cell B2.out 0).trans rfl; have hzg2_1 : w2.cell? ⟨g2, 1, none⟩ = some (.int .u8 x.f1.f0) := (blk_cell B2.out 1).trans rfl; have hzg2_2 : w2.cell? ⟨g2, 2, none⟩ = some (.int .i64 x.f1.f1) := (blk_cell B2.out 2).trans rfl; have hzg2_3 : w2.cell? ⟨g2, 3, none⟩ = some (.int .i64 x.f1.f2.f0) := (blk_cell B2.out 3).trans rfl; have hzg2_4 : w2.cell? ⟨g2, 4, none⟩ = some (.int .i64 x.f1.f2.f1) := (blk_cell B2.out 4).trans rfl; have hzg2_5 : w2.cell? ⟨g2, 5, none⟩ = some (.int .u8 x.f1.f3) := (blk_cell B2.out 5).trans rfl))
  refine (sameInstrs_eq G0 A0 d0 c0 x.f0 _ (Kd.C_below HG0.out HB.out) hd0 (Kd.C_below HA0.out HB.out) hc0 HS.out.1 HS.out.2).mono ?_
  rintro e w3 ⟨rfl, hb⟩
  replace B1 := qA (blk_below B1.out hb)
  replace B2 := qA (blk_below B2.out hb)
  replace HB := qA (below_step HB.out hb)
  clear hb hzg1_0 hzg2_0 hzg1_1 hzg2_1 hzg1_2 hzg2_2 hzg1_3 hzg2_3 hzg1_4 hzg2_4 hzg1_5 hzg2_5
  have hzg1_1 : w3.cell? ⟨g1, 1, none⟩ = some (.int .u8 x.f1.f0) := (blk_cell B1.out 1).trans rfl
  have hzg1_2 : w3.cell? ⟨g1, 2, none⟩ = some (.int .i64 x.f1.f1) := (blk_cell B1.out 2).trans rfl
  have hzg1_3 : w3.cell? ⟨g1, 3, none⟩ = some (.int .i64 x.f1.f2.f0) := (blk_cell B1.out 3).trans rfl
  have hzg1_4 : w3.cell? ⟨g1, 4, none⟩ = some (.int .i64 x.f1.f2.f1) := (blk_cell B1.out 4).trans rfl
  have hzg1_5 : w3.cell? ⟨g1, 5, none⟩ = some (.int .u8 x.f1.f3) := (blk_cell B1.out 5).trans rfl
  have hzg2_1 : w3.cell? ⟨g2, 1, none⟩ = some (.int .u8 x.f1.f0) := (blk_cell B2.out 1).trans rfl
  have hzg2_2 : w3.cell? ⟨g2, 2, none⟩ = some (.int .i64 x.f1.f1) := (blk_cell B2.out 2).trans rfl
  have hzg2_3 : w3.cell? ⟨g2, 3, none⟩ = some (.int .i64 x.f1.f2.f0) := (blk_cell B2.out 3).trans rfl
  have hzg2_4 : w3.cell? ⟨g2, 4, none⟩ = some (.int .i64 x.f1.f2.f1) := (blk_cell B2.out 4).trans rfl
  have hzg2_5 : w3.cell? ⟨g2, 5, none⟩ = some (.int .u8 x.f1.f3) := (blk_cell B2.out 5).trans rfl
  go_wp2
  go_ret
  exact ⟨rfl, HB.out⟩
attribute [-go_sem] eqA56
theorem sameBlocks_eq (A B : Option Addr) (c d : Nat) (l : List S58) (w : World) (hA : Kd.C k58 w A l.length l) (hc : l.length ≤ c) (hB : Kd.C k58 w B l.length l) (hd : l.length ≤ d) (hl : l.length ≤ 281474976710656) (hs : ∀ x ∈ l, mzB x) :
    Calls Tryz.prog 57 #[.slice A l.length c, .slice B l.length d] w fun e w' => e = .returned (.bool true) ∧ Below w.heap.size w w' := by
  have HR := qA hA
  have HO := qA hB
  have HB0 : Aside0 (Below w.heap.size w w) := ⟨Below.refl _ _⟩
  have HS := qA hs; clear hs
  clear hA hB
  go_enter Tryz.func57, Tryz.ntmps57
  go_wp2
  go_loopw [5] (fun v5 wr => ∃ j : Nat, j ≤ l.length ∧ v5 = .int .i64 (j : Int) ∧ Aside0 (Below w.heap.size w wr)) (fun i _ => l.length - (intOf i).toNat)
  case atStart => exact ⟨0, by omega, rfl, HB0⟩
  case round =>
  clear HB0
  obtain ⟨j, hj, rfl, HB⟩ := hrel
  by_cases hlt : j < l.length
  · obtain ⟨ad, cx, hA, -, hKx, hcx⟩ := Kd.C_get HR.out z58 (j : Int) cq2 cq2
    subst hA
    obtain ⟨ag, cg, hG, -, hKg, hcg⟩ := Kd.C_get HO.out z58 (j : Int) cq2 cq2
    subst hG
    obtain ⟨x, hx⟩ : ∃ x, x = l[j] := ⟨_, rfl⟩
    rw [Int.toNat_natCast, getD_at (x := x) cq37] at hKx hKg
    rw [Int.toNat_natCast] at hcx hcg
    replace hcx : ∀ q u, cx[q]? = some u → w.cell? (ad.add (j * 6 + q)) = some u := hcx
    replace hcg : ∀ q u, cg[q]? = some u → w.cell? (ag.add (j * 6 + q)) = some u := hcg
    obtain ⟨G0, d0, rfl, hd0, hX0⟩ := k58_open hKx
    obtain ⟨A0, c0, rfl, hc0, hY0⟩ := k58_open hKg
    have hx0 := hcx 0 _ rfl
    have hx1 := hcx 1 _ rfl
    have hx2 := hcx 2 _ rfl
    have hx3 := hcx 3 _ rfl
    have hx4 := hcx 4 _ rfl
    have hx5 := hcx 5 _ rfl
    rw [Nat.add_zero] at hx0
    rw [add_field _ _ 1 cq2] at hx1
    rw [add_field _ _ 2 cq2] at hx2
    rw [add_field _ _ 3 cq2] at hx3
    rw [add_field _ _ 4 cq2] at hx4
    rw [add_field _ _ 5 cq2] at hx5
    have hg0 := hcg 0 _ rfl
    have hg1 := hcg 1 _ rfl
    have hg2 := hcg 2 _ rfl
    have hg3 := hcg 3 _ rfl
    have hg4 := hcg 4 _ rfl
    have hg5 := hcg 5 _ rfl
    rw [Nat.add_zero] at hg0
    rw [add_field _ _ 1 cq2] at hg1
    rw [add_field _ _ 2 cq2] at hg2
    rw [add_field _ _ 3 cq2] at hg3
    rw [add_field _ _ 4 cq2] at hg4
    rw [add_field _ _ 5 cq2] at hg5
    have HX := qA (show mzB x by rw [hx]; exact HS.out _ (List.getElem_mem hlt))
    have HX0 := qA hX0; have HY0 := qA hY0; clear hX0 hY0
    clear hcx hcg hx
    go_wp2_with fail
    go_upto_region 6 with (fail)
    go_cut [26] (fun v25 wx => v25 = .bool false ∧ Aside0 (Below w.heap.size w wx))
    case first =>
      refine Rs.wp_region_stable [17, 18, 19, 20, 21, 22, 23, 24, 25, 26] [.slice (some ad) l.length c, .int .i64 ((j : Int)), .pointer (some (ad.add (j * 6))), .agg #[.slice G0 x.f0.length d0, .int .u8 x.f1.f0, .int .i64 x.f1.f1, .int .i64 x.f1.f2.f0, .int .i64 x.f1.f2.f1, .int .u8 x.f1.f3], .slice (some ag) l.length d, .int .i64 ((j : Int)), .pointer (some (ag.add (j * 6))), .agg #[.slice A0 x.f0.length c0, .int .u8 x.f1.f0, .int .i64 x.f1.f1, .int .i64 x.f1.f2.f0, .int .i64 x.f1.f2.f1, .int .u8 x.f1.f3], .bool true, .bool false] (Below w.heap.size w) cq3 cq3 rfl (below_drew HB.out) ⟨se2, se1, se0, ?s3, se3, se1, se0, ?s7, ?s8, se6, trivial⟩ ?_
      case s3 => exact fun a w' hG hd hf K hK => by have f0 := Rs.ld (hd 0 _ rfl rfl _ rfl) rfl; have z0 := pw_cell_below hG hx0; have z1 := pw_cell_below hG hx1; have z2 := pw_cell_below hG hx2; have z3 := pw_cell_below hG hx3; have z4 := pw_cell_below hG hx4; have z5 := pw_cell_below hG hx5; exact Rs.ok_val (Rs.want_none rfl) Rs.gs (hK w' hG)
      case s7 => exact fun a w' hG hd hf K hK => by have f0 := Rs.ld (hd 0 _ rfl rfl _ rfl) rfl; have z0 := pw_cell_below hG hg0; have z1 := pw_cell_below hG hg1; have z2 := pw_cell_below hG hg2; have z3 := pw_cell_below hG hg3; have z4 := pw_cell_below hG hg4; have z5 := pw_cell_below hG hg5; exact Rs.ok_val (Rs.want_none rfl) Rs.gs (hK w' hG)
      case s8 =>
        exact fun a w' hG hd hf K hK => by
          have e20 : a.tmps[20]? = some (.agg #[.slice G0 x.f0.length d0, .int .u8 x.f1.f0, .int .i64 x.f1.f1, .int .i64 x.f1.f2.f0, .int .i64 x.f1.f2.f1, .int .u8 x.f1.f3]) := hd 0 _ rfl rfl _ rfl; have e24 : a.tmps[24]? = some (.agg #[.slice A0 x.f0.length c0, .int .u8 x.f1.f0, .int .i64 x.f1.f1, .int .i64 x.f1.f2.f0, .int .i64 x.f1.f2.f1, .int .u8 x.f1.f3]) := hd 1 _ rfl rfl _ rfl
          exact goes_ Tryz.func95 cq3 rfl #[.agg #[.slice G0 x.f0.length d0, .int .u8 x.f1.f0, .int .i64 x.f1.f1, .int .i64 x.f1.f2.f0, .int .i64 x.f1.f2.f1, .int .u8 x.f1.f3], .agg #[.slice A0 x.f0.length c0, .int .u8 x.f1.f0, .int .i64 x.f1.f1, .int .i64 x.f1.f2.f0, .int .i64 x.f1.f2.f1, .int .u8 x.f1.f3]] (Rs.want_none rfl) rfl rfl cq53 (((sameBlock_eq x G0 d0 A0 c0 w' (Kd.C_below HX0.out hG) hd0 (Kd.C_below HY0.out hG) hc0 HX.out).mono cq7))
      intro wz hz
      simp only [Rs.putL, Act.put, qS, qZ, qN]
      go_wp2_with fail
      go_meet
      exact ⟨rfl, ⟨hz⟩⟩
    case rest =>
      obtain ⟨rfl, HB2⟩ := hcut
      go_wp2
      go_roundw
      case rel => exact ⟨j + 1, by omega, by go_num, HB2⟩
      case measure => simp [intOf]; omega
  · obtain rfl : j = l.length := by omega
    go_wp2
    go_ret
    exact ⟨rfl, HB.out⟩
theorem sameGraph_eq (x : S50) (G1 : Option Addr) (d1 : Nat) (A1 : Option Addr) (c1 : Nat) (G3 : Option Addr) (d3 : Nat) (A3 : Option Addr) (c3 : Nat) (G4 : Option Addr) (d4 : Nat) (A4 : Option Addr) (c4 : Nat) (G5 : Option Addr) (d5 : Nat) (A5 : Option Addr) (c5 : Nat) (w : World) (hG1 : Kd.C (Kd.int .i64) w G1 x.f1.length x.f1) (hd1 : x.f1.length ≤ d1) (hA1 : Kd.C (Kd.int .i64) w A1 x.f1.length x.f1) (hc1 : x.f1.length ≤ c1) (hG3 : Kd.C (Kd.int .u8) w G3 x.f3.length x.f3) (hd3 : x.f3.length ≤ d3) (hA3 : Kd.C (Kd.int .u8) w A3 x.f3.length x.f3) (hc3 : x.f3.length ≤ c3) (hG4 : Kd.C k155 w G4 x.f4.length x.f4) (hd4 : x.f4.length ≤ d4) (hA4 : Kd.C k155 w A4 x.f4.length x.f4) (hc4 : x.f4.length ≤ c4) (hG5 : Kd.C k58 w G5 x.f5.length x.f5) (hd5 : x.f5.length ≤ d5) (hA5 : Kd.C k58 w A5 x.f5.length x.f5) (hc5 : x.f5.length ≤ c5) (hs : mzG x) :
    Calls Tryz.prog 32 #[.agg #[.string x.f0, .slice G1 x.f1.length d1, .int .u8 x.f2, .slice G3 x.f3.length d3, .slice G4 x.f4.length d4, .slice G5 x.f5.length d5], .agg #[.string x.f0, .slice A1 x.f1.length c1, .int .u8 x.f2, .slice A3 x.f3.length c3, .slice A4 x.f4.length c4, .slice A5 x.f5.length c5]] w fun e w' => e = .returned (.bool true) ∧ Below w.heap.size w w' := by
  have HG1 := qA hG1; have HA1 := qA hA1; have HG3 := qA hG3; have HA3 := qA hA3; have HG4 := qA hG4; have HA4 := qA hA4; have HG5 := qA hG5; have HA5 := qA hA5; have HS := qA hs
  have huT := Tryz.underlying50
  clear hs hG1 hA1 hG3 hA3 hG4 hA4 hG5 hA5
  go_enter Tryz.func32, Tryz.ntmps32
  go_wp2_with (first | ((with_reducible refine gate_dst (N := 2) rfl ?_); refine box_event ?hg (N := 2) ?hd (cs := #[.string x.f0, .slice G1 x.f1.length d1, .int .u8 x.f2, .slice G3 x.f3.length d3, .slice G4 x.f4.length d4, .slice G5 x.f5.length d5]) (t := 50) ?hr ?_; (case hd => rfl); (case hg => rfl); (case hr => first | (go_simp; done) | (go_simp; rfl)); intro g1 e1 w1 b1 hb1) | ((with_reducible refine gate_dst (N := 3) rfl ?_); refine box_event ?hg (N := 3) ?hd (cs := #[.string x.f0, .slice A1 x.f1.length c1, .int .u8 x.f2, .slice A3 x.f3.length c3, .slice A4 x.f4.length c4, .slice A5 x.f5.length c5]) (t := 50) ?hr ?_; (case hd => rfl); (case hg => rfl); (case hr => first | (go_simp; done) | (go_simp; rfl)); intro g2 e2 w2 b2 hb2; have B1 := qA (blk_below b1 hb2); have B2 := qA b2; have HB := qA (below_step hb1 hb2); clear e1 e2 b1 b2 hb1 hb2; have hzg1_0 : w2.cell? ⟨g1, 0, none⟩ = some (.string x.f0) := (blk_cell B1.out 0).trans rfl; have hzg1_1 : w2.cell? ⟨g1, 1, none⟩ = some (.slice G1 x.f1.length d1) := (blk_cell B1.out 1).trans rfl; have hzg1_2 : w2.cell? ⟨g1, 2, none⟩ = some (.int .u8 x.f2) := (blk_cell B1.out 2).trans rfl; have hzg1_3 : w2.cell? ⟨g1, 3, none⟩ = some (.slice G3 x.f3.length d3) := (blk_cell B1.out 3).trans rfl; have hzg1_4 : w2.cell? ⟨g1, 4, none⟩ = some (.slice G4 x.f4.length d4) := (blk_cell B1.out 4).trans rfl; have hzg1_5 : w2.cell? ⟨g1, 5, none⟩ = some (.slice G5 x.f5.length d5) := (blk_cell B1.out 5).trans rfl; have hzg2_0 : w2.cell? ⟨g2, 0, none⟩ = some (.string x.f0) := (blk_cell B2.out 0).trans rfl; have hzg2_1 : w2.cell? ⟨g2, 1, none⟩ = some (.slice A1 x.f1.length c1) := (blk_cell B2.out 1).trans rfl; have hzg2_2 : w2.cell? ⟨g2, 2, none⟩ = some (.int .u8 x.f2) := (blk_cell B2.out 2).trans rfl; have hzg2_3 : w2.cell? ⟨g2, 3, none⟩ = some (.slice A3 x.f3.length c3) := (blk_cell B2.out 3).trans rfl; have hzg2_4 : w2.cell? ⟨g2, 4, none⟩ = some (.slice A4 x.f4.length c4) := (blk_cell B2.out 4).trans rfl; have hzg2_5 : w2.cell? ⟨g2, 5, none⟩ = some (.slice A5 x.f5.length c5) := (blk_cell B2.out 5).trans rfl))
  refine (sameInts_eq G1 A1 d1 c1 x.f1 _ (Kd.C_below HG1.out HB.out) hd1 (Kd.C_below HA1.out HB.out) hc1 HS.out.1).mono ?_
  rintro e w3 ⟨rfl, hb⟩
  replace B1 := qA (blk_below B1.out hb)
  replace B2 := qA (blk_below B2.out hb)
  replace HB := qA (below_step HB.out hb)
  clear hb hzg1_0 hzg2_0 hzg1_1 hzg2_1 hzg1_2 hzg2_2 hzg1_3 hzg2_3 hzg1_4 hzg2_4 hzg1_5 hzg2_5
  have hzg1_2 : w3.cell? ⟨g1, 2, none⟩ = some (.int .u8 x.f2) := (blk_cell B1.out 2).trans rfl
  have hzg1_3 : w3.cell? ⟨g1, 3, none⟩ = some (.slice G3 x.f3.length d3) := (blk_cell B1.out 3).trans rfl
  have hzg1_4 : w3.cell? ⟨g1, 4, none⟩ = some (.slice G4 x.f4.length d4) := (blk_cell B1.out 4).trans rfl
  have hzg1_5 : w3.cell? ⟨g1, 5, none⟩ = some (.slice G5 x.f5.length d5) := (blk_cell B1.out 5).trans rfl
  have hzg2_2 : w3.cell? ⟨g2, 2, none⟩ = some (.int .u8 x.f2) := (blk_cell B2.out 2).trans rfl
  have hzg2_3 : w3.cell? ⟨g2, 3, none⟩ = some (.slice A3 x.f3.length c3) := (blk_cell B2.out 3).trans rfl
  have hzg2_4 : w3.cell? ⟨g2, 4, none⟩ = some (.slice A4 x.f4.length c4) := (blk_cell B2.out 4).trans rfl
  have hzg2_5 : w3.cell? ⟨g2, 5, none⟩ = some (.slice A5 x.f5.length c5) := (blk_cell B2.out 5).trans rfl
  go_wp2_with fail
  refine (sameTypes_eq G3 A3 d3 c3 x.f3 _ (Kd.C_below HG3.out HB.out) hd3 (Kd.C_below HA3.out HB.out) hc3 HS.out.2.1).mono ?_
  rintro e w4 ⟨rfl, hb⟩
  replace B1 := qA (blk_below B1.out hb)
  replace B2 := qA (blk_below B2.out hb)
  replace HB := qA (below_step HB.out hb)
  clear hb hzg1_2 hzg2_2 hzg1_3 hzg2_3 hzg1_4 hzg2_4 hzg1_5 hzg2_5
  have hzg1_4 : w4.cell? ⟨g1, 4, none⟩ = some (.slice G4 x.f4.length d4) := (blk_cell B1.out 4).trans rfl
  have hzg1_5 : w4.cell? ⟨g1, 5, none⟩ = some (.slice G5 x.f5.length d5) := (blk_cell B1.out 5).trans rfl
  have hzg2_4 : w4.cell? ⟨g2, 4, none⟩ = some (.slice A4 x.f4.length c4) := (blk_cell B2.out 4).trans rfl
  have hzg2_5 : w4.cell? ⟨g2, 5, none⟩ = some (.slice A5 x.f5.length c5) := (blk_cell B2.out 5).trans rfl
  go_wp2_with fail
  refine (sameArrays_eq G4 A4 d4 c4 x.f4 _ (Kd.C_below HG4.out HB.out) hd4 (Kd.C_below HA4.out HB.out) hc4 HS.out.2.2.1).mono ?_
  rintro e w5 ⟨rfl, hb⟩
  replace B1 := qA (blk_below B1.out hb)
  replace B2 := qA (blk_below B2.out hb)
  replace HB := qA (below_step HB.out hb)
  clear hb hzg1_4 hzg2_4 hzg1_5 hzg2_5
  have hzg1_5 : w5.cell? ⟨g1, 5, none⟩ = some (.slice G5 x.f5.length d5) := (blk_cell B1.out 5).trans rfl
  have hzg2_5 : w5.cell? ⟨g2, 5, none⟩ = some (.slice A5 x.f5.length c5) := (blk_cell B2.out 5).trans rfl
  go_wp2_with fail
  refine (sameBlocks_eq G5 A5 d5 c5 x.f5 _ (Kd.C_below HG5.out HB.out) hd5 (Kd.C_below HA5.out HB.out) hc5 HS.out.2.2.2.1 HS.out.2.2.2.2).mono ?_
  rintro e w6 ⟨rfl, hb⟩
  replace B1 := qA (blk_below B1.out hb)
  replace B2 := qA (blk_below B2.out hb)
  replace HB := qA (below_step HB.out hb)
  clear hb hzg1_5 hzg2_5
  go_wp2
  go_ret
  exact ⟨rfl, HB.out⟩
theorem sameRows_eq (A B : Option Addr) (c d : Nat) (l : List (List Int)) (w : World) (hA : Kd.C (Kd.slice 3 (Kd.int .i64)) w A l.length l) (hc : l.length ≤ c) (hB : Kd.C (Kd.slice 3 (Kd.int .i64)) w B l.length l) (hd : l.length ≤ d) (hl : l.length ≤ 281474976710656) (hs : ∀ x ∈ l, x.length ≤ 281474976710656) :
    Calls Tryz.prog 17 #[.slice A l.length c, .slice B l.length d] w fun e w' => e = .returned (.bool true) ∧ Below w.heap.size w w' := by
  have HR := qA hA
  have HO := qA hB
  have HB0 : Aside0 (Below w.heap.size w w) := ⟨Below.refl _ _⟩
  have HS := qA hs; clear hs
  clear hA hB
  go_enter Tryz.func17, Tryz.ntmps17
  go_wp2
  go_loopw [5] (fun v5 wr => ∃ j : Nat, j ≤ l.length ∧ v5 = .int .i64 (j : Int) ∧ Aside0 (Below w.heap.size w wr)) (fun i _ => l.length - (intOf i).toNat)
  case atStart => exact ⟨0, by omega, rfl, HB0⟩
  case round =>
  clear HB0
  obtain ⟨j, hj, rfl, HB⟩ := hrel
  by_cases hlt : j < l.length
  · obtain ⟨ad, cx, hA, -, hKx, hcx⟩ := Kd.C_get HR.out [] (j : Int) cq2 cq2
    subst hA
    obtain ⟨ag, cg, hG, -, hKg, hcg⟩ := Kd.C_get HO.out [] (j : Int) cq2 cq2
    subst hG
    obtain ⟨x, hx⟩ : ∃ x, x = l[j] := ⟨_, rfl⟩
    rw [Int.toNat_natCast, getD_at (x := x) cq37] at hKx hKg
    rw [Int.toNat_natCast] at hcx hcg
    replace hcx : ∀ q u, cx[q]? = some u → w.cell? (ad.add (j * 1 + q)) = some u := hcx
    replace hcg : ∀ q u, cg[q]? = some u → w.cell? (ag.add (j * 1 + q)) = some u := hcg
    obtain ⟨G0, d0, rfl, hd0, hX0⟩ := hKx
    obtain ⟨A0, c0, rfl, hc0, hY0⟩ := hKg
    have hx0 := hcx 0 _ rfl
    rw [Nat.mul_one, Nat.add_zero] at hx0
    have hg0 := hcg 0 _ rfl
    rw [Nat.mul_one, Nat.add_zero] at hg0
    have HX := qA (show x.length ≤ 281474976710656 by rw [hx]; exact HS.out _ (List.getElem_mem hlt))
    have HX0 := qA hX0; have HY0 := qA hY0; clear hX0 hY0
    clear hcx hcg hx
    go_wp2_with fail
    go_upto_region 6 with (fail)
    go_cut [26] (fun v25 wx => v25 = .bool false ∧ Aside0 (Below w.heap.size w wx))
    case first =>
      refine Rs.wp_region_stable [17, 18, 19, 20, 21, 22, 23, 24, 25, 26] [.slice (some ad) l.length c, .int .i64 ((j : Int)), .pointer (some (ad.add j)), .slice G0 x.length d0, .slice (some ag) l.length d, .int .i64 ((j : Int)), .pointer (some (ag.add j)), .slice A0 x.length c0, .bool true, .bool false] (Below w.heap.size w) cq3 cq3 rfl (below_drew HB.out) ⟨se2, se1, se0, se4, se3, se1, se0, se5, ?s8, se6, trivial⟩ ?_
      case s8 =>
        exact fun a w' hG hd hf K hK => by
          have e20 : a.tmps[20]? = some (.slice G0 x.length d0) := hd 0 _ rfl rfl _ rfl; have e24 : a.tmps[24]? = some (.slice A0 x.length c0) := hd 1 _ rfl rfl _ rfl
          exact goes_ Tryz.func38 cq3 rfl #[.slice G0 x.length d0, .slice A0 x.length c0] (Rs.want_none rfl) rfl rfl cq53 (((sameInts_eq G0 A0 d0 c0 x w' (Kd.C_below HX0.out hG) hd0 (Kd.C_below HY0.out hG) hc0 HX.out).mono cq7))
      intro wz hz
      simp only [Rs.putL, Act.put, qS, qZ, qN]
      go_wp2_with fail
      go_meet
      exact ⟨rfl, ⟨hz⟩⟩
    case rest =>
      obtain ⟨rfl, HB2⟩ := hcut
      go_wp2
      go_roundw
      case rel => exact ⟨j + 1, by omega, by go_num, HB2⟩
      case measure => simp [intOf]; omega
  · obtain rfl : j = l.length := by omega
    go_wp2
    go_ret
    exact ⟨rfl, HB.out⟩
theorem sameTruths_eq (A B : Option Addr) (c d : Nat) (l : List Bool) (w : World) (hA : Kd.C Kd.bool w A l.length l) (hc : l.length ≤ c) (hB : Kd.C Kd.bool w B l.length l) (hd : l.length ≤ d) (hl : l.length ≤ 281474976710656) :
    Calls Tryz.prog 22 #[.slice A l.length c, .slice B l.length d] w fun e w' => e = .returned (.bool true) ∧ Below w.heap.size w w' := by
  have HR := qA hA
  have HO := qA hB
  have HB0 : Aside0 (Below w.heap.size w w) := ⟨Below.refl _ _⟩
  clear hA hB
  go_enter Tryz.func22, Tryz.ntmps22
  go_wp2
  go_loopw [5] (fun v5 wr => ∃ j : Nat, j ≤ l.length ∧ v5 = .int .i64 (j : Int) ∧ Aside0 (Below w.heap.size w wr)) (fun i _ => l.length - (intOf i).toNat)
  case atStart => exact ⟨0, by omega, rfl, HB0⟩
  case round =>
  clear HB0
  obtain ⟨j, hj, rfl, HB⟩ := hrel
  by_cases hlt : j < l.length
  · obtain ⟨ad, cx, hA, -, hKx, hcx⟩ := Kd.C_get HR.out false (j : Int) cq2 cq2
    subst hA
    obtain ⟨ag, cg, hG, -, hKg, hcg⟩ := Kd.C_get HO.out false (j : Int) cq2 cq2
    subst hG
    obtain ⟨x, hx⟩ : ∃ x, x = l[j] := ⟨_, rfl⟩
    rw [Int.toNat_natCast, getD_at (x := x) cq37] at hKx hKg
    rw [Int.toNat_natCast] at hcx hcg
    replace hcx : ∀ q u, cx[q]? = some u → w.cell? (ad.add (j * 1 + q)) = some u := hcx
    replace hcg : ∀ q u, cg[q]? = some u → w.cell? (ag.add (j * 1 + q)) = some u := hcg
    obtain rfl : cx = [.bool x] := hKx
    obtain rfl : cg = [.bool x] := hKg
    have hx0 := hcx 0 _ rfl
    rw [Nat.mul_one, Nat.add_zero] at hx0
    have hg0 := hcg 0 _ rfl
    rw [Nat.mul_one, Nat.add_zero] at hg0
    clear hcx hcg hx
    go_wp2_with fail
    go_upto_region 6 with (fail)
    go_cut [25] (fun v25 wx => v25 = .bool false ∧ Aside0 (Below w.heap.size w wx))
    case first =>
      refine Rs.wp_region_stable [17, 18, 19, 20, 21, 22, 23, 24, 25] [.slice (some ad) l.length c, .int .i64 ((j : Int)), .pointer (some (ad.add j)), .bool x, .slice (some ag) l.length d, .int .i64 ((j : Int)), .pointer (some (ag.add j)), .bool x, .bool false] (Below w.heap.size w) cq3 cq3 rfl (below_drew HB.out) ⟨se2, se1, se0, se4, se3, se1, se0, se5, se0, trivial⟩ ?_
      intro wz hz
      simp only [Rs.putL, Act.put, qS, qZ, qN]
      go_wp2_with fail
      go_meet
      exact ⟨rfl, ⟨hz⟩⟩
    case rest =>
      obtain ⟨rfl, HB2⟩ := hcut
      go_wp2
      go_roundw
      case rel => exact ⟨j + 1, by omega, by go_num, HB2⟩
      case measure => simp [intOf]; omega
  · obtain rfl : j = l.length := by omega
    go_wp2
    go_ret
    exact ⟨rfl, HB.out⟩
end Go.Proofs.YtligpleningglaaGreat.Lk
