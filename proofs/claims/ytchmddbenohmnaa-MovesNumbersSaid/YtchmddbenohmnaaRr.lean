/- The law MovesRows, walked: it answers true of any moves and any spare. -/
import Derived.Test.YtchmddbenohmnaaBam
import Derived.Test.YtchmddbenohmnaaTwo
import Derived.Test.YtchmddbenohmnaaMvE
import Derived.Test.YtchmddbenohmnaaRf
namespace Go.Proofs.Ytchmddbenohmnaa.Mv
open Go Go.RowKit Go.Proofs.YtchmddbenohmnaaW.PrintWords Go.Proofs.YtchmddbenohmnaaW.PrintLast Go.Proofs.YtchmddbenohmnaaW.PrintMore Go.Proofs.Ytchmddbenohmnaa.Mi Go.Proofs.Ytchmddbenohmnaa.F Go.Proofs.Ytchmddbenohmnaa.Keep
set_option linter.unusedVariables false
set_option linter.unusedSimpArgs false

set_option maxHeartbeats 4000000 in
set_option maxRecDepth 100000 in
theorem overMoves_calls (base g n cap : Nat) (xs : List Value) (w : World) (ho : w.ownsRow base 43 2 (.slice (some ⟨g, 0, none⟩) (n + 12) cap) (n + 12) xs) (hn : n ≤ 1000) (hcap : n + 12 ≤ cap) :
    Calls Try.prog 13 #[.slice (some ⟨g, 0, none⟩) n cap] w fun e w' => e = .returned (.tuple #[]) ∧ w.grownBy w' (some g) := by
  have hcap2 : n ≤ cap := by omega
  have HO0 := Aside0.mk ho
  have HG0 := Aside0.mk (World.grownBy.refl w (some g))
  clear ho
  go_enter Try.func13, Try.ntmps13
  go_wp2
  go_loopw [3] (fun v3 wr => ∃ (j : Nat) (ys : List Value), j ≤ n + 12 ∧ v3 = .int .i64 (j : Int) ∧ Aside0 (wr.ownsRow base 43 2 (.slice (some ⟨g, 0, none⟩) (n + 12) cap) (n + 12) ys) ∧ Aside0 (w.grownBy wr (some g))) (fun i _ => n + 12 - (intOf i).toNat)
  case atStart => exact ⟨0, xs, by omega, rfl, HO0, HG0⟩
  case round =>
    clear HO0 HG0
    obtain ⟨j, ys, hj, rfl, HO, HG⟩ := hrel
    by_cases hlt0 : j < n + 12
    · go_wp2_with fail
      refine (mark_move 2 (j : Int) _ (by omega) (by omega) (by omega) (by omega)).mono ?_
      rintro e w2 ⟨rfl, hb⟩
      have HO2 := Aside0.mk (pw_own_below HO.out hb)
      have HG2 := Aside0.mk (HG.out.trans (grown_of_below hb (some g)))
      clear hb
      have hyl : ys.length = (n + 12) * 2 := HO2.out.1
      obtain ⟨hO4, hgr4⟩ := HO2.out.stored (j * 2) (.int .i64 (mkI 2 (j : Int)))
      obtain ⟨hO5, hgr5⟩ := hO4.stored (j * 2 + 1) (.int .i64 0)
      obtain ⟨r0, hr0⟩ : ∃ r, ys[j * 2]? = some r := ⟨_, List.getElem?_eq_getElem (by omega)⟩
      obtain ⟨r1, hr1⟩ : ∃ r, ys[j * 2 + 1]? = some r := ⟨_, List.getElem?_eq_getElem (by omega)⟩
      have hcl : w2.cell? ⟨g, j * 2, none⟩ = some r0 := by
        have := HO2.out.cells (g := g) rfl (j * 2) r0 hr0
        rwa [add_plain] at this
      have hfr : w2.frozen? ⟨g, j * 2, none⟩ = false := HO2.out.frozenAt (j * 2)
      have hcl1 : (w2.setCell ⟨g, j * 2, none⟩ (.int .i64 (mkI 2 (j : Int)))).cell? ⟨g, j * 2 + 1, none⟩ = some r1 := by
        have := hO4.cells (g := g) rfl (j * 2 + 1) r1 (by rw [List.getElem?_set_ne (by omega)]; exact hr1)
        rwa [add_plain] at this
      have hfr1 : (w2.setCell ⟨g, j * 2, none⟩ (.int .i64 (mkI 2 (j : Int)))).frozen? ⟨g, j * 2 + 1, none⟩ = false := hO4.frozenAt (j * 2 + 1)
      have HST := Aside0.mk hO5
      have HGN := Aside0.mk ((HG2.out.trans hgr4).trans hgr5)
      clear hO4 hgr4 hO5 hgr5 hr0 hr1 hyl
      go_wp2
      go_roundw
      case rel => exact ⟨j + 1, _, by omega, by go_num, HST, HGN⟩
      case measure => simp [intOf]; omega
    · obtain rfl : j = n + 12 := by omega
      go_wp2
      exact bodyPost_end (v := .tuple #[]) (by simp [results, Try.results13, go_sem]) rfl ⟨rfl, HG.out⟩

theorem row_over {w w1 : World} {base e sz n g : Nat} {v : Value} {xs : List Value} (h : w.ownsRow base e sz v n xs) (hg : w.grownBy w1 (some g)) (hlt : g < base) : w1.ownsRow base e sz v n xs := by
  refine own_grown h (u := .slice (some ⟨g, 0, none⟩) 0 0) hg ?_
  cases hv : v.ownBlock with
  | none => exact .inl hv
  | some q => exact .inr (by rw [hv]; intro e'; injection e' with e'; have h1 := (h.lt q hv).1; have e2 : q = g := e'; omega)
theorem C_over {w w1 : World} {base g : Nat} {ok : Nat → Prop} {v : Value} {l : List S43} (h : Kd.R k43 43 w base ok v l) (hg : w.grownBy w1 (some g)) (hlt : g < base) : Kd.R k43 43 w1 base (fun _ => True) v l := by
  refine Kd.R_mono (Kd.R_grown (Kd.R_bound h) hg (fun k hk e' => ?_)) (fun _ _ => trivial)
  injection e' with e'
  have := hk.2.1
  omega

set_option maxHeartbeats 8000000 in
set_option maxRecDepth 100000 in
theorem rows_long (A0 : Option Addr) (c0 : Nat) (l0 : List S43) (sp : Int) (w : World) (h : 150 < l0.length) :
    Calls Try.prog 3 #[.slice A0 l0.length c0, .int .i64 sp] w fun e w' => e = .returned (.bool true) ∧ Below w.heap.size w w' := by
  have h' : (150 : Int) < (l0.length : Int) := by omega
  go_enter Try.func3, Try.ntmps3
  go_wp2_with fail
  refine (smithylaw22_awake.calls 30 true w (awake_true 30 (Nat.le_refl _))).mono ?_
  rintro e w1 ⟨rfl, hb⟩
  have HB1 := Aside0.mk hb
  clear hb
  go_wp2
  go_ret
  exact ⟨rfl, HB1.out⟩

set_option maxHeartbeats 8000000 in
set_option maxRecDepth 100000 in
theorem rows_calls (A0 : Option Addr) (c0 : Nat) (l0 : List S43) (sp : Int) (w : World) (hr0 : Kd.C k43 w A0 l0.length l0) (hc0 : l0.length ≤ c0) (hok : okM l0 = true) (hws : (Lit.int .i64 sp).wf = true) :
    Calls Try.prog 3 #[.slice A0 l0.length c0, .int .i64 sp] w fun e w' => e = .returned (.bool true) ∧ Below w.heap.size w w' := by
  by_cases hlong : 150 < l0.length
  · exact rows_long A0 c0 l0 sp w hlong
  obtain ⟨K, out, r, hrow, href, hout, hcase⟩ := rows_facts (sp := sp) (Nat.le_of_not_lt hlong) hok hws
  have HR0 := Aside0.mk hr0
  have HC0 := Aside0.mk hc0
  have HROW : Aside0 (moves_Row.f K l0 sp = some (out, r)) := ⟨hrow⟩
  have HREF := Aside0.mk href
  have HOUT := Aside0.mk hout
  have HCASE := Aside0.mk hcase
  have hl' : ¬ (150 : Int) < (l0.length : Int) := by omega
  have hl0 : l0.length ≤ 150 := by omega
  clear hr0 hc0 hok hws hrow href hout hcase
  go_enter Try.func3, Try.ntmps3
  go_wp2_with fail
  refine (smithylaw22_awake.calls 30 true w (awake_true 30 (Nat.le_refl _))).mono ?_
  rintro e w1 ⟨rfl, hb⟩
  have HB1 := Aside0.mk hb
  have R01 := Aside0.mk (Kd.C_below HR0.out HB1.out)
  clear hb
  go_wp2_with fail
  refine (lentMoves_calls _ _ l0 _ R01.out HC0.out (by omega)).mono ?_
  rintro e w2 ⟨g, cap, rfl, ho, hb⟩
  have HB2 := Aside0.mk (below_then HB1.out HB1.out.size hb)
  obtain ⟨_, hcap, hC⟩ := Kd.R_reads' ho
  obtain ⟨gin, hgo⟩ := Kd.R_own ho
  rw [List.length_append, marksMoves_len] at hC hgo
  have HCAP := Aside0.mk hcap
  have HM2 := Aside0.mk hC
  have HGO2 := Aside0.mk hgo
  have HGW : Aside0 (w.heap.size ≤ g ∧ g < w2.heap.size) := ⟨⟨Nat.le_trans HB1.out.size (hgo.lt g rfl).1, (hgo.lt g rfl).2⟩⟩
  clear ho hb hcap hC hgo R01
  have P2 := Aside0.mk (C_head HM2.out (by rw [marksMoves_len]))
  go_wp2_with fail
  refine (moves_Row.calls K _ _ _ _ out r _ P2.out (by have := HCAP.out; omega) HROW.out).mono ?_
  rintro e w3 ⟨v6, rfl, ho, hb⟩
  obtain ⟨A6, c6, rfl⟩ := Kd.R_slice ho
  have HB3 := Aside0.mk (below_then HB2.out HB2.out.size hb)
  have HA3 := Aside0.mk ho
  have HM3 := Aside0.mk (Kd.C_below HM2.out hb)
  have P3 := Aside0.mk (Kd.C_below P2.out hb)
  have HGO3 := Aside0.mk (pw_own_below HGO2.out hb)
  have L2 := Aside0.mk HB2.out.size
  have L23 := Aside0.mk hb.size
  clear ho hb HM2 P2 HGO2
  go_wp2_with fail
  refine (moves_Row.calls K _ _ _ _ out r _ P3.out (by have := HCAP.out; omega) HROW.out).mono ?_
  rintro e w4 ⟨v8, rfl, ho, hb⟩
  obtain ⟨A8, c8, rfl⟩ := Kd.R_slice ho
  have HB4 := Aside0.mk (below_then HB3.out HB3.out.size hb)
  have HA4 := Aside0.mk (Kd.R_below HA3.out hb)
  have HD4 := Aside0.mk ho
  have HM4 := Aside0.mk (Kd.C_below HM3.out hb)
  have HGO4 := Aside0.mk (pw_own_below HGO3.out hb)
  have HDJ : Aside0 (disj (.slice A6 out.length c6) (.slice A8 out.length c8)) := ⟨by
    obtain ⟨i1, o1⟩ := Kd.R_own HA3.out
    obtain ⟨i2, o2⟩ := Kd.R_own ho
    exact disj_of o1 o2 (Nat.le_refl _)⟩
  have R04 := Aside0.mk (Kd.C_below HR0.out HB4.out)
  clear ho hb HM3 P3 HGO3 HA3
  go_wp2_with fail
  refine (keptMoves_calls _ _ _ _ l0 _ R04.out HM4.out HCAP.out (by omega)).mono ?_
  rintro e w5 ⟨rfl, hb⟩
  have HB5 := Aside0.mk (below_then HB4.out HB4.out.size hb)
  have HA5 := Aside0.mk (Kd.R_below HA4.out hb)
  have HD5 := Aside0.mk (Kd.R_below HD4.out hb)
  have HGO5 := Aside0.mk (pw_own_below HGO4.out hb)
  have R05 := Aside0.mk (Kd.C_below R04.out hb)
  clear hb R04 HM4 HA4 HD4 HGO4
  go_wp2_with fail
  refine (smithyref22_Refused.calls K _ _ _ _ r _ R05.out HC0.out HREF.out).mono ?_
  rintro e w6 ⟨rfl, hd⟩
  have hb := hd.below
  have HB6 := Aside0.mk (below_then HB5.out HB5.out.size hb)
  have HA6 := Aside0.mk (Kd.R_below HA5.out hb)
  have HD6 := Aside0.mk (Kd.R_below HD5.out hb)
  have HGO6 := Aside0.mk (pw_own_below HGO5.out hb)
  clear hb hd R05 HA5 HD5 HGO5
  have hcase := HCASE.out
  rcases hcase with ⟨rfl, rfl | rfl⟩ | ⟨rfl, hdoes⟩
  · go_wp2
    go_ret
    exact ⟨rfl, HB6.out⟩
  · go_wp2
    go_ret
    exact ⟨rfl, HB6.out⟩
  · have HDOES := Aside0.mk hdoes
    clear hdoes
    go_wp2_with fail
    refine (overMoves_calls _ g l0.length cap _ _ HGO6.out (by omega) HCAP.out).mono ?_
    rintro e w7 ⟨rfl, hg⟩
    have HB7 := Aside0.mk (HB6.out.grown hg HB6.out.size (fun k e => by injection e with e; rw [← e]; exact HGW.out.1))
    have HA7 := Aside0.mk (C_over HA6.out hg HGW.out.2)
    have HD7 := Aside0.mk (C_over HD6.out hg (Nat.lt_of_lt_of_le HGW.out.2 L23.out))
    clear hg HA6 HD6 HGO6
    obtain ⟨hna, hca, hCa⟩ := Kd.R_reads' HA7.out
    obtain ⟨hnd, hcd, hCd⟩ := Kd.R_reads' HD7.out
    have HCA := Aside0.mk hca
    have HCCA := Aside0.mk hCa
    have HCD := Aside0.mk hcd
    have HCCD := Aside0.mk hCd
    clear hna hca hCa hnd hcd hCd
    have R07 := Aside0.mk (Kd.C_below HR0.out HB7.out)
    go_wp2_with fail
    refine (smithyref22_Does.calls K _ _ _ _ _ _ _ true _ HCCA.out HCA.out R07.out HC0.out HDOES.out).mono ?_
    rintro e w8 ⟨rfl, hb⟩
    have HB8 := Aside0.mk (below_then HB7.out HB7.out.size hb)
    have HA8 := Aside0.mk (Kd.R_below HA7.out hb)
    have HD8 := Aside0.mk (Kd.R_below HD7.out hb)
    have CD8 := Aside0.mk (Kd.C_below HCCD.out hb)
    have R08 := Aside0.mk (Kd.C_below R07.out hb)
    clear hb HA7 HD7 R07 HCCA HCCD
    go_wp2_with fail
    refine (smithyref22_Does.calls K _ _ _ _ _ _ _ true _ CD8.out HCD.out R08.out HC0.out HDOES.out).mono ?_
    rintro e w9 ⟨rfl, hb⟩
    have HB9 := Aside0.mk (below_then HB8.out HB8.out.size hb)
    have HA9 := Aside0.mk (Kd.R_below HA8.out hb)
    have HD9 := Aside0.mk (Kd.R_below HD8.out hb)
    clear hb HA8 HD8 R08 CD8
    obtain ⟨ia, oa⟩ := Kd.R_own HA9.out
    obtain ⟨ib, ob⟩ := Kd.R_own HD9.out
    have HLit : Aside0 ((w9.alloc (.cells #[.slice A6 out.length c6, .slice A8 out.length c8] 22)).ownsRow w.heap.size 22 1 (.slice (some ⟨w9.heap.size, 0, none⟩) 2 2) 2 [.slice A6 out.length c6, .slice A8 out.length c8]) :=
      ⟨World.ownsRow_lit (e := 22) (base := w.heap.size) (size := 1) w9 #[.slice A6 out.length c6, .slice A8 out.length c8] 2 HB9.out.size (by simp [maxLen]) rfl⟩
    have HRo : Aside0 (∃ cs, RowsO (w9.alloc (.cells #[.slice A6 out.length c6, .slice A8 out.length c8] 22)) w.heap.size 43 2 [.slice A6 out.length c6, .slice A8 out.length c8] [out.length, out.length] cs) :=
      ⟨rowsO2 ((own_lower oa L2.out).alloc _) ((own_lower ob (Nat.le_trans L2.out L23.out)).alloc _)⟩
    have HNs : Aside0 (∀ j, [out.length, out.length].getD j 0 + 64 ≤ 8796093022208) := ⟨fun j => by
      have := HOUT.out
      match j with
      | 0 => simp; omega
      | 1 => simp; omega
      | j + 2 => simp⟩
    have HSz : Aside0 (w.heap.size ≤ (w9.alloc (.cells #[.slice A6 out.length c6, .slice A8 out.length c8] 22)).heap.size) := ⟨by have := HB9.out.size; simp; omega⟩
    clear oa ob
    go_wp2_with fail
    refine (ApartMoves_calls w.heap.size _ _ [.slice A6 out.length c6, .slice A8 out.length c8] [out.length, out.length] _ (by simp) HNs.out HSz.out HLit.out HRo.out (apart2 HDJ.out)).mono ?_
    rintro e wb ⟨rfl, hb, _⟩
    have HBb := Aside0.mk ((HB9.out.alloc HB9.out.size (.cells #[.slice A6 out.length c6, .slice A8 out.length c8] 22)).trans hb)
    clear hb
    go_wp2
    go_ret
    exact ⟨rfl, HBb.out⟩

theorem rows_walk (a0 : Option Addr) (len0 cap0 : Nat) (l0 : List S43) (sp : Int) (w : World) (hl : l0.length = len0) (hlc : len0 ≤ cap0) (hC : Kd.C k43 w a0 len0 l0) (hok : okM l0 = true) (hws : (Lit.int .i64 sp).wf = true) :
    Calls Try.prog 3 #[.slice a0 len0 cap0, .int .i64 sp] w fun e w' => e = .returned (.bool true) ∧ Below w.heap.size w w' := by
  subst hl
  exact rows_calls _ _ _ _ _ hC hlc hok hws
end Go.Proofs.Ytchmddbenohmnaa.Mv
