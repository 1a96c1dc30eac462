/- The law ScanKeeps, walked: it answers true of any numbers and registers. -/
import Derived.Test.YtcmbpboeilojmaaGreatTwo
import Derived.Test.YtcmbpboeilojmaaGreatPw
import Derived.Test.YtcmbpboeilojmaaGreatMk
import Derived.Test.YtcmbpboeilojmaaGreatFxf8
namespace Go.Proofs.YtcmbpboeilojmaaGreat.Sw
open Go Go.RowKit Go.Proofs.YtcmbpboeilojmaaGreatW.PrintWords Go.Proofs.YtcmbpboeilojmaaGreatW.PrintLast Go.Proofs.YtcmbpboeilojmaaGreatW.PrintMore Go.Proofs.YtcmbpboeilojmaaGreat.Mi Go.Proofs.YtcmbpboeilojmaaGreat.F Go.Proofs.YtcmbpboeilojmaaGreat.Scan Go.Proofs.YtcmbpboeilojmaaGreat.Keep
set_option linter.unusedVariables false
set_option linter.unusedSimpArgs false
theorem same_l0 (h : List S48) (hl : h.length ≤ 1000000) : ∀ (m i : Nat), h.length - i ≤ m → i ≤ h.length → ∃ k, smithykit_SameHomes.l0 k h h i = some true := by
  have fin : ∃ k, smithykit_SameHomes.l0 k h h (h.length : Int) = some true := ⟨1, by rw [smithykit_SameHomes.l0, if_neg (by omega)]⟩
  intro m
  induction m with
  | zero =>
    intro i h1 h2
    obtain rfl : i = h.length := by omega
    exact fin
  | succ m ih =>
    intro i h1 h2
    by_cases c : i < h.length
    · obtain ⟨k, hk⟩ := ih (i + 1) (by omega) (by omega)
      refine ⟨k + 1, ?_⟩
      rw [smithykit_SameHomes.l0, if_pos (by omega), if_pos (by omega), if_pos (by omega), if_neg (by simp), show wrap64 ((i : Int) + 1) = ((i + 1 : Nat) : Int) by rw [wrap64_small (by omega) (by omega)]; omega]
      exact hk
    · obtain rfl : i = h.length := by omega
      exact fin
theorem same_f (h : List S48) (hl : h.length ≤ 1000000) : ∃ k, smithykit_SameHomes.f k h h = some true := by
  obtain ⟨k, hk⟩ := same_l0 h hl h.length 0 (by omega) (by omega)
  exact ⟨k, by unfold smithykit_SameHomes.f; rw [if_pos rfl]; exact hk⟩
theorem assignG_len (l : List S36) (regs : Int) : (assignG l regs).1.length ≤ l.length := by
  unfold assignG
  split
  · exact Nat.zero_le _
  · rename_i h
    have h0 : 0 ≤ regs := by omega
    have h1 : regs ≤ 64 := by omega
    have h2 : ordB l = true := by
      cases hb : ordB l with
      | true => rfl
      | false => exact absurd (.inr (.inr hb)) h
    have F := assign_facts (regs := regs) (ordB_ord h2) h0 h1
    show (assignP l regs).h.length ≤ _
    rw [F.hl]; exact Nat.le_refl _
theorem made_wf {l : List S36} {a : Int} (M : Made l a) : wfS l := by
  intro x hx
  obtain ⟨i, hi, rfl⟩ := List.getElem_of_mem hx
  have h1 := M.nm i hi
  rw [sp_lt hi] at h1
  have := M.ln
  show (Lit.int .i64 l[i].f0).wf = true
  rw [h1]
  exact WalkArith.wf_i64 ⟨by omega, by omega⟩
set_option maxHeartbeats 4000000 in
set_option maxRecDepth 100000 in
theorem scanKeeps_calls (A0 : Option Addr) (c0 : Nat) (ns : List Int) (regs : Int) (w : World) (hr0 : Kd.C (Kd.int .i64) w A0 ns.length ns) (hc0 : ns.length ≤ c0) :
    Calls Tryz.prog 3 #[.slice A0 ns.length c0, .int .i64 regs] w fun e w' => e = .returned (.bool true) ∧ Below w.heap.size w w' := by
  have HR0 := Aside0.mk hr0
  have HC0 := Aside0.mk hc0
  clear hr0 hc0
  obtain ⟨kA, hkA⟩ := awake_t
  obtain ⟨kM, l, a, hkM, M⟩ := made_f ns
  obtain ⟨p, hp, -, -⟩ := pick_f regs 8 (by omega) (by omega)
  have AW := Aside0.mk hkA
  have MF := Aside0.mk hkM
  have PF := Aside0.mk hp
  have AS := Aside0.mk (fun (W : World) (A : Option Addr) (c : Nat) (h1 : Kd.C k36 W A l.length l) (h2 : l.length ≤ c) => assign_calls A c l p W h1 h2 (by have := M.ln; omega) (made_wf M))
  have hgl := assignG_len l p
  have hml := M.ln
  obtain ⟨r, er⟩ : ∃ r, r = assignG l p := ⟨_, rfl⟩
  rw [← er] at AS hgl
  obtain ⟨h, r2, r3⟩ := r
  have hh : h.length ≤ 120 := Nat.le_trans hgl hml
  obtain ⟨kS, hkS⟩ := same_f h (by omega)
  have SF := Aside0.mk hkS
  have HH := Aside0.mk hh
  clear hkA hkM hp M hgl hml er hkS hh
  go_enter Tryz.func3, Tryz.ntmps3
  go_wp2_with fail
  refine (smithylaw25_awake.calls kA true w AW.out).mono ?_
  rintro e w1 ⟨rfl, hb⟩
  have HB1 := Aside0.mk hb
  have R01 := Aside0.mk (Kd.C_below HR0.out hb)
  clear hb HR0
  go_wp2_with fail
  refine (smithylaw25_made.calls kM _ _ ns l _ R01.out HC0.out MF.out).mono ?_
  rintro e w2 ⟨v0, rfl, hR, hb⟩
  obtain ⟨A5, c5, rfl, hc5, hC5⟩ := Kd.R_reads hR
  have HB2 := Aside0.mk (below_then HB1.out HB1.out.size hb)
  have HC5 := Aside0.mk hc5
  have C52 := Aside0.mk hC5
  clear hb hR hc5 hC5 R01
  go_wp2_with fail
  refine (smithykit_Pick.calls regs 8 p _ PF.out).mono ?_
  rintro e w3 ⟨rfl, hd⟩
  have hb := hd.below
  have HB3 := Aside0.mk (below_then HB2.out HB2.out.size hb)
  have C53 := Aside0.mk (Kd.C_below C52.out hb)
  clear hb hd C52
  go_wp2_with fail
  refine (AS.out _ _ _ C53.out HC5.out).mono ?_
  rintro e w4 ⟨v7, rfl, hR, hb⟩
  obtain ⟨A7, c7, rfl, hc7, hC7⟩ := Kd.R_reads hR
  obtain ⟨in7, ho7⟩ := Kd.R_own hR
  have HB4 := Aside0.mk (below_then HB3.out HB3.out.size hb)
  have C54 := Aside0.mk (Kd.C_below C53.out hb)
  have HC7 := Aside0.mk hc7
  have CC7 := Aside0.mk hC7
  have HO7 := Aside0.mk (own_lower ho7 HB3.out.size)
  clear hb hR hc7 hC7 ho7 C53
  go_wp2_with fail
  refine (AS.out _ _ _ C54.out HC5.out).mono ?_
  rintro e w5 ⟨v8, rfl, hR, hb⟩
  obtain ⟨A8, c8, rfl, hc8, hC8⟩ := Kd.R_reads hR
  obtain ⟨in8, ho8⟩ := Kd.R_own hR
  have HB5 := Aside0.mk (below_then HB4.out HB4.out.size hb)
  have HDJ : Aside0 (disj (.slice A7 h.length c7) (.slice A8 h.length c8)) := ⟨disj_of HO7.out ho8 (Nat.le_refl _)⟩
  have HC8 := Aside0.mk hc8
  have CC75 := Aside0.mk (Kd.C_below CC7.out hb)
  have CC8 := Aside0.mk hC8
  have HO75 := Aside0.mk (pw_own_below HO7.out hb)
  have HO8 := Aside0.mk (own_lower ho8 HB4.out.size)
  clear hb hR hc8 hC8 ho8 C54 CC7 HO7
  go_wp2_with fail
  refine (smithykit_SameHomes.calls kS _ _ h _ _ h true _ CC75.out HC7.out CC8.out HC8.out SF.out).mono ?_
  rintro e w6 ⟨rfl, hd⟩
  have hb := hd.below
  have HB6 := Aside0.mk (below_then HB5.out HB5.out.size hb)
  have HO76 := Aside0.mk (pw_own_below HO75.out hb)
  have HO86 := Aside0.mk (pw_own_below HO8.out hb)
  clear hb hd HO75 HO8 CC75 CC8
  have HLit : Aside0 ((w6.alloc (.cells #[.slice A7 h.length c7, .slice A8 h.length c8] 27)).ownsRow w.heap.size 27 1 (.slice (some ⟨w6.heap.size, 0, none⟩) 2 2) 2 [.slice A7 h.length c7, .slice A8 h.length c8]) :=
    ⟨World.ownsRow_lit (e := 27) (base := w.heap.size) (size := 1) w6 #[.slice A7 h.length c7, .slice A8 h.length c8] 2 HB6.out.size (by simp [maxLen]) rfl⟩
  have HRo : Aside0 (∃ cs, RowsO (w6.alloc (.cells #[.slice A7 h.length c7, .slice A8 h.length c8] 27)) w.heap.size 48 3 [.slice A7 h.length c7, .slice A8 h.length c8] [h.length, h.length] cs) :=
    ⟨rowsO2 (HO76.out.alloc _) (HO86.out.alloc _)⟩
  have HNs : Aside0 (∀ j, [h.length, h.length].getD j 0 + 64 ≤ 5864062014805) := ⟨fun j => by
    have := HH.out
    match j with
    | 0 => simp; omega
    | 1 => simp; omega
    | j + 2 => simp⟩
  have HSz : Aside0 (w.heap.size ≤ (w6.alloc (.cells #[.slice A7 h.length c7, .slice A8 h.length c8] 27)).heap.size) := ⟨by have := HB6.out.size; simp; omega⟩
  go_wp2_with fail
  refine (ApartHomes_calls w.heap.size _ _ [.slice A7 h.length c7, .slice A8 h.length c8] [h.length, h.length] _ (by simp) HNs.out HSz.out HLit.out HRo.out (apart2 HDJ.out)).mono ?_
  rintro e wb ⟨rfl, hb, _⟩
  have HBb := Aside0.mk ((HB6.out.alloc HB6.out.size (.cells #[.slice A7 h.length c7, .slice A8 h.length c8] 27)).trans hb)
  clear hb
  go_wp2
  go_ret
  exact ⟨rfl, HBb.out⟩
theorem scanKeeps_walk (a0 : Option Addr) (len0 cap0 : Nat) (z0 : List Int) (regs : Int) (w : World) (w0 : (a0 = none ∧ len0 = 0 ∧ cap0 = 0 ∧ z0 = []) ∨ ∃ x, a0 = some x ∧ len0 ≤ cap0 ∧ cap0 ≤ maxLen ∧ z0.length = cap0 ∧ (∀ i, i < z0.length → w.cell? (x.add i) = some (.int .i64 (z0.getD i 0))) ∧ ∀ n ∈ z0, (Lit.int .i64 n).wf = true) (y0 : len0 * 8 ≤ 140737488351232) (w1 : (Lit.int .i64 regs).wf = true) :
    Calls Tryz.prog 3 #[.slice a0 len0 cap0, .int .i64 regs] w fun e w' => e = .returned (.bool true) ∧ Below w.heap.size w w' := by
  obtain ⟨l1, rfl, hr1, hm1, hw1, hc1⟩ := ReadsInt.ofRowC w0
  exact scanKeeps_calls _ _ _ _ _ (Kd.C_of_reads (d := (0 : Int)) (h1 := fun _ => rfl) hr1) hc1
end Go.Proofs.YtcmbpboeilojmaaGreat.Sw
