/- The law MovesDid, walked: it answers true of any moves and any list of numbers. -/
import Derived.Test.YtchmddbenohmnaaBag
import Derived.Test.YtchmddbenohmnaaKept
import Derived.Test.YtchmddbenohmnaaRDid
namespace Go.Proofs.Ytchmddbenohmnaa.Mv
open Go Go.RowKit Go.Proofs.YtchmddbenohmnaaW.PrintWords Go.Proofs.YtchmddbenohmnaaW.PrintLast Go.Proofs.YtchmddbenohmnaaW.PrintMore Go.Proofs.Ytchmddbenohmnaa.Mi Go.Proofs.Ytchmddbenohmnaa.F Go.Proofs.Ytchmddbenohmnaa.Keep
set_option linter.unusedVariables false
set_option linter.unusedSimpArgs false

theorem sameb_go (xs : List Int) (hlen : xs.length ≤ 1000000000000000) : ∀ (d k : Nat) (i : Nat), i ≤ xs.length → xs.length - i = d → d < k → smithykit_SameInts.l0 k xs xs (i : Int) = some true := by
  intro d
  induction d with
  | zero =>
    intro k i hi hd hk
    obtain ⟨k, rfl⟩ : ∃ m, k = m + 1 := ⟨k - 1, by omega⟩
    rw [smithykit_SameInts.l0, if_neg (by omega)]
  | succ d ih =>
    intro k i hi hd hk
    obtain ⟨k, rfl⟩ : ∃ m, k = m + 1 := ⟨k - 1, by omega⟩
    rw [smithykit_SameInts.l0, if_pos (by omega)]
    simp only [show (0 : Int) ≤ (i : Int) by omega, show (i : Int) < (xs.length : Int) by omega, if_true]
    rw [wrap64_small (by omega) (by omega)]
    exact ih k (i + 1) (by omega) (by omega) (by omega)
theorem sameb_true {xs ys : List Int} (h : xs = ys) (hlen : xs.length ≤ 1000000000000000) {k : Nat} (hk : xs.length < k) : smithykit_SameInts.f k xs ys = some true := by
  subst h
  unfold smithykit_SameInts.f
  rw [if_pos rfl]
  exact sameb_go xs hlen xs.length k 0 (Nat.zero_le _) rfl hk
theorem C_head {α : Type} {k : Kd α} {w : World} {A : Option Addr} {xs ys : List α} {n : Nat} (h : k.C w A n (xs ++ ys)) (hn : n = xs.length + ys.length) : k.C w A xs.length xs := by
  subst hn
  have h' : k.C w A (xs ++ ys).length (xs ++ ys) := by rw [List.length_append]; exact h
  have := Kd.C_take h' (m := xs.length) (by rw [List.length_append]; omega)
  rwa [List.take_left'] at this
  rfl
theorem apart2 {v u : Value} (h : disj v u) : Apart [v, u] [v, u] := by
  intro i j hij
  match i, j with
  | 0, 0 => exact absurd rfl hij
  | 0, 1 => exact h
  | 1, 0 => exact h.symm
  | 1, 1 => exact absurd rfl hij
  | i + 2, j => exact .inl rfl
  | 0, j + 2 => exact disj.symm (.inl rfl)
  | 1, j + 2 => exact disj.symm (.inl rfl)
theorem rowsO2 {w : World} {base e sz n : Nat} {v u : Value} {xs ys : List Value} (h : w.ownsRow base e sz v n xs) (h' : w.ownsRow base e sz u n ys) : ∃ cs, RowsO w base e sz [v, u] [n, n] cs :=
  ⟨fun j => if j = 0 then xs else ys, fun j hj => by
    match j with
    | 0 => exact h
    | 1 => exact h'
    | j + 2 => simp at hj; omega⟩
theorem own_lower {w : World} {base base' e sz n : Nat} {v : Value} {xs : List Value} (h : w.ownsRow base e sz v n xs) (hb : base' ≤ base) : w.ownsRow base' e sz v n xs := by
  rcases h with ⟨h1, h2 | ⟨g, cap, cur, h3, h4, h5⟩⟩
  · exact ⟨h1, .inl h2⟩
  · exact ⟨h1, .inr ⟨g, cap, cur, h3, Nat.le_trans hb h4, h5⟩⟩
theorem disj_of {w w1 : World} {base base' e sz n e' sz' n' : Nat} {v u : Value} {xs ys : List Value} (h : w.ownsRow base e sz v n xs) (h' : w1.ownsRow base' e' sz' u n' ys) (hb : w.heap.size ≤ base') : disj v u := by
  cases hu : u.ownBlock with
  | none => exact disj.symm (.inl hu)
  | some q => exact disj_fresh h hu (Nat.le_trans hb (h'.lt q hu).1)

set_option maxHeartbeats 8000000 in
set_option maxRecDepth 100000 in
theorem didlaw_calls (A0 : Option Addr) (c0 : Nat) (l0 : List S43) (A1 : Option Addr) (c1 : Nat) (l1 : List Int) (w : World) (hr0 : Kd.C k43 w A0 l0.length l0) (hc0 : l0.length ≤ c0) (hr1 : Kd.C (Kd.int .i64) w A1 l1.length l1) (hc1 : l1.length ≤ c1)
    (hs0 : l0.length * 16 ≤ 140737488351232) (hs1 : l1.length * 8 ≤ 140737488351232) :
    Calls Try.prog 4 #[.slice A0 l0.length c0, .slice A1 l1.length c1] w fun e w' => e = .returned (.bool true) ∧ Below w.heap.size w w' := by
  have HR0 := Aside0.mk hr0
  have HR1 := Aside0.mk hr1
  have HC0 := Aside0.mk hc0
  have HC1 := Aside0.mk hc1
  have HS0 := Aside0.mk hs0
  have HS1 := Aside0.mk hs1
  have HD : Aside0 (didG l0 l1 = some (didL l0 l1)) := ⟨by unfold didG; rw [if_pos (by omega)]⟩
  clear hr0 hr1 hc1 hc0 hs0 hs1
  go_enter Try.func4, Try.ntmps4
  go_wp2_with fail
  refine (smithylaw22_awake.calls 30 true w (awake_true 30 (Nat.le_refl _))).mono ?_
  rintro e w1 ⟨rfl, hb⟩
  have HB1 := Aside0.mk hb
  have R01 := Aside0.mk (Kd.C_below HR0.out hb)
  have R11 := Aside0.mk (Kd.C_below HR1.out hb)
  clear hb HR0 HR1
  go_wp2_with fail
  refine (lentMoves_calls _ _ l0 _ R01.out HC0.out (by have := HS0.out; omega)).mono ?_
  rintro e w2 ⟨g, cap, rfl, ho, hb⟩
  have HB2 := Aside0.mk (below_then HB1.out HB1.out.size hb)
  have R02 := Aside0.mk (Kd.C_below R01.out hb)
  have R12 := Aside0.mk (Kd.C_below R11.out hb)
  obtain ⟨_, hcap, hC⟩ := Kd.R_reads' ho
  rw [List.length_append, marksMoves_len] at hC
  have HCAP := Aside0.mk hcap
  have HM2 := Aside0.mk hC
  clear ho hb hcap hC R01 R11
  go_wp2_with fail
  refine (lentInts_calls _ _ l1 _ R12.out HC1.out (by have := HS1.out; omega)).mono ?_
  rintro e w3 ⟨g2, cap2, rfl, ho, hb⟩
  have HB3 := Aside0.mk (below_then HB2.out HB2.out.size hb)
  have R03 := Aside0.mk (Kd.C_below R02.out hb)
  have R13 := Aside0.mk (Kd.C_below R12.out hb)
  have HM3 := Aside0.mk (Kd.C_below HM2.out hb)
  obtain ⟨_, hcap2, hC2⟩ := Kd.R_reads' ho
  rw [List.length_append, marksInts_len] at hC2
  have HCAP2 := Aside0.mk hcap2
  have HI3 := Aside0.mk hC2
  clear ho hb hcap2 hC2 R02 R12 HM2
  have P3 := Aside0.mk (C_head HM3.out (by rw [marksMoves_len]))
  have Q3 := Aside0.mk (C_head HI3.out (by rw [marksInts_len]))
  go_wp2_with fail
  refine (moves_Did.calls _ _ _ _ _ _ (didL l0 l1) _ P3.out (by have := HCAP.out; omega) Q3.out (by have := HCAP2.out; omega) HD.out).mono ?_
  rintro e w4 ⟨v7, rfl, ho, hb⟩
  obtain ⟨A7, c7, rfl, hc7, hC7⟩ := Kd.R_reads ho
  obtain ⟨in7, ho7⟩ := Kd.R_own ho
  have HC7 := Aside0.mk hc7
  have CC74 := Aside0.mk hC7
  have HO74 := Aside0.mk ho7
  have HB4 := Aside0.mk (below_then HB3.out HB3.out.size hb)
  have R04 := Aside0.mk (Kd.C_below R03.out hb)
  have R14 := Aside0.mk (Kd.C_below R13.out hb)
  have HM4 := Aside0.mk (Kd.C_below HM3.out hb)
  have HI4 := Aside0.mk (Kd.C_below HI3.out hb)
  have P4 := Aside0.mk (Kd.C_below P3.out hb)
  have Q4 := Aside0.mk (Kd.C_below Q3.out hb)
  clear ho hb hc7 hC7 ho7 R03 R13 HM3 HI3 P3 Q3
  go_wp2_with fail
  refine (moves_Did.calls _ _ _ _ _ _ (didL l0 l1) _ P4.out (by have := HCAP.out; omega) Q4.out (by have := HCAP2.out; omega) HD.out).mono ?_
  rintro e w5 ⟨v8, rfl, ho, hb⟩
  obtain ⟨A8, c8, rfl, hc8, hC8⟩ := Kd.R_reads ho
  obtain ⟨in8, ho8⟩ := Kd.R_own ho
  have HC8 := Aside0.mk hc8
  have CC85 := Aside0.mk hC8
  have HO85 := Aside0.mk ho8
  have HB5 := Aside0.mk (below_then HB4.out HB4.out.size hb)
  have R05 := Aside0.mk (Kd.C_below R04.out hb)
  have R15 := Aside0.mk (Kd.C_below R14.out hb)
  have HM5 := Aside0.mk (Kd.C_below HM4.out hb)
  have HI5 := Aside0.mk (Kd.C_below HI4.out hb)
  have CC75 := Aside0.mk (Kd.C_below CC74.out hb)
  have HO75 := Aside0.mk (pw_own_below HO74.out hb)
  have HDJ : Aside0 (disj (.slice A7 (didL l0 l1).length c7) (.slice A8 (didL l0 l1).length c8)) := ⟨disj_of HO74.out HO85.out (Nat.le_refl _)⟩
  have L5 := Aside0.mk HB4.out.size
  have L3 := Aside0.mk HB3.out.size
  clear ho hb hc8 hC8 ho8 R04 R14 HM4 HI4 P4 Q4 HO74 CC74
  go_wp2_with fail
  refine (rdid_calls _ _ _ _ _ _ (didL l0 l1) _ R05.out HC0.out R15.out HC1.out HD.out).mono ?_
  rintro e w6 ⟨v9, rfl, ho, hb⟩
  obtain ⟨A9, c9, rfl, hc9, hC9⟩ := Kd.R_reads ho
  have HC9 := Aside0.mk hc9
  have CC96 := Aside0.mk hC9
  have HB6 := Aside0.mk (below_then HB5.out HB5.out.size hb)
  have R06 := Aside0.mk (Kd.C_below R05.out hb)
  have R16 := Aside0.mk (Kd.C_below R15.out hb)
  have HM6 := Aside0.mk (Kd.C_below HM5.out hb)
  have HI6 := Aside0.mk (Kd.C_below HI5.out hb)
  have CC76 := Aside0.mk (Kd.C_below CC75.out hb)
  have CC86 := Aside0.mk (Kd.C_below CC85.out hb)
  have HO76 := Aside0.mk (pw_own_below HO75.out hb)
  have HO86 := Aside0.mk (pw_own_below HO85.out hb)
  clear ho hb hc9 hC9 R05 R15 HM5 HI5 CC75 CC85 HO75 HO85
  have HLD : Aside0 ((didL l0 l1).length ≤ 1000000000000000) := ⟨by rw [didL_len]; have := HS1.out; omega⟩
  go_wp2_with fail
  refine (smithykit_SameInts.calls ((didL l0 l1).length + 1) _ _ _ _ _ _ true _ CC76.out HC7.out CC96.out HC9.out (sameb_true rfl HLD.out (Nat.lt_succ_self _))).mono ?_
  rintro e w7 ⟨rfl, hd⟩
  have hb := hd.below
  have HB7 := Aside0.mk (below_then HB6.out HB6.out.size hb)
  have R07 := Aside0.mk (Kd.C_below R06.out hb)
  have R17 := Aside0.mk (Kd.C_below R16.out hb)
  have HM7 := Aside0.mk (Kd.C_below HM6.out hb)
  have HI7 := Aside0.mk (Kd.C_below HI6.out hb)
  have CC87 := Aside0.mk (Kd.C_below CC86.out hb)
  have CC97 := Aside0.mk (Kd.C_below CC96.out hb)
  have HO77 := Aside0.mk (pw_own_below HO76.out hb)
  have HO87 := Aside0.mk (pw_own_below HO86.out hb)
  clear hd hb R06 R16 HM6 HI6 CC76 CC86 CC96 HO76 HO86
  go_wp2_with fail
  refine (smithykit_SameInts.calls ((didL l0 l1).length + 1) _ _ _ _ _ _ true _ CC87.out HC8.out CC97.out HC9.out (sameb_true rfl HLD.out (Nat.lt_succ_self _))).mono ?_
  rintro e w8 ⟨rfl, hd⟩
  have hb := hd.below
  have HB8 := Aside0.mk (below_then HB7.out HB7.out.size hb)
  have R08 := Aside0.mk (Kd.C_below R07.out hb)
  have R18 := Aside0.mk (Kd.C_below R17.out hb)
  have HM8 := Aside0.mk (Kd.C_below HM7.out hb)
  have HI8 := Aside0.mk (Kd.C_below HI7.out hb)
  have HO78 := Aside0.mk (pw_own_below HO77.out hb)
  have HO88 := Aside0.mk (pw_own_below HO87.out hb)
  clear hd hb R07 R17 HM7 HI7 CC87 CC97 HO77 HO87
  go_wp2_with fail
  refine (keptMoves_calls _ _ _ _ l0 _ R08.out HM8.out HCAP.out (by have := HS0.out; omega)).mono ?_
  rintro e w9 ⟨rfl, hb⟩
  have HB9 := Aside0.mk (below_then HB8.out HB8.out.size hb)
  have R19 := Aside0.mk (Kd.C_below R18.out hb)
  have HI9 := Aside0.mk (Kd.C_below HI8.out hb)
  have HO79 := Aside0.mk (pw_own_below HO78.out hb)
  have HO89 := Aside0.mk (pw_own_below HO88.out hb)
  clear hb R08 R18 HM8 HI8 HO78 HO88
  go_wp2_with fail
  refine (keptInts_calls _ _ _ _ l1 _ R19.out HI9.out HCAP2.out (by have := HS1.out; omega)).mono ?_
  rintro e wa ⟨rfl, hb⟩
  have HBa := Aside0.mk (below_then HB9.out HB9.out.size hb)
  have HO7a := Aside0.mk (pw_own_below HO79.out hb)
  have HO8a := Aside0.mk (pw_own_below HO89.out hb)
  clear hb R19 HI9 HO79 HO89
  obtain ⟨V7, hV7⟩ : ∃ x, x = Value.slice A7 (didL l0 l1).length c7 := ⟨_, rfl⟩
  obtain ⟨V8, hV8⟩ : ∃ x, x = Value.slice A8 (didL l0 l1).length c8 := ⟨_, rfl⟩
  have HLit : Aside0 ((wa.alloc (.cells #[.slice A7 (didL l0 l1).length c7, .slice A8 (didL l0 l1).length c8] 35)).ownsRow w.heap.size 35 1 (.slice (some ⟨wa.heap.size, 0, none⟩) 2 2) 2 [.slice A7 (didL l0 l1).length c7, .slice A8 (didL l0 l1).length c8]) :=
    ⟨World.ownsRow_lit (e := 35) (base := w.heap.size) (size := 1) wa #[.slice A7 (didL l0 l1).length c7, .slice A8 (didL l0 l1).length c8] 2 HBa.out.size (by simp [maxLen]) rfl⟩
  have HRo : Aside0 (∃ cs, RowsO (wa.alloc (.cells #[.slice A7 (didL l0 l1).length c7, .slice A8 (didL l0 l1).length c8] 35)) w.heap.size 3 1 [.slice A7 (didL l0 l1).length c7, .slice A8 (didL l0 l1).length c8] [(didL l0 l1).length, (didL l0 l1).length] cs) :=
    ⟨rowsO2 ((own_lower HO7a.out L3.out).alloc _) ((own_lower HO8a.out L5.out).alloc _)⟩
  have HNs : Aside0 (∀ j, [(didL l0 l1).length, (didL l0 l1).length].getD j 0 + 64 ≤ 17592186044416) := ⟨fun j => by
    have := HS1.out
    match j with
    | 0 => simp [didL_len]; omega
    | 1 => simp [didL_len]; omega
    | j + 2 => simp⟩
  have HSz : Aside0 (w.heap.size ≤ (wa.alloc (.cells #[.slice A7 (didL l0 l1).length c7, .slice A8 (didL l0 l1).length c8] 35)).heap.size) := ⟨by have := HBa.out.size; simp; omega⟩
  clear hV7 hV8
  go_wp2_with fail
  refine (ApartInts_calls w.heap.size _ _ [.slice A7 (didL l0 l1).length c7, .slice A8 (didL l0 l1).length c8] [(didL l0 l1).length, (didL l0 l1).length] _ (by simp) HNs.out HSz.out HLit.out HRo.out (apart2 HDJ.out)).mono ?_
  rintro e wb ⟨rfl, hb, _⟩
  have HBb := Aside0.mk ((HBa.out.alloc HBa.out.size (.cells #[.slice A7 (didL l0 l1).length c7, .slice A8 (didL l0 l1).length c8] 35)).trans hb)
  clear hb
  go_wp2
  go_ret
  exact ⟨rfl, HBb.out⟩

theorem did_walk (a0 : Option Addr) (len0 cap0 : Nat) (l0 : List S43) {w : World} (hl : l0.length = len0) (hlc : len0 ≤ cap0) (hC : Kd.C k43 w a0 len0 l0) (y0 : len0 * 16 ≤ 140737488351232)
    (a1 : Option Addr) (len1 cap1 : Nat) (z1 : List Int) (w1 : (a1 = none ∧ len1 = 0 ∧ cap1 = 0 ∧ z1 = []) ∨ ∃ x, a1 = some x ∧ len1 ≤ cap1 ∧ cap1 ≤ maxLen ∧ z1.length = cap1 ∧ (∀ i, i < z1.length → w.cell? (x.add i) = some (.int .i64 (z1.getD i 0))) ∧ ∀ n ∈ z1, (Lit.int .i64 n).wf = true) (y1 : len1 * 8 ≤ 140737488351232) :
    Calls Try.prog 4 #[.slice a0 len0 cap0, .slice a1 len1 cap1] w fun e w' => e = .returned (.bool true) ∧ Below w.heap.size w w' := by
  obtain ⟨l1, rfl, hr1, hm1, hw1, hc1⟩ := ReadsInt.ofRowC w1
  subst hl
  exact didlaw_calls _ _ _ _ _ _ _ hC hlc (Kd.C_of_reads (d := (0 : Int)) (h1 := fun _ => rfl) hr1) hc1 y0 y1
end Go.Proofs.Ytchmddbenohmnaa.Mv
