/- calls.compact, walked: a list sorted, each number once, in memory of the call's own. -/
import Derived.Test.YtligpleningglaaFx0
import Derived.Test.YtligpleningglaaWl
import Derived.Shelf.SlGeneric
import Derived.Shelf.Slices.Clone
import Derived.Shelf.Slices.CompactI
import Derived.Shelf.Sort.Plain
import Derived.Shelf.Slices.In.SortNone
import Derived.Sort.OwnSortedInts
import Derived.Lib.OwnBridge
namespace Go.Proofs
open Go.Shelf
def Try.laysClone_ren : Go.Shelf.Ren := ⟨fun | 15 => 28 | n => n, fun | 22 => 35 | 3 => 3 | 4 => 4 | n => n, fun | n => n⟩
theorem Try.laysClone : Go.Proofs.Lays2.n15 Try.prog Try.laysClone_ren := {
  mixed := by kernel_rfl
  f15 := Try.func28.trans (congrArg some (by kernel_rfl))
  t3 := Try.underlying3
  a3 := Try.isAgg3
  z3 := Try.sizeOf3
  v3 := Try.zeroValue3
  t4 := Try.underlying4
  a4 := Try.isAgg4
  z4 := Try.sizeOf4
  v4 := Try.zeroValue4
  t22 := Try.underlying35
  a22 := Try.isAgg35
  z22 := Try.sizeOf35
  v22 := Try.zeroValue35
  i3 := by kernel_rfl }
def Try.laysCompact_ren : Go.Shelf.Ren := ⟨fun | 20 => 30 | n => n, fun | 22 => 35 | 3 => 3 | 4 => 4 | 0 => 0 | n => n, fun | n => n⟩
theorem Try.laysCompact : Go.Proofs.Lays2.n20 Try.prog Try.laysCompact_ren := {
  mixed := by kernel_rfl
  f20 := Try.func30.trans (congrArg some (by kernel_rfl))
  t0 := Try.underlying0
  a0 := Try.isAgg0
  z0 := Try.sizeOf0
  v0 := Try.zeroValue0
  t3 := Try.underlying3
  a3 := Try.isAgg3
  z3 := Try.sizeOf3
  v3 := Try.zeroValue3
  t4 := Try.underlying4
  a4 := Try.isAgg4
  z4 := Try.sizeOf4
  v4 := Try.zeroValue4
  t22 := Try.underlying35
  a22 := Try.isAgg35
  z22 := Try.sizeOf35
  v22 := Try.zeroValue35
  i3 := by kernel_rfl }
def Try.laysSort_ren : Go.Shelf.Ren := ⟨fun | 189 => 29 | 125 => 35 | 257 => 34 | 128 => 45 | 129 => 46 | 294 => 36 | 295 => 37 | 296 => 38 | 297 => 39 | 298 => 40 | 299 => 41 | 216 => 42 | 300 => 43 | 301 => 44 | 328 => 47 | 329 => 48 | 330 => 49 | 331 => 50 | 332 => 51 | 215 => 52 | 343 => 53 | n => n, fun | 28 => 35 | 3 => 3 | 46 => 36 | 0 => 0 | 51 => 88 | 53 => 67 | 4 => 4 | 183 => 80 | 182 => 79 | 131 => 85 | 5 => 5 | 9 => 9 | 218 => 90 | 222 => 52 | 228 => 96 | 229 => 97 | n => n, fun | n => n⟩
theorem Try.laysSort : Go.Proofs.Lays.n189 Try.prog Try.laysSort_ren := {
  mixed := by kernel_rfl
  f125 := Try.func35.trans (congrArg some (by kernel_rfl))
  f128 := Try.func45.trans (congrArg some (by kernel_rfl))
  f129 := Try.func46.trans (congrArg some (by kernel_rfl))
  f189 := Try.func29.trans (congrArg some (by kernel_rfl))
  f215 := Try.func52.trans (congrArg some (by kernel_rfl))
  f216 := Try.func42.trans (congrArg some (by kernel_rfl))
  f257 := Try.func34.trans (congrArg some (by kernel_rfl))
  f294 := Try.func36.trans (congrArg some (by kernel_rfl))
  f295 := Try.func37.trans (congrArg some (by kernel_rfl))
  f296 := Try.func38.trans (congrArg some (by kernel_rfl))
  f297 := Try.func39.trans (congrArg some (by kernel_rfl))
  f298 := Try.func40.trans (congrArg some (by kernel_rfl))
  f299 := Try.func41.trans (congrArg some (by kernel_rfl))
  f300 := Try.func43.trans (congrArg some (by kernel_rfl))
  f301 := Try.func44.trans (congrArg some (by kernel_rfl))
  f328 := Try.func47.trans (congrArg some (by kernel_rfl))
  f329 := Try.func48.trans (congrArg some (by kernel_rfl))
  f330 := Try.func49.trans (congrArg some (by kernel_rfl))
  f331 := Try.func50.trans (congrArg some (by kernel_rfl))
  f332 := Try.func51.trans (congrArg some (by kernel_rfl))
  f343 := Try.func53.trans (congrArg some (by kernel_rfl))
  t0 := Try.underlying0
  a0 := Try.isAgg0
  z0 := Try.sizeOf0
  v0 := Try.zeroValue0
  t3 := Try.underlying3
  a3 := Try.isAgg3
  z3 := Try.sizeOf3
  v3 := Try.zeroValue3
  t4 := Try.underlying4
  a4 := Try.isAgg4
  z4 := Try.sizeOf4
  v4 := Try.zeroValue4
  t5 := Try.underlying5
  a5 := Try.isAgg5
  z5 := Try.sizeOf5
  v5 := Try.zeroValue5
  t9 := Try.underlying9
  a9 := Try.isAgg9
  z9 := Try.sizeOf9
  v9 := Try.zeroValue9
  t28 := Try.underlying35
  a28 := Try.isAgg35
  z28 := Try.sizeOf35
  v28 := Try.zeroValue35
  t46 := Try.underlying36
  a46 := Try.isAgg36
  z46 := Try.sizeOf36
  v46 := Try.zeroValue36
  t51 := Try.underlying88
  a51 := Try.isAgg88
  z51 := Try.sizeOf88
  v51 := Try.zeroValue88
  t53 := Try.underlying67
  a53 := Try.isAgg67
  z53 := Try.sizeOf67
  v53 := Try.zeroValue67
  t131 := Try.underlying85
  a131 := Try.isAgg85
  z131 := Try.sizeOf85
  v131 := Try.zeroValue85
  t182 := Try.underlying79
  a182 := Try.isAgg79
  z182 := Try.sizeOf79
  v182 := Try.zeroValue79
  t183 := Try.underlying80
  a183 := Try.isAgg80
  z183 := Try.sizeOf80
  v183 := Try.zeroValue80
  t218 := Try.underlying90
  a218 := Try.isAgg90
  z218 := Try.sizeOf90
  v218 := Try.zeroValue90
  t222 := Try.underlying52
  a222 := Try.isAgg52
  z222 := Try.sizeOf52
  v222 := Try.zeroValue52
  t228 := Try.underlying96
  a228 := Try.isAgg96
  z228 := Try.sizeOf96
  v228 := Try.zeroValue96
  t229 := Try.underlying97
  a229 := Try.isAgg97
  z229 := Try.sizeOf97
  v229 := Try.zeroValue97 }
end Go.Proofs

namespace Go.Proofs.Ytligpleningglaa.Cw
open Go Go.RowKit Go.Shelf Go.Sort Go.Proofs.Ytligpleningglaa.Tarjan Go.Proofs.YtligpleningglaaW.PrintWords Go.Proofs.YtligpleningglaaW.PrintLast Go.Proofs.YtligpleningglaaW.PrintMore Go.Proofs.Ytligpleningglaa.F
set_option linter.unusedVariables false
set_option linter.unusedSimpArgs false
theorem sort_own (W : World) (B g cap : Nat) (xs : List Int) (ho : W.ownsRow B 3 1 (.slice (some ⟨g, 0, none⟩) xs.length cap) xs.length (xs.map (Value.int .i64))) (hl : xs.length < 4611686018427387904) (hB : B ≤ W.heap.size) :
    Calls Try.prog 29 #[.slice (some ⟨g, 0, none⟩) xs.length cap] W fun e w' => e = .returned (.tuple #[]) ∧ w'.ownsRow B 3 1 (.slice (some ⟨g, 0, none⟩) xs.length cap) xs.length ((sortedZ xs).map (Value.int .i64)) ∧ ∀ w0, Below B w0 W → Below B w0 w' := by
  rcases ho.2 with ⟨h0, _⟩ | ⟨g', cap', cur, hv, hb, hg, hn, hm, hs, ht⟩
  · cases h0
  · injection hv with h1 _ h3
    injection h1 with h1
    injection h1 with h1
    subst h1 h3
    have hlt : g < W.heap.size := (Array.getElem?_eq_some_iff.1 hg).1
    have hH : Holds (Value.int .i64) W g 0 xs.toArray := holds_of_blockI hg (by rw [Nat.mul_one] at ht; exact ht)
    refine (Any.slices_Sort_int (P := Try.prog) (ρ := Try.laysSort_ren) Try.laysSort g 0 cap xs W hH hlt hl).mono ?_
    rintro e w' ⟨rfl, n, os, rfl⟩
    exact ⟨rfl, ownsRow_sortedI (n := n) (os := os) (ts := sortedZ xs) (sortedZ_len xs) hb hg hn hm hs, fun w0 h0 => h0.grown (grownBy_sortedI _) hB (fun k hk => by cases hk; exact hb)⟩
theorem compact_own (W : World) (B g cap : Nat) (ys : List Int) (ho : W.ownsRow B 3 1 (.slice (some ⟨g, 0, none⟩) ys.length cap) ys.length (ys.map (Value.int .i64))) (hl : ys.length < 4611686018427387904) :
    Calls Try.prog 30 #[.slice (some ⟨g, 0, none⟩) ys.length cap] W fun e w' => ∃ v', e = .returned v' ∧ w'.ownsRow B 3 1 v' (Lib.compact ys).length ((Lib.compact ys).map (Value.int .i64)) ∧ Below B W w' := by
  obtain ⟨g', cap', he, hB, hlt, _, hnc, hlen, hH⟩ := Lib.holds_of_ownsRow ho (by simp)
  injection he with he _ hcap
  injection he with he
  injection he with he
  subst he; subst hcap
  have hc := Any.slices_Compact_int (P := Try.prog) (ρ := Try.laysCompact_ren) Try.laysCompact g 0 cap ys W hH (by omega) (by omega)
  refine hc.mono ?_
  rintro e w' ⟨rfl, q, rfl⟩
  have hl := Lib.compact_length_le ys
  refine ⟨_, rfl, ?_, Lib.below_putRow (Below.refl _ _) hB⟩
  have h2 := Lib.ownsRow_putRow (q := q) (k := (Lib.compact ys).length) (ys := Lib.compact ys ++ List.replicate (ys.length - (Lib.compact ys).length) 0) ho (by simp; omega) hl
  rw [List.take_left] at h2
  exact h2
set_option maxHeartbeats 1000000 in
set_option maxRecDepth 100000 in
theorem compact_from (w : World) (A : Option Addr) (c : Nat) (xs : List Int) (hbig : xs.length * 8 ≤ 140737488355328)
    (hcl : Calls Try.prog 28 #[.slice A xs.length c] w fun e w' => ∃ v', e = .returned v' ∧ w'.ownsRow w.heap.size 3 1 v' xs.length (xs.map (Value.int .i64)) ∧ v' ≠ .slice none 0 0 ∧ Below w.heap.size w w') :
    Calls Try.prog 22 #[.slice A xs.length c] w fun e w' => ∃ v', e = .returned v' ∧ w'.ownsRow w.heap.size 3 1 v' (cmpZ xs).length ((cmpZ xs).map (Value.int .i64)) ∧ Below w.heap.size w w' := by
  have SRT := Aside0.mk (fun W B g cap => sort_own W B g cap xs)
  have CMP := Aside0.mk (fun W B g cap => compact_own W B g cap (sortedZ xs))
  have HB := Aside0.mk hbig
  have CL := Aside0.mk hcl
  clear hbig hcl
  go_enter Try.func22, Try.ntmps22
  go_wp2_with (first
    | (go_at_call 28; refine CL.out.mono ?_; rintro e w1 ⟨v1, rfl, hown, hnn, hbel⟩
       obtain ⟨g, cap, rfl, hbg, _, _, hcm, hlen, hH⟩ := Lib.holds_of_ownsRow hown hnn
       have HO := Aside0.mk hown
       have HW := Aside0.mk hbel
       clear hown hbel hH hnn hlen)
    | (go_at_call 29; refine (SRT.out w1 w.heap.size g cap HO.out (by have := HB.out; omega) HW.out.size).mono ?_; rintro e w2 ⟨rfl, ho2, hb2⟩
       have HO2 := Aside0.mk ho2
       have HW2 := Aside0.mk (hb2 w HW.out)
       clear ho2 hb2)
    | (go_at_call 30; refine (show Calls Try.prog 30 #[.slice (some ⟨g, 0, none⟩) xs.length cap] w2 _ by
         have h3 := CMP.out w2 w.heap.size g cap (by rw [sortedZ_len]; exact HO2.out) (by rw [sortedZ_len]; have := HB.out; omega)
         rw [sortedZ_len] at h3
         exact h3).mono ?_; rintro e w3 ⟨v3, rfl, ho3, hb3⟩
       have HO3 := Aside0.mk ho3
       have HW3 := Aside0.mk (HW2.out.trans hb3)
       clear ho3 hb3))
  go_ret
  exact ⟨_, rfl, HO3.out, HW3.out⟩
set_option maxHeartbeats 1000000 in
set_option maxRecDepth 100000 in
theorem compact_nil (w : World) (c : Nat) :
    Calls Try.prog 22 #[.slice none 0 c] w fun e w' => e = .returned (.slice none 0 0) ∧ w' = w := by
  go_enter Try.func22, Try.ntmps22
  go_wp2_with (first
    | (go_at_call 28; refine (Any.slices_Clone_int_nil (P := Try.prog) (ρ := Try.laysClone_ren) Try.laysClone 0 c _).mono ?_; rintro e w' ⟨rfl, rfl⟩)
    | (go_at_call 29; refine (Any.slices_Sort_int_none (P := Try.prog) (ρ := Try.laysSort_ren) Try.laysSort none 0 _).mono ?_; rintro e w' ⟨rfl, rfl⟩)
    | (go_at_call 30; refine (Any.slices_Compact_int_empty (P := Try.prog) (ρ := Try.laysCompact_ren) Try.laysCompact none 0 _).mono ?_; rintro e w' ⟨rfl, rfl⟩))
  go_ret
  exact ⟨rfl, rfl⟩
theorem row_plain {w : World} {ad : Addr} {xs : List Int} (h : Kd.C (Kd.int .i64) w (some ad) xs.length xs) (hn : 0 < xs.length) : ad = ⟨ad.block, ad.off, none⟩ ∧ ∀ j, j < xs.length → w.cell? ⟨ad.block, ad.off + j, none⟩ = some (.int .i64 (xs.getD j 0)) := by
  have hsp : ad.spot = none := by
    obtain ⟨ad', e, hc⟩ := Kd.at_int h 0 (by omega) (by omega)
    cases e
    have hz : ad.add (0 : Int).toNat = ad := rfl
    rw [hz] at hc
    unfold World.cell? at hc
    split at hc
    · split at hc
      · cases hc
      · rename_i hs
        cases hsp : ad.spot with
        | none => rfl
        | some q => rw [hsp] at hs; simp at hs
    · cases hc
  have he : ad = ⟨ad.block, ad.off, none⟩ := by cases ad; simp at hsp; subst hsp; rfl
  refine ⟨he, fun j hj => ?_⟩
  obtain ⟨ad', e, hc⟩ := Kd.at_int h j (by omega) (by omega)
  cases e
  rw [he] at hc
  simp only [Int.toNat_natCast] at hc
  have ha : (⟨ad.block, ad.off, none⟩ : Addr).add j = ⟨ad.block, ad.off + j, none⟩ := by
    unfold Addr.add
    by_cases e : j = 0
    · subst e; rfl
    · rw [if_neg e]
  rw [ha] at hc
  rw [hc]
  unfold YtligpleningglaaW.PrintWords.rd
  rw [Int.toNat_natCast]
theorem compact_calls (w : World) (A : Option Addr) (c : Nat) (xs : List Int) (h : Kd.C (Kd.int .i64) w A xs.length xs) (hc : xs.length ≤ c) (hbig : xs.length ≤ 17592186044416) :
    Calls Try.prog 22 #[.slice A xs.length c] w fun e w' => ∃ v', e = .returned v' ∧ w'.ownsRow w.heap.size 3 1 v' (cmpZ xs).length ((cmpZ xs).map (Value.int .i64)) ∧ Below w.heap.size w w' := by
  rcases Nat.eq_zero_or_pos xs.length with h0 | hpos
  · obtain rfl : xs = [] := List.length_eq_zero_iff.1 h0
    cases A with
    | none =>
      refine (compact_nil w c).mono ?_
      rintro e w' ⟨rfl, rfl⟩
      have h0 : cmpZ [] = [] := List.eq_nil_iff_forall_not_mem.2 (fun x hx => by rw [cmpZ_mem] at hx; cases hx)
      rw [h0]
      exact ⟨_, rfl, World.ownsRow_nil _ _ _ _, Below.refl _ _⟩
    | some ad =>
      exact compact_from w (some ad) c [] (by simp) (Any.slices_Clone_int_zero (P := Try.prog) (ρ := Try.laysClone_ren) Try.laysClone ad c w)
  · cases A with
    | none =>
      obtain ⟨ad, e, _⟩ := Kd.at_int h 0 (by omega) (by omega)
      cases e
    | some ad =>
      obtain ⟨he, hcell⟩ := row_plain h hpos
      refine compact_from w (some ad) c xs (by omega) ?_
      rw [he]
      have hcl := Any.slices_Clone_int (P := Try.prog) (ρ := Try.laysClone_ren) Try.laysClone ad.block ad.off xs.length c xs w (Nat.le_refl _) (by omega) hcell
      rw [List.take_length] at hcl
      exact hcl
end Go.Proofs.Ytligpleningglaa.Cw
