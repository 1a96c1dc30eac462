/- Texts of this proof, joined in build order: Fx0, Sml, Smc, Smd, Lit. -/
import Derived.Test.YtanhnfhpajaolaaDoorProg
import Derived.Below
import Derived.Deep.Draws
import Derived.Deep.AppendLies
import Derived.Maps.AppendAt
import Derived.OwnWalk
import Derived.Laws.BytesArg
import Derived.Laws.MakeOwn
import Derived.Laws.OwnMore
import Derived.Deep.OwnRows
import Derived.Tactics
import Derived.Lib.ConvBytes
import Derived.Laws.Slices
import Derived.WalkKit
import Derived.KernelRfl
import Derived.RowKit3
import Derived.Deep.LoopGhost
import Derived.Deep.QuietTactic
import Derived.BigQuiet
import Derived.WideLaws
import Derived.Deep.DeepCutAuto
import Derived.Deep.CutBlock
import Derived.Deep.RegionHeld3
import Derived.Laws.Rows
import Derived.Lib.AppendStr
import Derived.ArgAppend
import Derived.Laws.IdiomCopy
import Derived.OrdersHeld
import Derived.Laws.BitsLemmas
import Derived.RowKit
import Derived.Test.YtanhnfhpajaolaaDoorWWords
import Derived.Test.YtanhnfhpajaolaaDoorWLast
import Derived.Test.YtanhnfhpajaolaaDoorWTab
import Derived.Test.YtanhnfhpajaolaaDoorWFour
import Derived.Test.YtanhnfhpajaolaaDoorWQPut
import Derived.Test.YtanhnfhpajaolaaDoorWApart
import Derived.Test.YtanhnfhpajaolaaDoorWArr
import Derived.Test.YtanhnfhpajaolaaDoorWZeros
import Derived.Test.YtanhnfhpajaolaaDoorWFoot
import Derived.Test.YtanhnfhpajaolaaDoorWKept
import Derived.Test.YtanhnfhpajaolaaDoorWShare
import Derived.Test.YtanhnfhpajaolaaDoorWN
import Derived.Test.YtanhnfhpajaolaaDoorWFootNe
import Derived.Test.YtanhnfhpajaolaaDoorWAt
import Derived.Test.YtanhnfhpajaolaaDoorWEqStruct
import Derived.Test.YtanhnfhpajaolaaDoorWRepsOne
import Derived.Test.YtanhnfhpajaolaaDoorWInv
import Derived.Test.YtanhnfhpajaolaaDoorWInvWords
import Derived.Test.YtanhnfhpajaolaaDoorWGuard
import Derived.Test.YtanhnfhpajaolaaDoorWNEv
import Derived.Test.YtanhnfhpajaolaaDoorWMore
-- printed by px2.py, a program of this session, by way of the kit's print; Lean checks it
namespace Go.Proofs.YtanhnfhpajaolaaDoor.F
open Go.RowKit Go.Proofs.YtanhnfhpajaolaaDoorW.PrintWords Go.Proofs.YtanhnfhpajaolaaDoorW.PrintLast Go.Proofs.YtanhnfhpajaolaaDoorW.PrintMore
attribute [local go_sem] max2_int min2_int max_two min_two max_three min_three max_four min_four   -- for this text's walks alone
set_option linter.unusedVariables false
set_option linter.unusedSimpArgs false



def errW : Option Int → Value
  | none => .nilIface
  | some c => .iface 0 (.int .i64 c)
theorem errW_none : errW none = .nilIface := rfl
theorem errW_some (c : Int) : errW (some c) = .iface 0 (.int .i64 c) := rfl

theorem info3 : (Tryd.prog.info? 3).map (fun i => (i.zero, i.size, i.bytes)) = some (some (.int .i64 0), 1, 8) := by kernel_rfl
theorem info4 : (Tryd.prog.info? 4).map (fun i => (i.zero, i.size, i.bytes)) = some (some (.bool false), 1, 1) := by kernel_rfl
theorem info22 : (Tryd.prog.info? 22).map (fun i => (i.zero, i.size, i.bytes)) = some (some (.slice none 0 0), 1, 24) := by kernel_rfl
theorem info23 : (Tryd.prog.info? 23).map (fun i => (i.zero, i.size, i.bytes)) = some (some (.int .u8 0), 1, 1) := by kernel_rfl
theorem info28 : (Tryd.prog.info? 28).map (fun i => (i.zero, i.size, i.bytes)) = some (some (.agg #[(.string ⟨#[]⟩), (.slice none 0 0), (.int .u8 0), (.slice none 0 0), (.slice none 0 0), (.slice none 0 0)]), 6, 120) := by kernel_rfl
theorem info43 : (Tryd.prog.info? 43).map (fun i => (i.zero, i.size, i.bytes)) = some (some (.agg #[(.slice none 0 0), (.int .u8 0), (.int .i64 0), (.int .i64 0), (.int .i64 0), (.int .u8 0)]), 6, 64) := by kernel_rfl
theorem info47 : (Tryd.prog.info? 47).map (fun i => (i.zero, i.size, i.bytes)) = some (some (.int .u64 0), 1, 8) := by kernel_rfl
theorem info49 : (Tryd.prog.info? 49).map (fun i => (i.zero, i.size, i.bytes)) = some (some (.agg #[(.int .u8 0), (.int .u8 0), (.int .i64 0), (.slice none 0 0), (.int .u64 0), (.int .i64 0)]), 6, 56) := by kernel_rfl
theorem info84 : (Tryd.prog.info? 84).map (fun i => (i.zero, i.size, i.bytes)) = some (some (.agg #[(.int .i64 0), (.int .i64 0), (.int .i64 0)]), 3, 24) := by kernel_rfl
theorem info113 : (Tryd.prog.info? 113).map (fun i => (i.zero, i.size, i.bytes)) = some (some (.agg #[(.int .u8 0), (.int .i64 0)]), 2, 16) := by kernel_rfl
-- the values' own types
def rd_L2 (xs : List (List Int)) (i : Int) : (List Int) := xs.getD i.toNat ([] : List Int)
theorem at_L2 {w : World} {A : Option Addr} {n : Nat} {xs : List (List Int)} (h : Kd.C (Kd.slice 3 (Kd.int .i64)) w A n xs) (i : Int) (h0 : 0 ≤ i) (h1 : i < n) : ∃ ad A0 c0, A = some ad ∧ w.cell? (ad.add i.toNat) = some (.slice A0 (rd_L2 xs i).length c0) ∧ (rd_L2 xs i).length ≤ c0 ∧ (Kd.int .i64).C w A0 (rd_L2 xs i).length (rd_L2 xs i) := by
  obtain ⟨ad, c, e, _, hK, hc0⟩ := Kd.C_get h ([] : List Int) i h0 h1
  have hc : ∀ j u, c[j]? = some u → w.cell? (ad.add (i.toNat * 1 + j)) = some u := hc0
  obtain ⟨A0, c0, rfl, l0, g0⟩ := hK
  exact ⟨ad, A0, c0, e, by have hq := hc 0 _ rfl; rwa [Nat.mul_one, Nat.add_zero] at hq, l0, g0⟩

/-! #### struct type 49 -/
structure S49 where
  f0 : Int
  f1 : Int
  f2 : Int
  f3 : (List Int)
  f4 : Int
  f5 : Int
def z49 : S49 := ⟨(0 : Int), (0 : Int), (0 : Int), ([] : List Int), (0 : Int), (0 : Int)⟩
def k49 : Kd S49 := Kd.iso (Kd.pair (Kd.int .u8) (Kd.pair (Kd.int .u8) (Kd.pair (Kd.int .i64) (Kd.pair (Kd.slice 3 (Kd.int .i64)) (Kd.pair (Kd.int .u64) (Kd.int .i64)))))) (fun x : S49 => (x.f0, x.f1, x.f2, x.f3, x.f4, x.f5))
theorem k49_open {w : World} {x : S49} {cs : List Value} (h : k49.K w x cs) : ∃ A3 c3, cs = [.int .u8 x.f0, .int .u8 x.f1, .int .i64 x.f2, .slice A3 x.f3.length c3, .int .u64 x.f4, .int .i64 x.f5] ∧ x.f3.length ≤ c3 ∧ (Kd.int .i64).C w A3 x.f3.length x.f3 := by
  obtain ⟨_, _, rfl, rfl, ⟨_, _, rfl, rfl, ⟨_, _, rfl, rfl, ⟨_, _, rfl, ⟨A3, c3, rfl, l3, g3⟩, ⟨_, _, rfl, rfl, rfl⟩⟩⟩⟩⟩ := h
  exact ⟨A3, c3, rfl, l3, g3⟩
theorem k49_openM {w : World} {base : Nat} {ok : Nat → Prop} {x : S49} {cs : List Value} (h : k49.M w base ok x cs) : ∃ v3, cs = [.int .u8 x.f0, .int .u8 x.f1, .int .i64 x.f2, v3, .int .u64 x.f4, .int .i64 x.f5] ∧ (Kd.int .i64).R 3 w base ok v3 x.f3 := by
  obtain ⟨_, _, rfl, rfl, ⟨_, _, rfl, rfl, ⟨_, _, rfl, rfl, ⟨_, _, rfl, ⟨v3, rfl, g3⟩, ⟨_, _, rfl, rfl, rfl⟩⟩⟩⟩⟩ := h
  exact ⟨v3, rfl, g3⟩
theorem k49_mk (w : World) (x : S49) {A3 : Option Addr} {c3 : Nat} (l3 : x.f3.length ≤ c3) (g3 : (Kd.int .i64).C w A3 x.f3.length x.f3) : k49.K w x [.int .u8 x.f0, .int .u8 x.f1, .int .i64 x.f2, .slice A3 x.f3.length c3, .int .u64 x.f4, .int .i64 x.f5] := ⟨[.int .u8 x.f0], [.int .u8 x.f1, .int .i64 x.f2, .slice A3 x.f3.length c3, .int .u64 x.f4, .int .i64 x.f5], rfl, rfl, ⟨[.int .u8 x.f1], [.int .i64 x.f2, .slice A3 x.f3.length c3, .int .u64 x.f4, .int .i64 x.f5], rfl, rfl, ⟨[.int .i64 x.f2], [.slice A3 x.f3.length c3, .int .u64 x.f4, .int .i64 x.f5], rfl, rfl, ⟨[.slice A3 x.f3.length c3], [.int .u64 x.f4, .int .i64 x.f5], rfl, ⟨A3, c3, rfl, l3, g3⟩, ⟨[.int .u64 x.f4], [.int .i64 x.f5], rfl, rfl, rfl⟩⟩⟩⟩⟩
theorem k49_mkM (w : World) (base : Nat) (ok : Nat → Prop) (x : S49) {v3 : Value} (g3 : (Kd.int .i64).R 3 w base ok v3 x.f3) : k49.M w base ok x [.int .u8 x.f0, .int .u8 x.f1, .int .i64 x.f2, v3, .int .u64 x.f4, .int .i64 x.f5] := ⟨[.int .u8 x.f0], [.int .u8 x.f1, .int .i64 x.f2, v3, .int .u64 x.f4, .int .i64 x.f5], rfl, rfl, ⟨[.int .u8 x.f1], [.int .i64 x.f2, v3, .int .u64 x.f4, .int .i64 x.f5], rfl, rfl, ⟨[.int .i64 x.f2], [v3, .int .u64 x.f4, .int .i64 x.f5], rfl, rfl, ⟨[v3], [.int .u64 x.f4, .int .i64 x.f5], rfl, ⟨v3, rfl, g3⟩, ⟨[.int .u64 x.f4], [.int .i64 x.f5], rfl, rfl, rfl⟩⟩⟩⟩⟩
theorem k49_openF {W : World} {ok : Nat → Prop} {x : S49} {cs : List Value} (h : Kd.FK k49 W ok x cs) : ∃ A3 c3, cs = [.int .u8 x.f0, .int .u8 x.f1, .int .i64 x.f2, .slice A3 x.f3.length c3, .int .u64 x.f4, .int .i64 x.f5] ∧ x.f3.length ≤ c3 ∧ Kd.F (Kd.int .i64) W ok A3 x.f3.length x.f3 := by
  obtain ⟨A3, c3, rfl, l3, _⟩ := k49_open (Kd.FK_now h)
  exact ⟨A3, c3, rfl, l3, (fun W' hW => by obtain ⟨A3_, c3_, he, l3_, g3_⟩ := k49_open (h W' hW); injection (Option.some.inj (show some (Value.slice A3 x.f3.length c3) = some (Value.slice A3_ x.f3.length c3_) from congrArg (fun l => l[3]?) he)) with ha_ _ _; rw [ha_]; exact g3_)⟩
theorem k49_mkF (W : World) (ok : Nat → Prop) (x : S49) {A3 : Option Addr} {c3 : Nat} (l3 : x.f3.length ≤ c3) (g3 : Kd.F (Kd.int .i64) W ok A3 x.f3.length x.f3) : Kd.FK k49 W ok x [.int .u8 x.f0, .int .u8 x.f1, .int .i64 x.f2, .slice A3 x.f3.length c3, .int .u64 x.f4, .int .i64 x.f5] := fun W2 hW => k49_mk W2 x l3 (g3 W2 hW)
def rd_T49 (xs : List S49) (i : Int) : S49 := xs.getD i.toNat z49
theorem at_T49 {w : World} {A : Option Addr} {n : Nat} {xs : List S49} (h : Kd.C k49 w A n xs) (i : Int) (h0 : 0 ≤ i) (h1 : i < n) : ∃ ad A3 c3, A = some ad ∧ w.cell? (ad.add (i.toNat * 6)) = some (.int .u8 (rd_T49 xs i).f0) ∧ w.cell? ⟨(ad.add (i.toNat * 6)).block, (ad.add (i.toNat * 6)).off + 1, none⟩ = some (.int .u8 (rd_T49 xs i).f1) ∧ w.cell? ⟨(ad.add (i.toNat * 6)).block, (ad.add (i.toNat * 6)).off + 2, none⟩ = some (.int .i64 (rd_T49 xs i).f2) ∧ w.cell? ⟨(ad.add (i.toNat * 6)).block, (ad.add (i.toNat * 6)).off + 3, none⟩ = some (.slice A3 (rd_T49 xs i).f3.length c3) ∧ w.cell? ⟨(ad.add (i.toNat * 6)).block, (ad.add (i.toNat * 6)).off + 4, none⟩ = some (.int .u64 (rd_T49 xs i).f4) ∧ w.cell? ⟨(ad.add (i.toNat * 6)).block, (ad.add (i.toNat * 6)).off + 5, none⟩ = some (.int .i64 (rd_T49 xs i).f5) ∧ (rd_T49 xs i).f3.length ≤ c3 ∧ (Kd.int .i64).C w A3 (rd_T49 xs i).f3.length (rd_T49 xs i).f3 := by
  obtain ⟨ad, c, e, _, hK, hc0⟩ := Kd.C_get h z49 i h0 h1
  have hc : ∀ j u, c[j]? = some u → w.cell? (ad.add (i.toNat * 6 + j)) = some u := hc0
  obtain ⟨A3, c3, rfl, l3, g3⟩ := k49_open hK
  exact ⟨ad, A3, c3, e, hc 0 _ rfl, by rw [← add_field _ _ 1 (by omega)]; exact hc 1 _ rfl, by rw [← add_field _ _ 2 (by omega)]; exact hc 2 _ rfl, by rw [← add_field _ _ 3 (by omega)]; exact hc 3 _ rfl, by rw [← add_field _ _ 4 (by omega)]; exact hc 4 _ rfl, by rw [← add_field _ _ 5 (by omega)]; exact hc 5 _ rfl, l3, g3⟩

def rd_L5 (xs : List (List S49)) (i : Int) : (List S49) := xs.getD i.toNat ([] : List S49)
theorem at_L5 {w : World} {A : Option Addr} {n : Nat} {xs : List (List S49)} (h : Kd.C (Kd.slice 49 k49) w A n xs) (i : Int) (h0 : 0 ≤ i) (h1 : i < n) : ∃ ad A0 c0, A = some ad ∧ w.cell? (ad.add i.toNat) = some (.slice A0 (rd_L5 xs i).length c0) ∧ (rd_L5 xs i).length ≤ c0 ∧ k49.C w A0 (rd_L5 xs i).length (rd_L5 xs i) := by
  obtain ⟨ad, c, e, _, hK, hc0⟩ := Kd.C_get h ([] : List S49) i h0 h1
  have hc : ∀ j u, c[j]? = some u → w.cell? (ad.add (i.toNat * 1 + j)) = some u := hc0
  obtain ⟨A0, c0, rfl, l0, g0⟩ := hK
  exact ⟨ad, A0, c0, e, by have hq := hc 0 _ rfl; rwa [Nat.mul_one, Nat.add_zero] at hq, l0, g0⟩

/-! #### struct type 37 -/
structure S37 where
  f0 : Int
  f1 : Int
def z37 : S37 := ⟨(0 : Int), (0 : Int)⟩
def k37 : Kd S37 := Kd.iso (Kd.pair (Kd.int .i64) (Kd.int .i64)) (fun x : S37 => (x.f0, x.f1))
theorem k37_open {w : World} {x : S37} {cs : List Value} (h : k37.K w x cs) : cs = [.int .i64 x.f0, .int .i64 x.f1] := by
  obtain ⟨_, _, rfl, rfl, rfl⟩ := h
  exact rfl
theorem k37_openM {w : World} {base : Nat} {ok : Nat → Prop} {x : S37} {cs : List Value} (h : k37.M w base ok x cs) : cs = [.int .i64 x.f0, .int .i64 x.f1] := by
  obtain ⟨_, _, rfl, rfl, rfl⟩ := h
  exact rfl
theorem k37_mk (w : World) (x : S37)  : k37.K w x [.int .i64 x.f0, .int .i64 x.f1] := ⟨[.int .i64 x.f0], [.int .i64 x.f1], rfl, rfl, rfl⟩
theorem k37_mkM (w : World) (base : Nat) (ok : Nat → Prop) (x : S37)  : k37.M w base ok x [.int .i64 x.f0, .int .i64 x.f1] := ⟨[.int .i64 x.f0], [.int .i64 x.f1], rfl, rfl, rfl⟩
theorem k37_mkF (W : World) (ok : Nat → Prop) (x : S37) : Kd.FK k37 W ok x [.int .i64 x.f0, .int .i64 x.f1] := fun W2 _ => k37_mk W2 x
def rd_T37 (xs : List S37) (i : Int) : S37 := xs.getD i.toNat z37
theorem at_T37 {w : World} {A : Option Addr} {n : Nat} {xs : List S37} (h : Kd.C k37 w A n xs) (i : Int) (h0 : 0 ≤ i) (h1 : i < n) : ∃ ad , A = some ad ∧ w.cell? (ad.add (i.toNat * 2)) = some (.int .i64 (rd_T37 xs i).f0) ∧ w.cell? ⟨(ad.add (i.toNat * 2)).block, (ad.add (i.toNat * 2)).off + 1, none⟩ = some (.int .i64 (rd_T37 xs i).f1) := by
  obtain ⟨ad, c, e, _, hK, hc0⟩ := Kd.C_get h z37 i h0 h1
  have hc : ∀ j u, c[j]? = some u → w.cell? (ad.add (i.toNat * 2 + j)) = some u := hc0
  obtain rfl := k37_open hK
  exact ⟨ad, e, hc 0 _ rfl, by rw [← add_field _ _ 1 (by omega)]; exact hc 1 _ rfl⟩

/-! #### struct type 40 -/
structure S40 where
  f0 : Int
  f1 : Int
  f2 : S37
  f3 : Int
def z40 : S40 := ⟨(0 : Int), (0 : Int), z37, (0 : Int)⟩
def k40 : Kd S40 := Kd.iso (Kd.pair (Kd.int .u8) (Kd.pair (Kd.int .i64) (Kd.pair k37 (Kd.int .u8)))) (fun x : S40 => (x.f0, x.f1, x.f2, x.f3))
theorem k40_open {w : World} {x : S40} {cs : List Value} (h : k40.K w x cs) : cs = [.int .u8 x.f0, .int .i64 x.f1, .int .i64 x.f2.f0, .int .i64 x.f2.f1, .int .u8 x.f3] := by
  obtain ⟨_, _, rfl, rfl, ⟨_, _, rfl, rfl, ⟨_, _, rfl, s2, rfl⟩⟩⟩ := h
  obtain rfl := k37_open s2
  exact rfl
theorem k40_openM {w : World} {base : Nat} {ok : Nat → Prop} {x : S40} {cs : List Value} (h : k40.M w base ok x cs) : cs = [.int .u8 x.f0, .int .i64 x.f1, .int .i64 x.f2.f0, .int .i64 x.f2.f1, .int .u8 x.f3] := by
  obtain ⟨_, _, rfl, rfl, ⟨_, _, rfl, rfl, ⟨_, _, rfl, s2, rfl⟩⟩⟩ := h
  obtain rfl := k37_openM s2
  exact rfl
theorem k40_mk (w : World) (x : S40)  : k40.K w x [.int .u8 x.f0, .int .i64 x.f1, .int .i64 x.f2.f0, .int .i64 x.f2.f1, .int .u8 x.f3] := ⟨[.int .u8 x.f0], [.int .i64 x.f1, .int .i64 x.f2.f0, .int .i64 x.f2.f1, .int .u8 x.f3], rfl, rfl, ⟨[.int .i64 x.f1], [.int .i64 x.f2.f0, .int .i64 x.f2.f1, .int .u8 x.f3], rfl, rfl, ⟨[.int .i64 x.f2.f0, .int .i64 x.f2.f1], [.int .u8 x.f3], rfl, (k37_mk w x.f2 ), rfl⟩⟩⟩
theorem k40_mkM (w : World) (base : Nat) (ok : Nat → Prop) (x : S40)  : k40.M w base ok x [.int .u8 x.f0, .int .i64 x.f1, .int .i64 x.f2.f0, .int .i64 x.f2.f1, .int .u8 x.f3] := ⟨[.int .u8 x.f0], [.int .i64 x.f1, .int .i64 x.f2.f0, .int .i64 x.f2.f1, .int .u8 x.f3], rfl, rfl, ⟨[.int .i64 x.f1], [.int .i64 x.f2.f0, .int .i64 x.f2.f1, .int .u8 x.f3], rfl, rfl, ⟨[.int .i64 x.f2.f0, .int .i64 x.f2.f1], [.int .u8 x.f3], rfl, (k37_mkM w base ok x.f2 ), rfl⟩⟩⟩
theorem k40_mkF (W : World) (ok : Nat → Prop) (x : S40) : Kd.FK k40 W ok x [.int .u8 x.f0, .int .i64 x.f1, .int .i64 x.f2.f0, .int .i64 x.f2.f1, .int .u8 x.f3] := fun W2 _ => k40_mk W2 x
def rd_T40 (xs : List S40) (i : Int) : S40 := xs.getD i.toNat z40
theorem at_T40 {w : World} {A : Option Addr} {n : Nat} {xs : List S40} (h : Kd.C k40 w A n xs) (i : Int) (h0 : 0 ≤ i) (h1 : i < n) : ∃ ad , A = some ad ∧ w.cell? (ad.add (i.toNat * 5)) = some (.int .u8 (rd_T40 xs i).f0) ∧ w.cell? ⟨(ad.add (i.toNat * 5)).block, (ad.add (i.toNat * 5)).off + 1, none⟩ = some (.int .i64 (rd_T40 xs i).f1) ∧ w.cell? ⟨(ad.add (i.toNat * 5)).block, (ad.add (i.toNat * 5)).off + 2, none⟩ = some (.int .i64 (rd_T40 xs i).f2.f0) ∧ w.cell? ⟨(ad.add (i.toNat * 5)).block, (ad.add (i.toNat * 5)).off + 3, none⟩ = some (.int .i64 (rd_T40 xs i).f2.f1) ∧ w.cell? ⟨(ad.add (i.toNat * 5)).block, (ad.add (i.toNat * 5)).off + 4, none⟩ = some (.int .u8 (rd_T40 xs i).f3) := by
  obtain ⟨ad, c, e, _, hK, hc0⟩ := Kd.C_get h z40 i h0 h1
  have hc : ∀ j u, c[j]? = some u → w.cell? (ad.add (i.toNat * 5 + j)) = some u := hc0
  obtain rfl := k40_open hK
  exact ⟨ad, e, hc 0 _ rfl, by rw [← add_field _ _ 1 (by omega)]; exact hc 1 _ rfl, by rw [← add_field _ _ 2 (by omega)]; exact hc 2 _ rfl, by rw [← add_field _ _ 3 (by omega)]; exact hc 3 _ rfl, by rw [← add_field _ _ 4 (by omega)]; exact hc 4 _ rfl⟩

/-! #### struct type 43 -/
structure S43 where
  f0 : (List S49)
  f1 : S40
def z43 : S43 := ⟨([] : List S49), z40⟩
def k43 : Kd S43 := Kd.iso (Kd.pair (Kd.slice 49 k49) k40) (fun x : S43 => (x.f0, x.f1))
theorem k43_open {w : World} {x : S43} {cs : List Value} (h : k43.K w x cs) : ∃ A0 c0, cs = [.slice A0 x.f0.length c0, .int .u8 x.f1.f0, .int .i64 x.f1.f1, .int .i64 x.f1.f2.f0, .int .i64 x.f1.f2.f1, .int .u8 x.f1.f3] ∧ x.f0.length ≤ c0 ∧ k49.C w A0 x.f0.length x.f0 := by
  obtain ⟨_, _, rfl, ⟨A0, c0, rfl, l0, g0⟩, s1⟩ := h
  obtain rfl := k40_open s1
  exact ⟨A0, c0, rfl, l0, g0⟩
theorem k43_openM {w : World} {base : Nat} {ok : Nat → Prop} {x : S43} {cs : List Value} (h : k43.M w base ok x cs) : ∃ v0, cs = [v0, .int .u8 x.f1.f0, .int .i64 x.f1.f1, .int .i64 x.f1.f2.f0, .int .i64 x.f1.f2.f1, .int .u8 x.f1.f3] ∧ k49.R 49 w base ok v0 x.f0 := by
  obtain ⟨_, _, rfl, ⟨v0, rfl, g0⟩, s1⟩ := h
  obtain rfl := k40_openM s1
  exact ⟨v0, rfl, g0⟩
theorem k43_mk (w : World) (x : S43) {A0 : Option Addr} {c0 : Nat} (l0 : x.f0.length ≤ c0) (g0 : k49.C w A0 x.f0.length x.f0) : k43.K w x [.slice A0 x.f0.length c0, .int .u8 x.f1.f0, .int .i64 x.f1.f1, .int .i64 x.f1.f2.f0, .int .i64 x.f1.f2.f1, .int .u8 x.f1.f3] := ⟨[.slice A0 x.f0.length c0], [.int .u8 x.f1.f0, .int .i64 x.f1.f1, .int .i64 x.f1.f2.f0, .int .i64 x.f1.f2.f1, .int .u8 x.f1.f3], rfl, ⟨A0, c0, rfl, l0, g0⟩, (k40_mk w x.f1 )⟩
theorem k43_mkM (w : World) (base : Nat) (ok : Nat → Prop) (x : S43) {v0 : Value} (g0 : k49.R 49 w base ok v0 x.f0) : k43.M w base ok x [v0, .int .u8 x.f1.f0, .int .i64 x.f1.f1, .int .i64 x.f1.f2.f0, .int .i64 x.f1.f2.f1, .int .u8 x.f1.f3] := ⟨[v0], [.int .u8 x.f1.f0, .int .i64 x.f1.f1, .int .i64 x.f1.f2.f0, .int .i64 x.f1.f2.f1, .int .u8 x.f1.f3], rfl, ⟨v0, rfl, g0⟩, (k40_mkM w base ok x.f1 )⟩
theorem k43_openF {W : World} {ok : Nat → Prop} {x : S43} {cs : List Value} (h : Kd.FK k43 W ok x cs) : ∃ A0 c0, cs = [.slice A0 x.f0.length c0, .int .u8 x.f1.f0, .int .i64 x.f1.f1, .int .i64 x.f1.f2.f0, .int .i64 x.f1.f2.f1, .int .u8 x.f1.f3] ∧ x.f0.length ≤ c0 ∧ Kd.F k49 W ok A0 x.f0.length x.f0 := by
  obtain ⟨A0, c0, rfl, l0, _⟩ := k43_open (Kd.FK_now h)
  exact ⟨A0, c0, rfl, l0, (fun W' hW => by obtain ⟨A0_, c0_, he, l0_, g0_⟩ := k43_open (h W' hW); injection (Option.some.inj (show some (Value.slice A0 x.f0.length c0) = some (Value.slice A0_ x.f0.length c0_) from congrArg (fun l => l[0]?) he)) with ha_ _ _; rw [ha_]; exact g0_)⟩
theorem k43_mkF (W : World) (ok : Nat → Prop) (x : S43) {A0 : Option Addr} {c0 : Nat} (l0 : x.f0.length ≤ c0) (g0 : Kd.F k49 W ok A0 x.f0.length x.f0) : Kd.FK k43 W ok x [.slice A0 x.f0.length c0, .int .u8 x.f1.f0, .int .i64 x.f1.f1, .int .i64 x.f1.f2.f0, .int .i64 x.f1.f2.f1, .int .u8 x.f1.f3] := fun W2 hW => k43_mk W2 x l0 (g0 W2 hW)
def rd_T43 (xs : List S43) (i : Int) : S43 := xs.getD i.toNat z43
theorem at_T43 {w : World} {A : Option Addr} {n : Nat} {xs : List S43} (h : Kd.C k43 w A n xs) (i : Int) (h0 : 0 ≤ i) (h1 : i < n) : ∃ ad A0 c0, A = some ad ∧ w.cell? (ad.add (i.toNat * 6)) = some (.slice A0 (rd_T43 xs i).f0.length c0) ∧ w.cell? ⟨(ad.add (i.toNat * 6)).block, (ad.add (i.toNat * 6)).off + 1, none⟩ = some (.int .u8 (rd_T43 xs i).f1.f0) ∧ w.cell? ⟨(ad.add (i.toNat * 6)).block, (ad.add (i.toNat * 6)).off + 2, none⟩ = some (.int .i64 (rd_T43 xs i).f1.f1) ∧ w.cell? ⟨(ad.add (i.toNat * 6)).block, (ad.add (i.toNat * 6)).off + 3, none⟩ = some (.int .i64 (rd_T43 xs i).f1.f2.f0) ∧ w.cell? ⟨(ad.add (i.toNat * 6)).block, (ad.add (i.toNat * 6)).off + 4, none⟩ = some (.int .i64 (rd_T43 xs i).f1.f2.f1) ∧ w.cell? ⟨(ad.add (i.toNat * 6)).block, (ad.add (i.toNat * 6)).off + 5, none⟩ = some (.int .u8 (rd_T43 xs i).f1.f3) ∧ (rd_T43 xs i).f0.length ≤ c0 ∧ k49.C w A0 (rd_T43 xs i).f0.length (rd_T43 xs i).f0 := by
  obtain ⟨ad, c, e, _, hK, hc0⟩ := Kd.C_get h z43 i h0 h1
  have hc : ∀ j u, c[j]? = some u → w.cell? (ad.add (i.toNat * 6 + j)) = some u := hc0
  obtain ⟨A0, c0, rfl, l0, g0⟩ := k43_open hK
  exact ⟨ad, A0, c0, e, hc 0 _ rfl, by rw [← add_field _ _ 1 (by omega)]; exact hc 1 _ rfl, by rw [← add_field _ _ 2 (by omega)]; exact hc 2 _ rfl, by rw [← add_field _ _ 3 (by omega)]; exact hc 3 _ rfl, by rw [← add_field _ _ 4 (by omega)]; exact hc 4 _ rfl, by rw [← add_field _ _ 5 (by omega)]; exact hc 5 _ rfl, l0, g0⟩

/-! #### struct type 113 -/
structure S113 where
  f0 : Int
  f1 : Int
def z113 : S113 := ⟨(0 : Int), (0 : Int)⟩
def k113 : Kd S113 := Kd.iso (Kd.pair (Kd.int .u8) (Kd.int .i64)) (fun x : S113 => (x.f0, x.f1))
theorem k113_open {w : World} {x : S113} {cs : List Value} (h : k113.K w x cs) : cs = [.int .u8 x.f0, .int .i64 x.f1] := by
  obtain ⟨_, _, rfl, rfl, rfl⟩ := h
  exact rfl
theorem k113_openM {w : World} {base : Nat} {ok : Nat → Prop} {x : S113} {cs : List Value} (h : k113.M w base ok x cs) : cs = [.int .u8 x.f0, .int .i64 x.f1] := by
  obtain ⟨_, _, rfl, rfl, rfl⟩ := h
  exact rfl
theorem k113_mk (w : World) (x : S113)  : k113.K w x [.int .u8 x.f0, .int .i64 x.f1] := ⟨[.int .u8 x.f0], [.int .i64 x.f1], rfl, rfl, rfl⟩
theorem k113_mkM (w : World) (base : Nat) (ok : Nat → Prop) (x : S113)  : k113.M w base ok x [.int .u8 x.f0, .int .i64 x.f1] := ⟨[.int .u8 x.f0], [.int .i64 x.f1], rfl, rfl, rfl⟩
theorem k113_mkF (W : World) (ok : Nat → Prop) (x : S113) : Kd.FK k113 W ok x [.int .u8 x.f0, .int .i64 x.f1] := fun W2 _ => k113_mk W2 x
def rd_T113 (xs : List S113) (i : Int) : S113 := xs.getD i.toNat z113
theorem at_T113 {w : World} {A : Option Addr} {n : Nat} {xs : List S113} (h : Kd.C k113 w A n xs) (i : Int) (h0 : 0 ≤ i) (h1 : i < n) : ∃ ad , A = some ad ∧ w.cell? (ad.add (i.toNat * 2)) = some (.int .u8 (rd_T113 xs i).f0) ∧ w.cell? ⟨(ad.add (i.toNat * 2)).block, (ad.add (i.toNat * 2)).off + 1, none⟩ = some (.int .i64 (rd_T113 xs i).f1) := by
  obtain ⟨ad, c, e, _, hK, hc0⟩ := Kd.C_get h z113 i h0 h1
  have hc : ∀ j u, c[j]? = some u → w.cell? (ad.add (i.toNat * 2 + j)) = some u := hc0
  obtain rfl := k113_open hK
  exact ⟨ad, e, hc 0 _ rfl, by rw [← add_field _ _ 1 (by omega)]; exact hc 1 _ rfl⟩

def rd_L11 (xs : List (List Int)) (i : Int) : (List Int) := xs.getD i.toNat ([] : List Int)
theorem at_L11 {w : World} {A : Option Addr} {n : Nat} {xs : List (List Int)} (h : Kd.C (Kd.slice 23 (Kd.int .u8)) w A n xs) (i : Int) (h0 : 0 ≤ i) (h1 : i < n) : ∃ ad A0 c0, A = some ad ∧ w.cell? (ad.add i.toNat) = some (.slice A0 (rd_L11 xs i).length c0) ∧ (rd_L11 xs i).length ≤ c0 ∧ (Kd.int .u8).C w A0 (rd_L11 xs i).length (rd_L11 xs i) := by
  obtain ⟨ad, c, e, _, hK, hc0⟩ := Kd.C_get h ([] : List Int) i h0 h1
  have hc : ∀ j u, c[j]? = some u → w.cell? (ad.add (i.toNat * 1 + j)) = some u := hc0
  obtain ⟨A0, c0, rfl, l0, g0⟩ := hK
  exact ⟨ad, A0, c0, e, by have hq := hc 0 _ rfl; rwa [Nat.mul_one, Nat.add_zero] at hq, l0, g0⟩

def rd_L12 (xs : List (List S113)) (i : Int) : (List S113) := xs.getD i.toNat ([] : List S113)
theorem at_L12 {w : World} {A : Option Addr} {n : Nat} {xs : List (List S113)} (h : Kd.C (Kd.slice 113 k113) w A n xs) (i : Int) (h0 : 0 ≤ i) (h1 : i < n) : ∃ ad A0 c0, A = some ad ∧ w.cell? (ad.add i.toNat) = some (.slice A0 (rd_L12 xs i).length c0) ∧ (rd_L12 xs i).length ≤ c0 ∧ k113.C w A0 (rd_L12 xs i).length (rd_L12 xs i) := by
  obtain ⟨ad, c, e, _, hK, hc0⟩ := Kd.C_get h ([] : List S113) i h0 h1
  have hc : ∀ j u, c[j]? = some u → w.cell? (ad.add (i.toNat * 1 + j)) = some u := hc0
  obtain ⟨A0, c0, rfl, l0, g0⟩ := hK
  exact ⟨ad, A0, c0, e, by have hq := hc 0 _ rfl; rwa [Nat.mul_one, Nat.add_zero] at hq, l0, g0⟩

def rd_L13 (xs : List (List S43)) (i : Int) : (List S43) := xs.getD i.toNat ([] : List S43)
theorem at_L13 {w : World} {A : Option Addr} {n : Nat} {xs : List (List S43)} (h : Kd.C (Kd.slice 43 k43) w A n xs) (i : Int) (h0 : 0 ≤ i) (h1 : i < n) : ∃ ad A0 c0, A = some ad ∧ w.cell? (ad.add i.toNat) = some (.slice A0 (rd_L13 xs i).length c0) ∧ (rd_L13 xs i).length ≤ c0 ∧ k43.C w A0 (rd_L13 xs i).length (rd_L13 xs i) := by
  obtain ⟨ad, c, e, _, hK, hc0⟩ := Kd.C_get h ([] : List S43) i h0 h1
  have hc : ∀ j u, c[j]? = some u → w.cell? (ad.add (i.toNat * 1 + j)) = some u := hc0
  obtain ⟨A0, c0, rfl, l0, g0⟩ := hK
  exact ⟨ad, A0, c0, e, by have hq := hc 0 _ rfl; rwa [Nat.mul_one, Nat.add_zero] at hq, l0, g0⟩

/-! #### struct type 28 -/
structure S28 where
  f0 : ByteArray
  f1 : (List Int)
  f2 : Int
  f3 : (List Int)
  f4 : (List S113)
  f5 : (List S43)
def z28 : S28 := ⟨(⟨#[]⟩ : ByteArray), ([] : List Int), (0 : Int), ([] : List Int), ([] : List S113), ([] : List S43)⟩
def k28 : Kd S28 := Kd.iso (Kd.pair Kd.string (Kd.pair (Kd.slice 3 (Kd.int .i64)) (Kd.pair (Kd.int .u8) (Kd.pair (Kd.slice 23 (Kd.int .u8)) (Kd.pair (Kd.slice 113 k113) (Kd.slice 43 k43)))))) (fun x : S28 => (x.f0, x.f1, x.f2, x.f3, x.f4, x.f5))
theorem k28_open {w : World} {x : S28} {cs : List Value} (h : k28.K w x cs) : ∃ A1 c1 A3 c3 A4 c4 A5 c5, cs = [.string x.f0, .slice A1 x.f1.length c1, .int .u8 x.f2, .slice A3 x.f3.length c3, .slice A4 x.f4.length c4, .slice A5 x.f5.length c5] ∧ x.f1.length ≤ c1 ∧ (Kd.int .i64).C w A1 x.f1.length x.f1 ∧ x.f3.length ≤ c3 ∧ (Kd.int .u8).C w A3 x.f3.length x.f3 ∧ x.f4.length ≤ c4 ∧ k113.C w A4 x.f4.length x.f4 ∧ x.f5.length ≤ c5 ∧ k43.C w A5 x.f5.length x.f5 := by
  obtain ⟨_, _, rfl, rfl, ⟨_, _, rfl, ⟨A1, c1, rfl, l1, g1⟩, ⟨_, _, rfl, rfl, ⟨_, _, rfl, ⟨A3, c3, rfl, l3, g3⟩, ⟨_, _, rfl, ⟨A4, c4, rfl, l4, g4⟩, ⟨A5, c5, rfl, l5, g5⟩⟩⟩⟩⟩⟩ := h
  exact ⟨A1, c1, A3, c3, A4, c4, A5, c5, rfl, l1, g1, l3, g3, l4, g4, l5, g5⟩
theorem k28_openM {w : World} {base : Nat} {ok : Nat → Prop} {x : S28} {cs : List Value} (h : k28.M w base ok x cs) : ∃ v1 v3 v4 v5, cs = [.string x.f0, v1, .int .u8 x.f2, v3, v4, v5] ∧ (Kd.int .i64).R 3 w base ok v1 x.f1 ∧ (Kd.int .u8).R 23 w base ok v3 x.f3 ∧ k113.R 113 w base ok v4 x.f4 ∧ k43.R 43 w base ok v5 x.f5 := by
  obtain ⟨_, _, rfl, rfl, ⟨_, _, rfl, ⟨v1, rfl, g1⟩, ⟨_, _, rfl, rfl, ⟨_, _, rfl, ⟨v3, rfl, g3⟩, ⟨_, _, rfl, ⟨v4, rfl, g4⟩, ⟨v5, rfl, g5⟩⟩⟩⟩⟩⟩ := h
  exact ⟨v1, v3, v4, v5, rfl, g1, g3, g4, g5⟩
theorem k28_mk (w : World) (x : S28) {A1 : Option Addr} {c1 : Nat} (l1 : x.f1.length ≤ c1) (g1 : (Kd.int .i64).C w A1 x.f1.length x.f1) {A3 : Option Addr} {c3 : Nat} (l3 : x.f3.length ≤ c3) (g3 : (Kd.int .u8).C w A3 x.f3.length x.f3) {A4 : Option Addr} {c4 : Nat} (l4 : x.f4.length ≤ c4) (g4 : k113.C w A4 x.f4.length x.f4) {A5 : Option Addr} {c5 : Nat} (l5 : x.f5.length ≤ c5) (g5 : k43.C w A5 x.f5.length x.f5) : k28.K w x [.string x.f0, .slice A1 x.f1.length c1, .int .u8 x.f2, .slice A3 x.f3.length c3, .slice A4 x.f4.length c4, .slice A5 x.f5.length c5] := ⟨[.string x.f0], [.slice A1 x.f1.length c1, .int .u8 x.f2, .slice A3 x.f3.length c3, .slice A4 x.f4.length c4, .slice A5 x.f5.length c5], rfl, rfl, ⟨[.slice A1 x.f1.length c1], [.int .u8 x.f2, .slice A3 x.f3.length c3, .slice A4 x.f4.length c4, .slice A5 x.f5.length c5], rfl, ⟨A1, c1, rfl, l1, g1⟩, ⟨[.int .u8 x.f2], [.slice A3 x.f3.length c3, .slice A4 x.f4.length c4, .slice A5 x.f5.length c5], rfl, rfl, ⟨[.slice A3 x.f3.length c3], [.slice A4 x.f4.length c4, .slice A5 x.f5.length c5], rfl, ⟨A3, c3, rfl, l3, g3⟩, ⟨[.slice A4 x.f4.length c4], [.slice A5 x.f5.length c5], rfl, ⟨A4, c4, rfl, l4, g4⟩, ⟨A5, c5, rfl, l5, g5⟩⟩⟩⟩⟩⟩
theorem k28_mkM (w : World) (base : Nat) (ok : Nat → Prop) (x : S28) {v1 : Value} (g1 : (Kd.int .i64).R 3 w base ok v1 x.f1) {v3 : Value} (g3 : (Kd.int .u8).R 23 w base ok v3 x.f3) {v4 : Value} (g4 : k113.R 113 w base ok v4 x.f4) {v5 : Value} (g5 : k43.R 43 w base ok v5 x.f5) : k28.M w base ok x [.string x.f0, v1, .int .u8 x.f2, v3, v4, v5] := ⟨[.string x.f0], [v1, .int .u8 x.f2, v3, v4, v5], rfl, rfl, ⟨[v1], [.int .u8 x.f2, v3, v4, v5], rfl, ⟨v1, rfl, g1⟩, ⟨[.int .u8 x.f2], [v3, v4, v5], rfl, rfl, ⟨[v3], [v4, v5], rfl, ⟨v3, rfl, g3⟩, ⟨[v4], [v5], rfl, ⟨v4, rfl, g4⟩, ⟨v5, rfl, g5⟩⟩⟩⟩⟩⟩
theorem k28_openF {W : World} {ok : Nat → Prop} {x : S28} {cs : List Value} (h : Kd.FK k28 W ok x cs) : ∃ A1 c1 A3 c3 A4 c4 A5 c5, cs = [.string x.f0, .slice A1 x.f1.length c1, .int .u8 x.f2, .slice A3 x.f3.length c3, .slice A4 x.f4.length c4, .slice A5 x.f5.length c5] ∧ x.f1.length ≤ c1 ∧ Kd.F (Kd.int .i64) W ok A1 x.f1.length x.f1 ∧ x.f3.length ≤ c3 ∧ Kd.F (Kd.int .u8) W ok A3 x.f3.length x.f3 ∧ x.f4.length ≤ c4 ∧ Kd.F k113 W ok A4 x.f4.length x.f4 ∧ x.f5.length ≤ c5 ∧ Kd.F k43 W ok A5 x.f5.length x.f5 := by
  obtain ⟨A1, c1, A3, c3, A4, c4, A5, c5, rfl, l1, _, l3, _, l4, _, l5, _⟩ := k28_open (Kd.FK_now h)
  exact ⟨A1, c1, A3, c3, A4, c4, A5, c5, rfl, l1, (fun W' hW => by obtain ⟨A1_, c1_, A3_, c3_, A4_, c4_, A5_, c5_, he, l1_, g1_, l3_, g3_, l4_, g4_, l5_, g5_⟩ := k28_open (h W' hW); injection (Option.some.inj (show some (Value.slice A1 x.f1.length c1) = some (Value.slice A1_ x.f1.length c1_) from congrArg (fun l => l[1]?) he)) with ha_ _ _; rw [ha_]; exact g1_), l3, (fun W' hW => by obtain ⟨A1_, c1_, A3_, c3_, A4_, c4_, A5_, c5_, he, l1_, g1_, l3_, g3_, l4_, g4_, l5_, g5_⟩ := k28_open (h W' hW); injection (Option.some.inj (show some (Value.slice A3 x.f3.length c3) = some (Value.slice A3_ x.f3.length c3_) from congrArg (fun l => l[3]?) he)) with ha_ _ _; rw [ha_]; exact g3_), l4, (fun W' hW => by obtain ⟨A1_, c1_, A3_, c3_, A4_, c4_, A5_, c5_, he, l1_, g1_, l3_, g3_, l4_, g4_, l5_, g5_⟩ := k28_open (h W' hW); injection (Option.some.inj (show some (Value.slice A4 x.f4.length c4) = some (Value.slice A4_ x.f4.length c4_) from congrArg (fun l => l[4]?) he)) with ha_ _ _; rw [ha_]; exact g4_), l5, (fun W' hW => by obtain ⟨A1_, c1_, A3_, c3_, A4_, c4_, A5_, c5_, he, l1_, g1_, l3_, g3_, l4_, g4_, l5_, g5_⟩ := k28_open (h W' hW); injection (Option.some.inj (show some (Value.slice A5 x.f5.length c5) = some (Value.slice A5_ x.f5.length c5_) from congrArg (fun l => l[5]?) he)) with ha_ _ _; rw [ha_]; exact g5_)⟩
theorem k28_mkF (W : World) (ok : Nat → Prop) (x : S28) {A1 : Option Addr} {c1 : Nat} (l1 : x.f1.length ≤ c1) (g1 : Kd.F (Kd.int .i64) W ok A1 x.f1.length x.f1) {A3 : Option Addr} {c3 : Nat} (l3 : x.f3.length ≤ c3) (g3 : Kd.F (Kd.int .u8) W ok A3 x.f3.length x.f3) {A4 : Option Addr} {c4 : Nat} (l4 : x.f4.length ≤ c4) (g4 : Kd.F k113 W ok A4 x.f4.length x.f4) {A5 : Option Addr} {c5 : Nat} (l5 : x.f5.length ≤ c5) (g5 : Kd.F k43 W ok A5 x.f5.length x.f5) : Kd.FK k28 W ok x [.string x.f0, .slice A1 x.f1.length c1, .int .u8 x.f2, .slice A3 x.f3.length c3, .slice A4 x.f4.length c4, .slice A5 x.f5.length c5] := fun W2 hW => k28_mk W2 x l1 (g1 W2 hW) l3 (g3 W2 hW) l4 (g4 W2 hW) l5 (g5 W2 hW)
def rd_T28 (xs : List S28) (i : Int) : S28 := xs.getD i.toNat z28
theorem at_T28 {w : World} {A : Option Addr} {n : Nat} {xs : List S28} (h : Kd.C k28 w A n xs) (i : Int) (h0 : 0 ≤ i) (h1 : i < n) : ∃ ad A1 c1 A3 c3 A4 c4 A5 c5, A = some ad ∧ w.cell? (ad.add (i.toNat * 6)) = some (.string (rd_T28 xs i).f0) ∧ w.cell? ⟨(ad.add (i.toNat * 6)).block, (ad.add (i.toNat * 6)).off + 1, none⟩ = some (.slice A1 (rd_T28 xs i).f1.length c1) ∧ w.cell? ⟨(ad.add (i.toNat * 6)).block, (ad.add (i.toNat * 6)).off + 2, none⟩ = some (.int .u8 (rd_T28 xs i).f2) ∧ w.cell? ⟨(ad.add (i.toNat * 6)).block, (ad.add (i.toNat * 6)).off + 3, none⟩ = some (.slice A3 (rd_T28 xs i).f3.length c3) ∧ w.cell? ⟨(ad.add (i.toNat * 6)).block, (ad.add (i.toNat * 6)).off + 4, none⟩ = some (.slice A4 (rd_T28 xs i).f4.length c4) ∧ w.cell? ⟨(ad.add (i.toNat * 6)).block, (ad.add (i.toNat * 6)).off + 5, none⟩ = some (.slice A5 (rd_T28 xs i).f5.length c5) ∧ (rd_T28 xs i).f1.length ≤ c1 ∧ (Kd.int .i64).C w A1 (rd_T28 xs i).f1.length (rd_T28 xs i).f1 ∧ (rd_T28 xs i).f3.length ≤ c3 ∧ (Kd.int .u8).C w A3 (rd_T28 xs i).f3.length (rd_T28 xs i).f3 ∧ (rd_T28 xs i).f4.length ≤ c4 ∧ k113.C w A4 (rd_T28 xs i).f4.length (rd_T28 xs i).f4 ∧ (rd_T28 xs i).f5.length ≤ c5 ∧ k43.C w A5 (rd_T28 xs i).f5.length (rd_T28 xs i).f5 := by
  obtain ⟨ad, c, e, _, hK, hc0⟩ := Kd.C_get h z28 i h0 h1
  have hc : ∀ j u, c[j]? = some u → w.cell? (ad.add (i.toNat * 6 + j)) = some u := hc0
  obtain ⟨A1, c1, A3, c3, A4, c4, A5, c5, rfl, l1, g1, l3, g3, l4, g4, l5, g5⟩ := k28_open hK
  exact ⟨ad, A1, c1, A3, c3, A4, c4, A5, c5, e, hc 0 _ rfl, by rw [← add_field _ _ 1 (by omega)]; exact hc 1 _ rfl, by rw [← add_field _ _ 2 (by omega)]; exact hc 2 _ rfl, by rw [← add_field _ _ 3 (by omega)]; exact hc 3 _ rfl, by rw [← add_field _ _ 4 (by omega)]; exact hc 4 _ rfl, by rw [← add_field _ _ 5 (by omega)]; exact hc 5 _ rfl, l1, g1, l3, g3, l4, g4, l5, g5⟩

/-! #### struct type 181 -/
structure S181 where
  f0 : Bool
  f1 : Bool
  f2 : Bool
  f3 : Bool
  f4 : Int
def z181 : S181 := ⟨false, false, false, false, (0 : Int)⟩
def k181 : Kd S181 := Kd.iso (Kd.pair Kd.bool (Kd.pair Kd.bool (Kd.pair Kd.bool (Kd.pair Kd.bool (Kd.int .i64))))) (fun x : S181 => (x.f0, x.f1, x.f2, x.f3, x.f4))
theorem k181_open {w : World} {x : S181} {cs : List Value} (h : k181.K w x cs) : cs = [.bool x.f0, .bool x.f1, .bool x.f2, .bool x.f3, .int .i64 x.f4] := by
  obtain ⟨_, _, rfl, rfl, ⟨_, _, rfl, rfl, ⟨_, _, rfl, rfl, ⟨_, _, rfl, rfl, rfl⟩⟩⟩⟩ := h
  exact rfl
theorem k181_openM {w : World} {base : Nat} {ok : Nat → Prop} {x : S181} {cs : List Value} (h : k181.M w base ok x cs) : cs = [.bool x.f0, .bool x.f1, .bool x.f2, .bool x.f3, .int .i64 x.f4] := by
  obtain ⟨_, _, rfl, rfl, ⟨_, _, rfl, rfl, ⟨_, _, rfl, rfl, ⟨_, _, rfl, rfl, rfl⟩⟩⟩⟩ := h
  exact rfl
theorem k181_mk (w : World) (x : S181)  : k181.K w x [.bool x.f0, .bool x.f1, .bool x.f2, .bool x.f3, .int .i64 x.f4] := ⟨[.bool x.f0], [.bool x.f1, .bool x.f2, .bool x.f3, .int .i64 x.f4], rfl, rfl, ⟨[.bool x.f1], [.bool x.f2, .bool x.f3, .int .i64 x.f4], rfl, rfl, ⟨[.bool x.f2], [.bool x.f3, .int .i64 x.f4], rfl, rfl, ⟨[.bool x.f3], [.int .i64 x.f4], rfl, rfl, rfl⟩⟩⟩⟩
theorem k181_mkM (w : World) (base : Nat) (ok : Nat → Prop) (x : S181)  : k181.M w base ok x [.bool x.f0, .bool x.f1, .bool x.f2, .bool x.f3, .int .i64 x.f4] := ⟨[.bool x.f0], [.bool x.f1, .bool x.f2, .bool x.f3, .int .i64 x.f4], rfl, rfl, ⟨[.bool x.f1], [.bool x.f2, .bool x.f3, .int .i64 x.f4], rfl, rfl, ⟨[.bool x.f2], [.bool x.f3, .int .i64 x.f4], rfl, rfl, ⟨[.bool x.f3], [.int .i64 x.f4], rfl, rfl, rfl⟩⟩⟩⟩
theorem k181_mkF (W : World) (ok : Nat → Prop) (x : S181) : Kd.FK k181 W ok x [.bool x.f0, .bool x.f1, .bool x.f2, .bool x.f3, .int .i64 x.f4] := fun W2 _ => k181_mk W2 x
def rd_T181 (xs : List S181) (i : Int) : S181 := xs.getD i.toNat z181
theorem at_T181 {w : World} {A : Option Addr} {n : Nat} {xs : List S181} (h : Kd.C k181 w A n xs) (i : Int) (h0 : 0 ≤ i) (h1 : i < n) : ∃ ad , A = some ad ∧ w.cell? (ad.add (i.toNat * 5)) = some (.bool (rd_T181 xs i).f0) ∧ w.cell? ⟨(ad.add (i.toNat * 5)).block, (ad.add (i.toNat * 5)).off + 1, none⟩ = some (.bool (rd_T181 xs i).f1) ∧ w.cell? ⟨(ad.add (i.toNat * 5)).block, (ad.add (i.toNat * 5)).off + 2, none⟩ = some (.bool (rd_T181 xs i).f2) ∧ w.cell? ⟨(ad.add (i.toNat * 5)).block, (ad.add (i.toNat * 5)).off + 3, none⟩ = some (.bool (rd_T181 xs i).f3) ∧ w.cell? ⟨(ad.add (i.toNat * 5)).block, (ad.add (i.toNat * 5)).off + 4, none⟩ = some (.int .i64 (rd_T181 xs i).f4) := by
  obtain ⟨ad, c, e, _, hK, hc0⟩ := Kd.C_get h z181 i h0 h1
  have hc : ∀ j u, c[j]? = some u → w.cell? (ad.add (i.toNat * 5 + j)) = some u := hc0
  obtain rfl := k181_open hK
  exact ⟨ad, e, hc 0 _ rfl, by rw [← add_field _ _ 1 (by omega)]; exact hc 1 _ rfl, by rw [← add_field _ _ 2 (by omega)]; exact hc 2 _ rfl, by rw [← add_field _ _ 3 (by omega)]; exact hc 3 _ rfl, by rw [← add_field _ _ 4 (by omega)]; exact hc 4 _ rfl⟩

def rd_L17 (xs : List (List S28)) (i : Int) : (List S28) := xs.getD i.toNat ([] : List S28)
theorem at_L17 {w : World} {A : Option Addr} {n : Nat} {xs : List (List S28)} (h : Kd.C (Kd.slice 28 k28) w A n xs) (i : Int) (h0 : 0 ≤ i) (h1 : i < n) : ∃ ad A0 c0, A = some ad ∧ w.cell? (ad.add i.toNat) = some (.slice A0 (rd_L17 xs i).length c0) ∧ (rd_L17 xs i).length ≤ c0 ∧ k28.C w A0 (rd_L17 xs i).length (rd_L17 xs i) := by
  obtain ⟨ad, c, e, _, hK, hc0⟩ := Kd.C_get h ([] : List S28) i h0 h1
  have hc : ∀ j u, c[j]? = some u → w.cell? (ad.add (i.toNat * 1 + j)) = some u := hc0
  obtain ⟨A0, c0, rfl, l0, g0⟩ := hK
  exact ⟨ad, A0, c0, e, by have hq := hc 0 _ rfl; rwa [Nat.mul_one, Nat.add_zero] at hq, l0, g0⟩

def rd_L18 (xs : List (List (List Int))) (i : Int) : (List (List Int)) := xs.getD i.toNat ([] : List (List Int))
theorem at_L18 {w : World} {A : Option Addr} {n : Nat} {xs : List (List (List Int))} (h : Kd.C (Kd.slice 22 (Kd.slice 3 (Kd.int .i64))) w A n xs) (i : Int) (h0 : 0 ≤ i) (h1 : i < n) : ∃ ad A0 c0, A = some ad ∧ w.cell? (ad.add i.toNat) = some (.slice A0 (rd_L18 xs i).length c0) ∧ (rd_L18 xs i).length ≤ c0 ∧ (Kd.slice 3 (Kd.int .i64)).C w A0 (rd_L18 xs i).length (rd_L18 xs i) := by
  obtain ⟨ad, c, e, _, hK, hc0⟩ := Kd.C_get h ([] : List (List Int)) i h0 h1
  have hc : ∀ j u, c[j]? = some u → w.cell? (ad.add (i.toNat * 1 + j)) = some u := hc0
  obtain ⟨A0, c0, rfl, l0, g0⟩ := hK
  exact ⟨ad, A0, c0, e, by have hq := hc 0 _ rfl; rwa [Nat.mul_one, Nat.add_zero] at hq, l0, g0⟩

/-! #### struct type 84 -/
structure S84 where
  f0 : Int
  f1 : Int
  f2 : Int
def z84 : S84 := ⟨(0 : Int), (0 : Int), (0 : Int)⟩
def k84 : Kd S84 := Kd.iso (Kd.pair (Kd.int .i64) (Kd.pair (Kd.int .i64) (Kd.int .i64))) (fun x : S84 => (x.f0, x.f1, x.f2))
theorem k84_open {w : World} {x : S84} {cs : List Value} (h : k84.K w x cs) : cs = [.int .i64 x.f0, .int .i64 x.f1, .int .i64 x.f2] := by
  obtain ⟨_, _, rfl, rfl, ⟨_, _, rfl, rfl, rfl⟩⟩ := h
  exact rfl
theorem k84_openM {w : World} {base : Nat} {ok : Nat → Prop} {x : S84} {cs : List Value} (h : k84.M w base ok x cs) : cs = [.int .i64 x.f0, .int .i64 x.f1, .int .i64 x.f2] := by
  obtain ⟨_, _, rfl, rfl, ⟨_, _, rfl, rfl, rfl⟩⟩ := h
  exact rfl
theorem k84_mk (w : World) (x : S84)  : k84.K w x [.int .i64 x.f0, .int .i64 x.f1, .int .i64 x.f2] := ⟨[.int .i64 x.f0], [.int .i64 x.f1, .int .i64 x.f2], rfl, rfl, ⟨[.int .i64 x.f1], [.int .i64 x.f2], rfl, rfl, rfl⟩⟩
theorem k84_mkM (w : World) (base : Nat) (ok : Nat → Prop) (x : S84)  : k84.M w base ok x [.int .i64 x.f0, .int .i64 x.f1, .int .i64 x.f2] := ⟨[.int .i64 x.f0], [.int .i64 x.f1, .int .i64 x.f2], rfl, rfl, ⟨[.int .i64 x.f1], [.int .i64 x.f2], rfl, rfl, rfl⟩⟩
theorem k84_mkF (W : World) (ok : Nat → Prop) (x : S84) : Kd.FK k84 W ok x [.int .i64 x.f0, .int .i64 x.f1, .int .i64 x.f2] := fun W2 _ => k84_mk W2 x
def rd_T84 (xs : List S84) (i : Int) : S84 := xs.getD i.toNat z84
theorem at_T84 {w : World} {A : Option Addr} {n : Nat} {xs : List S84} (h : Kd.C k84 w A n xs) (i : Int) (h0 : 0 ≤ i) (h1 : i < n) : ∃ ad , A = some ad ∧ w.cell? (ad.add (i.toNat * 3)) = some (.int .i64 (rd_T84 xs i).f0) ∧ w.cell? ⟨(ad.add (i.toNat * 3)).block, (ad.add (i.toNat * 3)).off + 1, none⟩ = some (.int .i64 (rd_T84 xs i).f1) ∧ w.cell? ⟨(ad.add (i.toNat * 3)).block, (ad.add (i.toNat * 3)).off + 2, none⟩ = some (.int .i64 (rd_T84 xs i).f2) := by
  obtain ⟨ad, c, e, _, hK, hc0⟩ := Kd.C_get h z84 i h0 h1
  have hc : ∀ j u, c[j]? = some u → w.cell? (ad.add (i.toNat * 3 + j)) = some u := hc0
  obtain rfl := k84_open hK
  exact ⟨ad, e, hc 0 _ rfl, by rw [← add_field _ _ 1 (by omega)]; exact hc 1 _ rfl, by rw [← add_field _ _ 2 (by omega)]; exact hc 2 _ rfl⟩

def rd_L20 (xs : List (List S84)) (i : Int) : (List S84) := xs.getD i.toNat ([] : List S84)
theorem at_L20 {w : World} {A : Option Addr} {n : Nat} {xs : List (List S84)} (h : Kd.C (Kd.slice 84 k84) w A n xs) (i : Int) (h0 : 0 ≤ i) (h1 : i < n) : ∃ ad A0 c0, A = some ad ∧ w.cell? (ad.add i.toNat) = some (.slice A0 (rd_L20 xs i).length c0) ∧ (rd_L20 xs i).length ≤ c0 ∧ k84.C w A0 (rd_L20 xs i).length (rd_L20 xs i) := by
  obtain ⟨ad, c, e, _, hK, hc0⟩ := Kd.C_get h ([] : List S84) i h0 h1
  have hc : ∀ j u, c[j]? = some u → w.cell? (ad.add (i.toNat * 1 + j)) = some u := hc0
  obtain ⟨A0, c0, rfl, l0, g0⟩ := hK
  exact ⟨ad, A0, c0, e, by have hq := hc 0 _ rfl; rwa [Nat.mul_one, Nat.add_zero] at hq, l0, g0⟩

end Go.Proofs.YtanhnfhpajaolaaDoor.F
/- The chapter's graph, block by block. -/
namespace Go.Proofs.YtanhnfhpajaolaaDoor.Fo
open Go Go.RowKit Go.Proofs.YtanhnfhpajaolaaDoorW.PrintWords Go.Proofs.YtanhnfhpajaolaaDoorW.PrintLast Go.Proofs.YtanhnfhpajaolaaDoorW.PrintMore Go.Proofs.YtanhnfhpajaolaaDoor.F
set_option linter.unusedVariables false
set_option linter.unusedSimpArgs false
/-- small's blocks, from s + 1 on. -/
structure Sm (s : Nat) (W : World) : Prop where
  b1 : W.heap[s + 1]? = some (.cells #[.int .i64 0] 3 (0, 0))
  b2 : W.heap[s + 2]? = some (.cells #[.int .u8 4, .int .u8 1, .int .u8 4] 23 (0, 0))
  b3 : W.heap[s + 3]? = some (.cells #[.int .i64 0, .int .i64 2] 3 (0, 0))
  b4 : W.heap[s + 4]? = some (.cells #[.int .u8 2, .int .u8 0, .int .i64 2, .slice none 0 0, .int .u64 5, .int .i64 0, .int .u8 4, .int .u8 13, .int .i64 1, .slice (some ⟨s + 3, 0, none⟩) 2 2, .int .u64 0, .int .i64 0] 49 (0, 0))
  b5 : W.heap[s + 5]? = some (.cells #[.int .i64 0] 3 (0, 0))
  b6 : W.heap[s + 6]? = some (.cells #[.int .u8 10, .int .u8 0, .int .i64 0, .slice (some ⟨s + 5, 0, none⟩) 1 1, .int .u64 0, .int .i64 0] 49 (0, 0))
  b7 : W.heap[s + 7]? = some (.cells #[.int .i64 0, .int .i64 2, .int .i64 2] 3 (0, 0))
  b8 : W.heap[s + 8]? = some (.cells #[.int .u8 1, .int .u8 0, .int .i64 2, .slice (some ⟨s + 7, 0, none⟩) 3 3, .int .u64 0, .int .i64 0] 49 (0, 0))
  b9 : W.heap[s + 9]? = some (.cells #[.slice (some ⟨s + 4, 0, none⟩) 2 2, .int .u8 2, .int .i64 1, .int .i64 2, .int .i64 1, .int .u8 0, .slice (some ⟨s + 6, 0, none⟩) 1 1, .int .u8 1, .int .i64 0, .int .i64 3, .int .i64 0, .int .u8 0, .slice none 0 0, .int .u8 1, .int .i64 0, .int .i64 3, .int .i64 0, .int .u8 0, .slice (some ⟨s + 8, 0, none⟩) 1 1, .int .u8 3, .int .i64 2, .int .i64 0, .int .i64 0, .int .u8 0, .slice none 0 0, .int .u8 1, .int .i64 0, .int .i64 3, .int .i64 0, .int .u8 0] 43 (0, 0))
theorem Sm.below {s : Nat} {w W : World} (h : Sm s w) (hb : Below w.heap.size w W) : Sm s W := ⟨blk_below h.b1 hb, blk_below h.b2 hb, blk_below h.b3 hb, blk_below h.b4 hb, blk_below h.b5 hb, blk_below h.b6 hb, blk_below h.b7 hb, blk_below h.b8 hb, blk_below h.b9 hb⟩
theorem size_alo (W : World) (o : Obj) : (W.alloc o).heap.size = W.heap.size + 1 := by simp
theorem at_new (W : World) (o : Obj) (i : Nat) (h : W.heap.size = i) : (W.alloc o).heap[i]? = some o := by
  subst h
  exact blk_new W o
theorem at_old (W : World) (o x : Obj) (i : Nat) (h : W.heap[i]? = some x) : (W.alloc o).heap[i]? = some x := blk_below h (below_alloc (Below.refl _ _) o)
set_option maxHeartbeats 4000000 in
set_option maxRecDepth 100000 in
theorem small_calls (w : World) : Calls Tryd.prog 18 #[] w fun e w' => e = .returned (.agg #[.string ⟨#[]⟩, .slice (some ⟨w.heap.size + 1, 0, none⟩) 1 1, .int .u8 4, .slice (some ⟨w.heap.size + 2, 0, none⟩) 3 3, .slice none 0 0, .slice (some ⟨w.heap.size + 9, 0, none⟩) 5 5]) ∧ Sm w.heap.size w' ∧ Below w.heap.size w w' := by
  go_enter Tryd.func18, Tryd.ntmps18
  go_wp2
  refine bodyPost_ret (results_cell_row rfl _ _ w.heap.size 28 #[.string ⟨#[]⟩, .slice (some ⟨w.heap.size + 1, 0, none⟩) 1 1, .int .u8 4, .slice (some ⟨w.heap.size + 2, 0, none⟩) 3 3, .slice none 0 0, .slice (some ⟨w.heap.size + 9, 0, none⟩) 5 5] (0, 0) _ rfl ?_ Tryd.underlying28 rfl rfl) rfl ?_
  · repeat (first | exact at_new _ _ _ (by rfl) | refine at_old _ _ _ _ ?_)
  · refine ⟨rfl, ⟨?_, ?_, ?_, ?_, ?_, ?_, ?_, ?_, ?_⟩, by repeat (first | exact Below.refl _ _ | (with_reducible apply below_alloc))⟩
    all_goals repeat (first | (refine at_new _ _ _ ?_; simp only [size_alo]; done) | refine at_old _ _ _ _ ?_)
/-- A row that is read, from its block. -/
theorem C_list {α : Type} (d : Kd α) {W : World} {g : Nat} {cs : Array Value} {t : TypeId} (hb : W.heap[g]? = some (.cells cs t (0, 0))) (xs : List α) (hl : xs.length ≤ 9223372036854775807) (hs : cs.size = xs.length * d.sz) (hK : ∀ (j : Nat) (h : j < xs.length), d.K W xs[j] ((cs.toList.drop (j * d.sz)).take d.sz)) : d.C W (some ⟨g, 0, none⟩) xs.length xs := by
  refine ⟨rfl, hl, fun _ => ⟨⟨g, 0, none⟩, rfl, fun j p hj => ?_⟩⟩
  obtain ⟨hjl, hjp⟩ := List.getElem?_eq_some_iff.1 hj
  subst hjp
  have hle : j * d.sz + d.sz ≤ cs.toList.length := by
    rw [Array.length_toList, hs, ← Nat.succ_mul]
    exact Nat.mul_le_mul_right _ hjl
  refine ⟨_, ?_, hK j hjl, fun i u hu => ?_⟩
  · rw [List.length_take, List.length_drop]
    omega
  · have hi : i < d.sz := by
      have := (List.getElem?_eq_some_iff.1 hu).1
      rw [List.length_take] at this
      omega
    rw [List.getElem?_take, if_pos hi, List.getElem?_drop] at hu
    rw [add_at, Nat.zero_add, blk_cell hb, ← Array.getElem?_toList]
    exact hu
end Go.Proofs.YtanhnfhpajaolaaDoor.Fo
/- The chapter's graph and its kin, as they are read. -/
namespace Go.Proofs.YtanhnfhpajaolaaDoor.Fo
open Go Go.RowKit Go.Proofs.YtanhnfhpajaolaaDoorW.PrintWords Go.Proofs.YtanhnfhpajaolaaDoorW.PrintLast Go.Proofs.YtanhnfhpajaolaaDoorW.PrintMore Go.Proofs.YtanhnfhpajaolaaDoor.F
set_option linter.unusedVariables false
set_option linter.unusedSimpArgs false
theorem C_ints {k : IntKind} {W : World} {g : Nat} {cs : Array Value} {t : TypeId} (hb : W.heap[g]? = some (.cells cs t (0, 0))) (xs : List Int) (hl : xs.length ≤ 9223372036854775807) (hs : cs.toList = xs.map (Value.int k)) : (Kd.int k).C W (some ⟨g, 0, none⟩) xs.length xs := by
  refine C_list (Kd.int k) hb xs hl ?_ (fun j h => ?_)
  · rw [← Array.length_toList, hs, List.length_map]
    exact (Nat.mul_one _).symm
  · show (cs.toList.drop (j * 1)).take 1 = [Value.int k xs[j]]
    rw [hs, Nat.mul_one]
    apply List.ext_getElem?
    intro i
    cases i with
    | zero => simp [h]
    | succ i => simp [List.getElem?_take]
def t0 : S40 := ⟨2, 1, ⟨2, 1⟩, 0⟩
def t1 : S40 := ⟨1, 0, ⟨3, 0⟩, 0⟩
def t3 : S40 := ⟨3, 2, ⟨0, 0⟩, 0⟩
def kinB (i1 i3 : S49) : List S43 := [⟨[⟨2, 0, 2, [], 5, 0⟩, ⟨4, 13, 1, [0, 2], 0, 0⟩], t0⟩, ⟨[i1], t1⟩, ⟨[], t1⟩, ⟨[i3], t3⟩, ⟨[], t1⟩]
/-- A graph like the chapter's: block 1's and block 3's instruction are free. -/
def kin (i1 i3 : S49) : S28 := ⟨⟨#[]⟩, [0], 4, [4, 1, 4], [], kinB i1 i3⟩
theorem ins_one {W : World} {g t : Nat} {A : Option Addr} {c : Nat} (x : S49) (hb : W.heap[g]? = some (.cells #[.int .u8 x.f0, .int .u8 x.f1, .int .i64 x.f2, .slice A x.f3.length c, .int .u64 x.f4, .int .i64 x.f5] t (0, 0))) (hc : x.f3.length ≤ c) (hr : (Kd.int .i64).C W A x.f3.length x.f3) : k49.C W (some ⟨g, 0, none⟩) 1 [x] :=
  C_list k49 hb [x] (by simp) rfl (fun j h => by
    have : j = 0 := by simpa using h
    subst this
    exact k49_mk W x hc hr)
theorem kin_C {s : Nat} {W : World} (h3 : W.heap[s + 3]? = some (.cells #[.int .i64 0, .int .i64 2] 3 (0, 0)))
    (h4 : W.heap[s + 4]? = some (.cells #[.int .u8 2, .int .u8 0, .int .i64 2, .slice none 0 0, .int .u64 5, .int .i64 0, .int .u8 4, .int .u8 13, .int .i64 1, .slice (some ⟨s + 3, 0, none⟩) 2 2, .int .u64 0, .int .i64 0] 49 (0, 0)))
    (h9 : W.heap[s + 9]? = some (.cells #[.slice (some ⟨s + 4, 0, none⟩) 2 2, .int .u8 2, .int .i64 1, .int .i64 2, .int .i64 1, .int .u8 0, .slice (some ⟨s + 6, 0, none⟩) 1 1, .int .u8 1, .int .i64 0, .int .i64 3, .int .i64 0, .int .u8 0, .slice none 0 0, .int .u8 1, .int .i64 0, .int .i64 3, .int .i64 0, .int .u8 0, .slice (some ⟨s + 8, 0, none⟩) 1 1, .int .u8 3, .int .i64 2, .int .i64 0, .int .i64 0, .int .u8 0, .slice none 0 0, .int .u8 1, .int .i64 0, .int .i64 3, .int .i64 0, .int .u8 0] 43 (0, 0)))
    (i1 i3 : S49) (c1 : k49.C W (some ⟨s + 6, 0, none⟩) 1 [i1]) (c3 : k49.C W (some ⟨s + 8, 0, none⟩) 1 [i3]) : k43.C W (some ⟨s + 9, 0, none⟩) (kinB i1 i3).length (kinB i1 i3) := by
  have c0 : k49.C W (some ⟨s + 4, 0, none⟩) 2 [⟨2, 0, 2, [], 5, 0⟩, ⟨4, 13, 1, [0, 2], 0, 0⟩] :=
    C_list k49 h4 [⟨2, 0, 2, [], 5, 0⟩, ⟨4, 13, 1, [0, 2], 0, 0⟩] (by simp) rfl (fun j h => by
      have : j = 0 ∨ j = 1 := by have : j < 2 := h; omega
      rcases this with rfl | rfl
      · exact k49_mk W ⟨2, 0, 2, [], 5, 0⟩ (Nat.le_refl 0) (Kd.C_nil _ _)
      · exact k49_mk W ⟨4, 13, 1, [0, 2], 0, 0⟩ (Nat.le_refl 2) (C_ints h3 [0, 2] (by simp) rfl))
  refine C_list k43 h9 (kinB i1 i3) (by simp [kinB]) rfl (fun j h => ?_)
  have : j = 0 ∨ j = 1 ∨ j = 2 ∨ j = 3 ∨ j = 4 := by have : j < 5 := h; omega
  rcases this with rfl | rfl | rfl | rfl | rfl
  · exact k43_mk W ⟨[⟨2, 0, 2, [], 5, 0⟩, ⟨4, 13, 1, [0, 2], 0, 0⟩], t0⟩ (Nat.le_refl 2) c0
  · exact k43_mk W ⟨[i1], t1⟩ (Nat.le_refl 1) c1
  · exact k43_mk W ⟨[], t1⟩ (Nat.le_refl 0) (Kd.C_nil _ _)
  · exact k43_mk W ⟨[i3], t3⟩ (Nat.le_refl 1) c3
  · exact k43_mk W ⟨[], t1⟩ (Nat.le_refl 0) (Kd.C_nil _ _)
theorem rows_C {W : World} {g t : Nat} {cs : Array Value} (hb : W.heap[g]? = some (.cells cs t (0, 0))) (xs : List (List Int)) (hl : xs.length ≤ 9223372036854775807) (hs : cs.size = xs.length) (hK : ∀ (j : Nat) (h : j < xs.length), ∃ A c, cs[j]? = some (.slice A xs[j].length c) ∧ xs[j].length ≤ c ∧ (Kd.int .i64).C W A xs[j].length xs[j]) : (Kd.slice 3 (Kd.int .i64)).C W (some ⟨g, 0, none⟩) xs.length xs := by
  refine C_list (Kd.slice 3 (Kd.int .i64)) hb xs hl (by rw [hs]; exact (Nat.mul_one _).symm) (fun j h => ?_)
  obtain ⟨A, c, h1, h2, h3⟩ := hK j h
  refine ⟨A, c, ?_, h2, h3⟩
  show (cs.toList.drop (j * 1)).take 1 = _
  rw [Nat.mul_one]
  apply List.ext_getElem?
  intro i
  cases i with
  | zero => simpa using h1
  | succ i => simp [List.getElem?_take]
end Go.Proofs.YtanhnfhpajaolaaDoor.Fo
/- The chapter's graph, with one instruction written over. -/
namespace Go.Proofs.YtanhnfhpajaolaaDoor.Fo
open Go Go.RowKit Go.Proofs.YtanhnfhpajaolaaDoorW.PrintWords Go.Proofs.YtanhnfhpajaolaaDoorW.PrintLast Go.Proofs.YtanhnfhpajaolaaDoorW.PrintMore Go.Proofs.YtanhnfhpajaolaaDoor.F
set_option linter.unusedVariables false
set_option linter.unusedSimpArgs false
def i1 : S49 := ⟨10, 0, 0, [0], 0, 0⟩
def i3 : S49 := ⟨1, 0, 2, [0, 2, 2], 0, 0⟩
def i3f : S49 := ⟨1, 0, 2, [0, 2], 0, 0⟩
def i1c (r : Int) : S49 := ⟨9, 0, 1, [2, 1], 0, r⟩
/-- Phi's arguments written over. -/
theorem few_C {s : Nat} {W : World} (h : Sm s W) {W6 : World} (e : (W.alloc (.cells #[.int .i64 0, .int .i64 2] 3)).setCell ⟨s + 8, 3, none⟩ (.slice (some ⟨W.heap.size, 0, none⟩) 2 2) = W6) :
    (Kd.int .i64).C W6 (some ⟨s + 1, 0, none⟩) 1 [0] ∧ (Kd.int .u8).C W6 (some ⟨s + 2, 0, none⟩) 3 [4, 1, 4] ∧ k43.C W6 (some ⟨s + 9, 0, none⟩) 5 (kinB i1 i3f) := by
  subst e
  have h' := h.below (below_alloc (Below.refl _ _) (.cells #[.int .i64 0, .int .i64 2] 3))
  have hn : (W.alloc (.cells #[.int .i64 0, .int .i64 2] 3)).heap[W.heap.size]? = some (.cells #[.int .i64 0, .int .i64 2] 3 (0, 0)) := at_new _ _ _ rfl
  have hne : W.heap.size ≠ s + 8 := fun e => by have := blk_lt h.b8; omega
  have far : ∀ (i : Nat) (o : Obj), i ≠ s + 8 → (W.alloc (.cells #[.int .i64 0, .int .i64 2] 3)).heap[i]? = some o → ((W.alloc (.cells #[.int .i64 0, .int .i64 2] 3)).setCell ⟨s + 8, 3, none⟩ (.slice (some ⟨W.heap.size, 0, none⟩) 2 2)).heap[i]? = some o := fun i o hi ho => (Below.heap_setCell _ _ _ _ hi).trans ho
  have b8 := blk_put h'.b8 3 (.slice (some ⟨W.heap.size, 0, none⟩) 2 2) rfl
  refine ⟨C_ints (far _ _ (by omega) h'.b1) [0] (by simp) rfl, C_ints (k := .u8) (far _ _ (by omega) h'.b2) [4, 1, 4] (by simp) rfl, ?_⟩
  refine kin_C (far _ _ (by omega) h'.b3) (far _ _ (by omega) h'.b4) (far _ _ (by omega) h'.b9) i1 i3f ?_ ?_
  · exact ins_one i1 (far _ _ (by omega) h'.b6) (Nat.le_refl 1) (C_ints (far _ _ (by omega) h'.b5) [0] (by simp) rfl)
  · exact ins_one i3f b8 (Nat.le_refl 2) (C_ints (far _ _ hne hn) [0, 2] (by simp) rfl)
/-- A call put in. -/
theorem call_C {s : Nat} {W : World} (h : Sm s W) (r : Int) {W6 : World} (e : ((((((W.alloc (.cells #[.int .i64 2, .int .i64 1] 3)).setCell ⟨s + 6, 0, none⟩ (.int .u8 9)).setCell ⟨s + 6, 1, none⟩ (.int .u8 0)).setCell ⟨s + 6, 2, none⟩ (.int .i64 1)).setCell ⟨s + 6, 3, none⟩ (.slice (some ⟨W.heap.size, 0, none⟩) 2 2)).setCell ⟨s + 6, 4, none⟩ (.int .u64 0)).setCell ⟨s + 6, 5, none⟩ (.int .i64 r) = W6) :
    (Kd.int .i64).C W6 (some ⟨s + 1, 0, none⟩) 1 [0] ∧ (Kd.int .u8).C W6 (some ⟨s + 2, 0, none⟩) 3 [4, 1, 4] ∧ k43.C W6 (some ⟨s + 9, 0, none⟩) 5 (kinB (i1c r) i3) := by
  subst e
  have h' := h.below (below_alloc (Below.refl _ _) (.cells #[.int .i64 2, .int .i64 1] 3))
  have hn : (W.alloc (.cells #[.int .i64 2, .int .i64 1] 3)).heap[W.heap.size]? = some (.cells #[.int .i64 2, .int .i64 1] 3 (0, 0)) := at_new _ _ _ rfl
  have hne : W.heap.size ≠ s + 6 := fun e => by have := blk_lt h.b6; omega
  have far : ∀ (i : Nat) (o : Obj), i ≠ s + 6 → (W.alloc (.cells #[.int .i64 2, .int .i64 1] 3)).heap[i]? = some o → (((((((W.alloc (.cells #[.int .i64 2, .int .i64 1] 3)).setCell ⟨s + 6, 0, none⟩ (.int .u8 9)).setCell ⟨s + 6, 1, none⟩ (.int .u8 0)).setCell ⟨s + 6, 2, none⟩ (.int .i64 1)).setCell ⟨s + 6, 3, none⟩ (.slice (some ⟨W.heap.size, 0, none⟩) 2 2)).setCell ⟨s + 6, 4, none⟩ (.int .u64 0)).setCell ⟨s + 6, 5, none⟩ (.int .i64 r)).heap[i]? = some o := fun i o hi ho => (Below.heap_setCell _ _ _ _ hi).trans ((Below.heap_setCell _ _ _ _ hi).trans ((Below.heap_setCell _ _ _ _ hi).trans ((Below.heap_setCell _ _ _ _ hi).trans ((Below.heap_setCell _ _ _ _ hi).trans ((Below.heap_setCell _ _ _ _ hi).trans ho)))))
  have b6 := blk_put (blk_put (blk_put (blk_put (blk_put (blk_put h'.b6 0 (.int .u8 9) rfl) 1 (.int .u8 0) rfl) 2 (.int .i64 1) rfl) 3 (.slice (some ⟨W.heap.size, 0, none⟩) 2 2) rfl) 4 (.int .u64 0) rfl) 5 (.int .i64 r) rfl
  refine ⟨C_ints (far _ _ (by omega) h'.b1) [0] (by simp) rfl, C_ints (k := .u8) (far _ _ (by omega) h'.b2) [4, 1, 4] (by simp) rfl, ?_⟩
  refine kin_C (far _ _ (by omega) h'.b3) (far _ _ (by omega) h'.b4) (far _ _ (by omega) h'.b9) (i1c r) i3 ?_ ?_
  · exact ins_one (i1c r) b6 (Nat.le_refl 2) (C_ints (far _ _ hne hn) [2, 1] (by simp) rfl)
  · exact ins_one i3 (far _ _ (by omega) h'.b8) (Nat.le_refl 3) (C_ints (far _ _ (by omega) h'.b7) [0, 2, 2] (by simp) rfl)
end Go.Proofs.YtanhnfhpajaolaaDoor.Fo
/- Rows written out. -/
namespace Go.Proofs.YtanhnfhpajaolaaDoor.Fo
open Go Go.RowKit Go.Proofs.YtanhnfhpajaolaaDoorW.PrintWords Go.Proofs.YtanhnfhpajaolaaDoorW.PrintLast Go.Proofs.YtanhnfhpajaolaaDoorW.PrintMore Go.Proofs.YtanhnfhpajaolaaDoor.F
set_option linter.unusedVariables false
set_option linter.unusedSimpArgs false
theorem litA (W : World) : (Kd.slice 3 (Kd.int .i64)).C (((((W.alloc (.cells #[.int .i64 0] 3)).alloc (.cells #[.int .i64 0] 3)).alloc (.cells #[.int .i64 2] 3)).alloc (.cells #[.int .i64 2] 3)).alloc (.cells #[.slice (some ⟨W.heap.size, 0, none⟩) 1 1, .slice (some ⟨W.heap.size + 1, 0, none⟩) 1 1, .slice (some ⟨W.heap.size + 1 + 1, 0, none⟩) 1 1, .slice none 0 0, .slice (some ⟨W.heap.size + 1 + 1 + 1, 0, none⟩) 1 1] 22)) (some ⟨W.heap.size + 1 + 1 + 1 + 1, 0, none⟩) ([[0], [0], [2], [], [2]] : List (List Int)).length [[0], [0], [2], [], [2]] := by
  refine rows_C (at_new _ _ _ (by simp only [size_alo])) [[0], [0], [2], [], [2]] (by simp) rfl (fun j h => ?_)
  have : j = 0 ∨ j = 1 ∨ j = 2 ∨ j = 3 ∨ j = 4 := by have : j < 5 := h; omega
  rcases this with rfl | rfl | rfl | rfl | rfl
  · exact ⟨_, _, rfl, Nat.le_refl 1, C_ints (at_old _ _ _ _ (at_old _ _ _ _ (at_old _ _ _ _ (at_old _ _ _ _ (at_new _ _ _ (by rfl)))))) [0] (by simp) rfl⟩
  · exact ⟨_, _, rfl, Nat.le_refl 1, C_ints (at_old _ _ _ _ (at_old _ _ _ _ (at_old _ _ _ _ (at_new _ _ _ (by simp only [size_alo]))))) [0] (by simp) rfl⟩
  · exact ⟨_, _, rfl, Nat.le_refl 1, C_ints (at_old _ _ _ _ (at_old _ _ _ _ (at_new _ _ _ (by simp only [size_alo])))) [2] (by simp) rfl⟩
  · exact ⟨none, 0, rfl, Nat.le_refl 0, Kd.C_nil _ _⟩
  · exact ⟨_, _, rfl, Nat.le_refl 1, C_ints (at_old _ _ _ _ (at_new _ _ _ (by simp only [size_alo]))) [2] (by simp) rfl⟩
theorem litB (W : World) : (Kd.slice 3 (Kd.int .i64)).C (((((W.alloc (.cells #[.int .i64 0, .int .i64 2] 3)).alloc (.cells #[.int .i64 0] 3)).alloc (.cells #[.int .i64 2] 3)).alloc (.cells #[.int .i64 2] 3)).alloc (.cells #[.slice (some ⟨W.heap.size, 0, none⟩) 2 2, .slice (some ⟨W.heap.size + 1, 0, none⟩) 1 1, .slice (some ⟨W.heap.size + 1 + 1, 0, none⟩) 1 1, .slice none 0 0, .slice (some ⟨W.heap.size + 1 + 1 + 1, 0, none⟩) 1 1] 22)) (some ⟨W.heap.size + 1 + 1 + 1 + 1, 0, none⟩) ([[0, 2], [0], [2], [], [2]] : List (List Int)).length [[0, 2], [0], [2], [], [2]] := by
  refine rows_C (at_new _ _ _ (by simp only [size_alo])) [[0, 2], [0], [2], [], [2]] (by simp) rfl (fun j h => ?_)
  have : j = 0 ∨ j = 1 ∨ j = 2 ∨ j = 3 ∨ j = 4 := by have : j < 5 := h; omega
  rcases this with rfl | rfl | rfl | rfl | rfl
  · exact ⟨_, _, rfl, Nat.le_refl 2, C_ints (at_old _ _ _ _ (at_old _ _ _ _ (at_old _ _ _ _ (at_old _ _ _ _ (at_new _ _ _ (by rfl)))))) [0, 2] (by simp) rfl⟩
  · exact ⟨_, _, rfl, Nat.le_refl 1, C_ints (at_old _ _ _ _ (at_old _ _ _ _ (at_old _ _ _ _ (at_new _ _ _ (by simp only [size_alo]))))) [0] (by simp) rfl⟩
  · exact ⟨_, _, rfl, Nat.le_refl 1, C_ints (at_old _ _ _ _ (at_old _ _ _ _ (at_new _ _ _ (by simp only [size_alo])))) [2] (by simp) rfl⟩
  · exact ⟨none, 0, rfl, Nat.le_refl 0, Kd.C_nil _ _⟩
  · exact ⟨_, _, rfl, Nat.le_refl 1, C_ints (at_old _ _ _ _ (at_new _ _ _ (by simp only [size_alo]))) [2] (by simp) rfl⟩
theorem litC (W : World) : (Kd.slice 3 (Kd.int .i64)).C (((((W.alloc (.cells #[.int .i64 0] 3)).alloc (.cells #[.int .i64 0, .int .i64 1, .int .i64 2] 3)).alloc (.cells #[.int .i64 2] 3)).alloc (.cells #[.int .i64 2] 3)).alloc (.cells #[.slice (some ⟨W.heap.size, 0, none⟩) 1 1, .slice (some ⟨W.heap.size + 1, 0, none⟩) 3 3, .slice (some ⟨W.heap.size + 1 + 1, 0, none⟩) 1 1, .slice none 0 0, .slice (some ⟨W.heap.size + 1 + 1 + 1, 0, none⟩) 1 1] 22)) (some ⟨W.heap.size + 1 + 1 + 1 + 1, 0, none⟩) ([[0], [0, 1, 2], [2], [], [2]] : List (List Int)).length [[0], [0, 1, 2], [2], [], [2]] := by
  refine rows_C (at_new _ _ _ (by simp only [size_alo])) [[0], [0, 1, 2], [2], [], [2]] (by simp) rfl (fun j h => ?_)
  have : j = 0 ∨ j = 1 ∨ j = 2 ∨ j = 3 ∨ j = 4 := by have : j < 5 := h; omega
  rcases this with rfl | rfl | rfl | rfl | rfl
  · exact ⟨_, _, rfl, Nat.le_refl 1, C_ints (at_old _ _ _ _ (at_old _ _ _ _ (at_old _ _ _ _ (at_old _ _ _ _ (at_new _ _ _ (by rfl)))))) [0] (by simp) rfl⟩
  · exact ⟨_, _, rfl, Nat.le_refl 3, C_ints (at_old _ _ _ _ (at_old _ _ _ _ (at_old _ _ _ _ (at_new _ _ _ (by simp only [size_alo]))))) [0, 1, 2] (by simp) rfl⟩
  · exact ⟨_, _, rfl, Nat.le_refl 1, C_ints (at_old _ _ _ _ (at_old _ _ _ _ (at_new _ _ _ (by simp only [size_alo])))) [2] (by simp) rfl⟩
  · exact ⟨none, 0, rfl, Nat.le_refl 0, Kd.C_nil _ _⟩
  · exact ⟨_, _, rfl, Nat.le_refl 1, C_ints (at_old _ _ _ _ (at_new _ _ _ (by simp only [size_alo]))) [2] (by simp) rfl⟩
theorem litD (W : World) : (Kd.slice 3 (Kd.int .i64)).C ((W.alloc (.cells #[.int .i64 0] 3)).alloc (.cells #[.slice (some ⟨W.heap.size, 0, none⟩) 1 1] 22)) (some ⟨W.heap.size + 1, 0, none⟩) ([[0]] : List (List Int)).length [[0]] := by
  refine rows_C (at_new _ _ _ (by simp only [size_alo])) [[0]] (by simp) rfl (fun j h => ?_)
  have : j = 0 := by have : j < 1 := h; omega
  subst this
  · exact ⟨_, _, rfl, Nat.le_refl 1, C_ints (at_old _ _ _ _ (at_new _ _ _ (by rfl))) [0] (by simp) rfl⟩
theorem litE (W : World) : (Kd.slice 3 (Kd.int .i64)).C (W.alloc (.cells #[.slice none 0 0] 22)) (some ⟨W.heap.size, 0, none⟩) ([[]] : List (List Int)).length [[]] := by
  refine rows_C (at_new _ _ _ (by simp only [size_alo])) [[]] (by simp) rfl (fun j h => ?_)
  have : j = 0 := by have : j < 1 := h; omega
  subst this
  · exact ⟨none, 0, rfl, Nat.le_refl 0, Kd.C_nil _ _⟩
theorem bq5 (W : World) (o1 o2 o3 o4 o5 : Obj) : Below W.heap.size W (((((W.alloc o1).alloc o2).alloc o3).alloc o4).alloc o5) := below_alloc (below_alloc (below_alloc (below_alloc (below_alloc (Below.refl _ _) _) _) _) _) _
theorem bq2 (W : World) (o1 o2 : Obj) : Below W.heap.size W ((W.alloc o1).alloc o2) := below_alloc (below_alloc (Below.refl _ _) _) _
theorem bq1 (W : World) (o1 : Obj) : Below W.heap.size W (W.alloc o1) := below_alloc (Below.refl _ _) _
theorem litF (W : World) : (Kd.int .i64).C (W.alloc (.cells #[.int .i64 0, .int .i64 1, .int .i64 2] 3)) (some ⟨W.heap.size, 0, none⟩) [0, 1, 2].length [0, 1, 2] := C_ints (at_new _ _ _ rfl) [0, 1, 2] (by simp) rfl
end Go.Proofs.YtanhnfhpajaolaaDoor.Fo
