/- Texts of this proof, joined in build order: Ck, El, Al, Rg. -/
import Derived.Test.YtanhnfhpajaolaaDoorJ06
import Derived.StillTailTactics
/- graph.Check. -/
namespace Go.Proofs.YtanhnfhpajaolaaDoor.Fo
open Go Go.RowKit Go.Proofs.YtanhnfhpajaolaaDoorW.PrintWords Go.Proofs.YtanhnfhpajaolaaDoorW.PrintLast Go.Proofs.YtanhnfhpajaolaaDoorW.PrintMore Go.Proofs.YtanhnfhpajaolaaDoor.F Go.Proofs.YtanhnfhpajaolaaDoor.Cf Go.Proofs.YtanhnfhpajaolaaDoor.Sc
set_option linter.unusedVariables false
set_option linter.unusedSimpArgs false
def checkGo (p : List S28) : Nat → Nat → Int × Int
  | 0, _ => (0, 0)
  | d + 1, i => if rightG p (rd_T28 p i) = true then checkGo p d (i + 1) else (4, (i : Int))
def checkG (p : List S28) : Int × Int := if 64 < p.length then (3, 0) else checkGo p p.length 0
def sizesP (p : List S28) : Prop := ∀ g ∈ p, g.f1.length ≤ 281474976710656 ∧ sizesG g
theorem rd28_mem {l : List S28} {i : Nat} (h : i < l.length) : rd_T28 l (i : Int) ∈ l := by
  unfold rd_T28; rw [Int.toNat_natCast, List.getD_eq_getElem?_getD, List.getElem?_eq_getElem h]; exact List.getElem_mem h
set_option maxHeartbeats 4000000 in
set_option maxRecDepth 100000 in
theorem check_calls (p : List S28) (A0 : Option Addr) (c0 : Nat) (w : World) (hg : Kd.C k181 w (some ⟨2, 0, none⟩) 11 formsT) (hr0 : Kd.C k28 w A0 p.length p) (hc0 : p.length ≤ c0) (hs : sizesP p) (r : Int × Int) (h : checkG p = r) :
    Calls Tryd.prog 21 #[.slice A0 p.length c0] w fun e w' => e = .returned (.tuple #[.int .i64 r.1, .int .i64 r.2]) ∧ Below w.heap.size w w' := by
  by_cases hl : 64 < p.length
  · unfold checkG at h
    rw [if_pos hl] at h
    subst h
    clear hg hr0 hc0 hs
    go_enter Tryd.func21, Tryd.ntmps21
    go_wp2
    go_ret2
    exact ⟨rfl, Below.refl _ _⟩
  · unfold checkG at h
    rw [if_neg hl] at h
    have HG := Aside0.mk hg
    have HR0 := Aside0.mk hr0
    have HC0 := Aside0.mk hc0
    have HS := Aside0.mk hs
    have H := Aside0.mk h
    have HP := Aside0.mk (fun g hgp => (hs g hgp).1 : ∀ g ∈ p, g.f1.length ≤ 281474976710656)
    clear hg hr0 hc0 hs h
    go_enter Tryd.func21, Tryd.ntmps21
    go_wp2
    go_loopw [11] (fun v11 wr => ∃ k : Nat, k ≤ p.length ∧ v11 = .int .i64 k ∧ Aside0 (checkGo p (p.length - k) k = r) ∧ Aside0 (Below w.heap.size w wr)) (fun v11 _ => p.length - (intOf v11).toNat)
    case atStart => exact ⟨0, Nat.zero_le _, rfl, H, ⟨Below.refl _ _⟩⟩
    case round =>
      clear H
      obtain ⟨k, hk, rfl, HA, HB⟩ := hrel
      by_cases hlt : k < p.length
      · obtain ⟨ad, A1, c1, A3, c3, A4, c4, A5, c5, hAA, hx0, hx1, hx2, hx3, hx4, hx5, hl1, hi1, hl3, hi3, hl4, hi4, hl5, hi5⟩ := at_T28 HR0.out (k : Int) (by omega) (by omega)
        subst hAA
        simp only [Int.toNat_natCast] at hx0 hx1 hx2 hx3 hx4 hx5
        replace hx0 := pw_cell_below HB.out hx0
        replace hx1 := pw_cell_below HB.out hx1
        replace hx2 := pw_cell_below HB.out hx2
        replace hx3 := pw_cell_below HB.out hx3
        replace hx4 := pw_cell_below HB.out hx4
        replace hx5 := pw_cell_below HB.out hx5
        have hA := HA.out
        rw [show p.length - k = (p.length - (k + 1)) + 1 by omega, checkGo] at hA
        have hsg := (HS.out _ (rd28_mem hlt)).2
        generalize rd_T28 p (k : Int) = g at *
        obtain ⟨b, hb⟩ : ∃ b, rightG p g = b := ⟨_, rfl⟩
        rw [hb] at hA
        have HQ := Aside0.mk hb
        have HSG := Aside0.mk hsg
        have H1 := Aside0.mk hi1
        have H3 := Aside0.mk hi3
        have H4 := Aside0.mk hi4
        have H5 := Aside0.mk hi5
        have L1 := Aside0.mk hl1
        have L3 := Aside0.mk hl3
        have L4 := Aside0.mk hl4
        have L5 := Aside0.mk hl5
        have HW := Aside0.mk (below_alloc HB.out (.cells #[.string g.f0, .slice A1 g.f1.length c1, .int .u8 g.f2, .slice A3 g.f3.length c3, .slice A4 g.f4.length c4, .slice A5 g.f5.length c5] 28))
        clear hb hsg hi1 hi3 hi4 hi5 hl1 hl3 hl4 hl5 HA
        cases b with
        | false =>
          rw [if_neg (by decide)] at hA
          subst hA
          go_wp2_with (go_at_call 56; refine (right_calls_ p _ c0 g _ _ _ _ _ _ _ _ _ (Kd.C_below HG.out HW.out) (Kd.C_below HR0.out HW.out) HC0.out (Kd.C_below H1.out HW.out) L1.out (Kd.C_below H3.out HW.out) L3.out (Kd.C_below H4.out HW.out) L4.out (Kd.C_below H5.out HW.out) L5.out HP.out HSG.out false HQ.out).mono ?_; rintro e w5 ⟨rfl, hb5⟩; have HW5 := Aside0.mk (below_step HW.out hb5); clear hb5)
          go_ret2
          exact ⟨rfl, HW5.out⟩
        | true =>
          rw [if_pos rfl] at hA
          have HA := Aside0.mk hA
          clear hA
          go_wp2_with (go_at_call 56; refine (right_calls_ p _ c0 g _ _ _ _ _ _ _ _ _ (Kd.C_below HG.out HW.out) (Kd.C_below HR0.out HW.out) HC0.out (Kd.C_below H1.out HW.out) L1.out (Kd.C_below H3.out HW.out) L3.out (Kd.C_below H4.out HW.out) L4.out (Kd.C_below H5.out HW.out) L5.out HP.out HSG.out true HQ.out).mono ?_; rintro e w5 ⟨rfl, hb5⟩; have HW5 := Aside0.mk (below_step HW.out hb5); clear hb5)
          go_roundw
          case rel => exact ⟨k + 1, by omega, by go_num, HA, HW5⟩
          case measure => simp [intOf]; omega
      · obtain rfl : k = p.length := by omega
        have hA := HA.out
        rw [Nat.sub_self, checkGo] at hA
        subst hA
        clear HA
        go_wp2
        go_ret2
        exact ⟨rfl, HB.out⟩
end Go.Proofs.YtanhnfhpajaolaaDoor.Fo
/- Rows of the call's own whose elements' rows are those of a world that came in (W0): kE, kB. -/
namespace Go.Proofs.YtanhnfhpajaolaaDoor.Fo
open Go Go.RowKit Go.Proofs.YtanhnfhpajaolaaDoorW.PrintWords Go.Proofs.YtanhnfhpajaolaaDoorW.PrintLast Go.Proofs.YtanhnfhpajaolaaDoorW.PrintMore Go.Proofs.YtanhnfhpajaolaaDoor.F Go.Proofs.YtanhnfhpajaolaaDoor.Cf Go.Proofs.YtanhnfhpajaolaaDoor.Sc
set_option linter.unusedVariables false
set_option linter.unusedSimpArgs false
def kE (W0 : World) : Kd S49 where
  sz := 6
  E := []
  K := fun _ x cs => ∃ A c, cs = [.int .u8 x.f0, .int .u8 x.f1, .int .i64 x.f2, .slice A x.f3.length c, .int .u64 x.f4, .int .i64 x.f5] ∧ x.f3.length ≤ c ∧ (Kd.int .i64).C W0 A x.f3.length x.f3
  M := fun _ _ _ x cs => ∃ A c, cs = [.int .u8 x.f0, .int .u8 x.f1, .int .i64 x.f2, .slice A x.f3.length c, .int .u64 x.f4, .int .i64 x.f5] ∧ x.f3.length ≤ c ∧ (Kd.int .i64).C W0 A x.f3.length x.f3
  K_len := by
    rintro w x cs ⟨A, c, rfl, _⟩
    rfl
  K_one := by
    rintro w x cs ⟨A, c, rfl, _⟩ u hu
    simp only [List.mem_cons, List.not_mem_nil, or_false] at hu
    rcases hu with rfl | rfl | rfl | rfl | rfl | rfl <;> rfl
  K_below := fun _ h => h
  K_of_M := fun h => h
  M_mono := fun _ h => h
  M_bound := fun h => h
  M_move := fun _ h => h
  M_lower := fun _ h => h
def kB (W0 : World) : Kd S43 := Kd.iso (Kd.pair (Kd.slice 49 (kE W0)) k40) (fun x : S43 => (x.f0, x.f1))
theorem C_conv {α : Type} {d d' : Kd α} (hs : d.sz = d'.sz) {w : World} (h : ∀ x cs, d.K w x cs → d'.K w x cs) {A : Option Addr} {n : Nat} {xs : List α} (hc : d.C w A n xs) : d'.C w A n xs := by
  unfold Kd.C at hc ⊢
  rw [← hs]
  refine ⟨hc.1, hc.2.1, fun hn => ?_⟩
  obtain ⟨ad, e, hcl⟩ := hc.2.2 hn
  exact ⟨ad, e, fun j p hj => by
    obtain ⟨c, h1, h2, h3⟩ := hcl j p hj
    exact ⟨c, h1, h _ _ h2, h3⟩⟩
theorem kE_to {W0 w : World} (hb : Below W0.heap.size W0 w) {x : S49} {cs : List Value} (h : (kE W0).K w x cs) : k49.K w x cs := by
  obtain ⟨A, c, rfl, hc, hr⟩ := h
  exact k49_mk w x hc (Kd.C_below hr hb)
theorem kB_to {W0 w : World} (hb : Below W0.heap.size W0 w) {x : S43} {cs : List Value} (h : (kB W0).K w x cs) : k43.K w x cs := by
  obtain ⟨c0, c1, rfl, ⟨A, c, rfl, hc, hr⟩, h1⟩ := h
  exact ⟨_, _, rfl, ⟨A, c, rfl, hc, C_conv (d := kE W0) (d' := k49) rfl (fun _ _ => kE_to hb) hr⟩, h1⟩
theorem kB_C {W0 w : World} (hb : Below W0.heap.size W0 w) {A : Option Addr} {n : Nat} {xs : List S43} (h : (kB W0).C w A n xs) : k43.C w A n xs := C_conv (d := kB W0) (d' := k43) rfl (fun _ _ => kB_to hb) h
theorem kE_mk {W0 : World} (w : World) (base : Nat) (ok : Nat → Prop) (x : S49) {A : Option Addr} {c : Nat} (hc : x.f3.length ≤ c) (hr : (Kd.int .i64).C W0 A x.f3.length x.f3) : (kE W0).M w base ok x [.int .u8 x.f0, .int .u8 x.f1, .int .i64 x.f2, .slice A x.f3.length c, .int .u64 x.f4, .int .i64 x.f5] := ⟨A, c, rfl, hc, hr⟩
theorem kB_mk {W0 : World} (w : World) (base : Nat) (ok : Nat → Prop) (x : S43) {v : Value} (hr : (kE W0).R 49 w base ok v x.f0) : (kB W0).M w base ok x [v, .int .u8 x.f1.f0, .int .i64 x.f1.f1, .int .i64 x.f1.f2.f0, .int .i64 x.f1.f2.f1, .int .u8 x.f1.f3] := by
  refine ⟨[v], _, rfl, ⟨v, rfl, hr⟩, ?_⟩
  exact k40_mkM w base ok x.f1
/-- What an instruction becomes for the graph by itself; nothing: it may not stand. -/
def aloneIns (vars : List Int) (x : S49) : Option S49 :=
  if x.f0 = 9 then (if (inB x.f2 vars.length && (decide (0 ≤ x.f5) && (x.f1 == 0 && x.f4 == 0))) && allFrom (fun m => inB (rd x.f3 m) vars.length) x.f3.length 0 then some ⟨2, 0, x.f2, [], cutG (rd vars x.f2) 0, 0⟩ else none) else some x
def goI (vars : List Int) : List S49 → List S49 → Option (List S49)
  | ls, [] => some ls
  | ls, x :: t => (aloneIns vars x).bind fun y => goI vars (ls ++ [y]) t
def goB (vars : List Int) : List S43 → List S43 → Option (List S43)
  | bs, [] => some bs
  | bs, b :: t => (goI vars [] b.f0).bind fun ls => goB vars (bs ++ [⟨ls, b.f1⟩]) t
def aloneG (g : S28) : Bool := match goB g.f3 [] g.f5 with
  | none => false
  | some bs => (checkG [{ g with f5 := bs }]).1 == 0
theorem clo_in (B : Nat) (v : Int) (A3 : Option Addr) (n c3 : Nat) (w : World) (hb : w.cell? ⟨B, 3, none⟩ = some (.slice A3 n c3)) (b : Bool) (h : inB v (n : Int) = b) :
    Calls Tryd.prog 75 #[.int .i64 v, .pointer (some ⟨B, 0, none⟩)] w fun e w' => e = .returned (.bool b) ∧ w = w' := by
  subst h
  go_enter Tryd.func75, Tryd.ntmps75
  go_wp2
  all_goals (go_ret; exact ⟨by simp_all [inB] <;> (intros; omega), rfl⟩)
theorem C28_lit (wr : World) (x : S28) {A1 A3 A4 A5 : Option Addr} {c1 c3 c4 c5 : Nat} (l1 : x.f1.length ≤ c1) (g1 : (Kd.int .i64).C wr A1 x.f1.length x.f1) (l3 : x.f3.length ≤ c3) (g3 : (Kd.int .u8).C wr A3 x.f3.length x.f3) (l4 : x.f4.length ≤ c4) (g4 : k113.C wr A4 x.f4.length x.f4) (l5 : x.f5.length ≤ c5) (g5 : k43.C wr A5 x.f5.length x.f5) :
    Kd.C k28 (wr.alloc (.cells #[.string x.f0, .slice A1 x.f1.length c1, .int .u8 x.f2, .slice A3 x.f3.length c3, .slice A4 x.f4.length c4, .slice A5 x.f5.length c5] 28)) (some ⟨wr.heap.size, 0, none⟩) [x].length [x] := by
  refine ⟨rfl, by simp, fun _ => ⟨⟨wr.heap.size, 0, none⟩, rfl, fun j p hj => ?_⟩⟩
  have hj0 : j = 0 := by
    have := (List.getElem?_eq_some_iff.1 hj).1
    simpa using this
  subst hj0
  have hp : x = p := by simpa using hj
  subst hp
  have hb := below_alloc (Below.refl wr.heap.size wr) (.cells #[.string x.f0, .slice A1 x.f1.length c1, .int .u8 x.f2, .slice A3 x.f3.length c3, .slice A4 x.f4.length c4, .slice A5 x.f5.length c5] 28)
  refine ⟨_, rfl, k28_mk _ x l1 (Kd.C_below g1 hb) l3 (Kd.C_below g3 hb) l4 (Kd.C_below g4 hb) l5 (Kd.C_below g5 hb), fun i u hu => ?_⟩
  rw [Nat.zero_mul, Nat.zero_add, addr0]
  rw [blk_cell (blk_new wr _) i]
  simpa using hu
theorem goI_sizes (vars : List Int) : ∀ (xs ls out : List S49), goI vars ls xs = some out → (∀ x ∈ xs, x.f3.length ≤ 281474976710656) → (∀ x ∈ ls, x.f3.length ≤ 281474976710656) → out.length = ls.length + xs.length ∧ ∀ x ∈ out, x.f3.length ≤ 281474976710656
  | [], ls, out, h, _, h2 => by
    rw [goI] at h
    obtain rfl := Option.some.inj h
    exact ⟨by simp, h2⟩
  | x :: xs, ls, out, h, h1, h2 => by
    rw [goI] at h
    obtain ⟨y, hy, h⟩ := Option.bind_eq_some_iff.1 h
    have hyl : y.f3.length ≤ 281474976710656 := by
      unfold aloneIns at hy
      split at hy
      · split at hy
        · obtain rfl := Option.some.inj hy
          simp
        · cases hy
      · obtain rfl := Option.some.inj hy
        exact h1 _ (by simp)
    obtain ⟨h3, h4⟩ := goI_sizes vars xs (ls ++ [y]) out h (fun z hz => h1 z (by simp [hz])) (fun z hz => by
      rcases List.mem_append.1 hz with hz | hz
      · exact h2 z hz
      · rw [List.mem_singleton.1 hz]; exact hyl)
    exact ⟨by rw [h3]; simp; omega, h4⟩
theorem goB_sizes (vars : List Int) : ∀ (xs bs out : List S43), goB vars bs xs = some out → (∀ b ∈ xs, b.f0.length ≤ 1099511627776 ∧ ∀ x ∈ b.f0, x.f3.length ≤ 281474976710656) → (∀ b ∈ bs, b.f0.length < 17592186044416 ∧ ∀ x ∈ b.f0, x.f3.length ≤ 281474976710656) → ∀ b ∈ out, b.f0.length < 17592186044416 ∧ ∀ x ∈ b.f0, x.f3.length ≤ 281474976710656
  | [], bs, out, h, _, h2 => by
    rw [goB] at h
    obtain rfl := Option.some.inj h
    exact h2
  | b :: xs, bs, out, h, h1, h2 => by
    rw [goB] at h
    obtain ⟨ls, hl, h⟩ := Option.bind_eq_some_iff.1 h
    have hb := h1 b (by simp)
    obtain ⟨h3, h4⟩ := goI_sizes vars b.f0 [] ls hl hb.2 (by simp)
    refine goB_sizes vars xs _ out h (fun z hz => h1 z (by simp [hz])) (fun z hz => ?_)
    rcases List.mem_append.1 hz with hz | hz
    · exact h2 z hz
    · rw [List.mem_singleton.1 hz]
      exact ⟨by show ls.length < _; rw [h3]; simp; omega, h4⟩
def sizesA (g : S28) : Prop := g.f1.length ≤ 281474976710656 ∧ g.f5.length ≤ 1099511627776 ∧ ∀ b ∈ g.f5, b.f0.length ≤ 1099511627776 ∧ ∀ x ∈ b.f0, x.f3.length ≤ 281474976710656
theorem sizes_own {g : S28} (hs : sizesA g) (bs : List S43) (h : goB g.f3 [] g.f5 = some bs) : sizesP [⟨g.f0, g.f1, g.f2, g.f3, g.f4, bs⟩] := by
  intro x hx
  rw [List.mem_singleton.1 hx]
  exact ⟨hs.1, goB_sizes g.f3 g.f5 [] bs h hs.2.2 (by simp)⟩
end Go.Proofs.YtanhnfhpajaolaaDoor.Fo
/- live.alone. -/
namespace Go.Proofs.YtanhnfhpajaolaaDoor.Fo
open Go Go.RowKit Go.Proofs.YtanhnfhpajaolaaDoorW.PrintWords Go.Proofs.YtanhnfhpajaolaaDoorW.PrintLast Go.Proofs.YtanhnfhpajaolaaDoorW.PrintMore Go.Proofs.YtanhnfhpajaolaaDoor.F Go.Proofs.YtanhnfhpajaolaaDoor.Cf Go.Proofs.YtanhnfhpajaolaaDoor.Sc
set_option linter.unusedVariables false
set_option linter.unusedSimpArgs false
set_option maxHeartbeats 40000000 in
set_option maxRecDepth 100000 in
theorem alone_calls (g : S28) (A1 A3 A4 A5 : Option Addr) (c1 c3 c4 c5 : Nat) (w : World)
    (hg : Kd.C k181 w (some ⟨2, 0, none⟩) 11 formsT) (hr1 : Kd.C (Kd.int .i64) w A1 g.f1.length g.f1) (hc1 : g.f1.length ≤ c1) (hr3 : Kd.C (Kd.int .u8) w A3 g.f3.length g.f3) (hc3 : g.f3.length ≤ c3) (hr4 : Kd.C k113 w A4 g.f4.length g.f4) (hc4 : g.f4.length ≤ c4) (hr5 : Kd.C k43 w A5 g.f5.length g.f5) (hc5 : g.f5.length ≤ c5) (hs : sizesA g) (r : Bool) (h : aloneG g = r) :
    Calls Tryd.prog 46 #[.agg #[.string g.f0, .slice A1 g.f1.length c1, .int .u8 g.f2, .slice A3 g.f3.length c3, .slice A4 g.f4.length c4, .slice A5 g.f5.length c5]] w fun e w' => e = .returned (.bool r) ∧ Below w.heap.size w w' := by
  obtain ⟨res, hres⟩ : ∃ res, goB g.f3 [] g.f5 = res := ⟨_, rfl⟩
  unfold aloneG at h
  rw [hres] at h
  have HRES := Aside0.mk hres
  have H := Aside0.mk h
  have HG := Aside0.mk hg
  have HR1 := Aside0.mk hr1
  have HC1 := Aside0.mk hc1
  have HR3 := Aside0.mk hr3
  have HC3 := Aside0.mk hc3
  have HR4 := Aside0.mk hr4
  have HC4 := Aside0.mk hc4
  have HR5 := Aside0.mk hr5
  have HC5 := Aside0.mk hc5
  have HS := Aside0.mk hs
  have HW1 := Aside0.mk (below_alloc (Below.refl w.heap.size w) (.cells (#[.string g.f0, .slice A1 g.f1.length c1, .int .u8 g.f2, .slice A3 g.f3.length c3, .slice A4 g.f4.length c4, .slice A5 g.f5.length c5] : Array Value) 28))
  have HBK := Aside0.mk (blk_new w (.cells (#[.string g.f0, .slice A1 g.f1.length c1, .int .u8 g.f2, .slice A3 g.f3.length c3, .slice A4 g.f4.length c4, .slice A5 g.f5.length c5] : Array Value) 28))
  have hz : (w.alloc (.cells #[.string g.f0, .slice A1 g.f1.length c1, .int .u8 g.f2, .slice A3 g.f3.length c3, .slice A4 g.f4.length c4, .slice A5 g.f5.length c5] 28)).heap.size = w.heap.size + 1 := by simp
  have HZ := Aside0.mk hz
  obtain ⟨W1, hW1⟩ : ∃ W1, W1 = (w.alloc (.cells #[.string g.f0, .slice A1 g.f1.length c1, .int .u8 g.f2, .slice A3 g.f3.length c3, .slice A4 g.f4.length c4, .slice A5 g.f5.length c5] 28)) := ⟨_, rfl⟩
  rw [← hW1] at HW1 HBK HZ
  have HEQ := Aside0.mk hW1
  have hgl : g.f5.length ≤ 1099511627776 := hs.2.1
  clear hg hr1 hc1 hr3 hc3 hr4 hc4 hr5 hc5 hs h hres hz hW1
  go_enter Tryd.func46, Tryd.ntmps46
  go_wp2
  go_loopw [20] (fun v20 wr => ∃ k : Nat, k ≤ g.f5.length ∧ v20 = .int .i64 k ∧ ∃ (hv : Value) (bs : List S43), Aside0 (goB g.f3 bs (g.f5.drop k) = res) ∧ Aside0 (bs.length = k) ∧ Aside0 (wr.heap[w.heap.size + 1]? = some (.cells #[.string g.f0, .slice A1 g.f1.length c1, .int .u8 g.f2, .slice A3 g.f3.length c3, .slice A4 g.f4.length c4, hv] 28 (0, 0))) ∧ Aside0 ((kB w).R 43 wr (w.heap.size + 1) (fun _ => True) hv bs) ∧ Aside0 (Below (w.heap.size + 1) W1 wr)) (fun v20 _ => g.f5.length - (intOf v20).toNat)
  case atStart =>
    refine ⟨0, Nat.zero_le _, rfl, .slice none 0 0, [], ⟨by rw [List.drop_zero]; exact HRES.out⟩, ⟨rfl⟩, ⟨?_⟩, ⟨Kd.R_nil _ _ _ _ _⟩, ⟨?_⟩⟩
    · rw [← HEQ.out, ← HZ.out]
      exact blk_new W1 _
    · rw [← HEQ.out]
      exact (Below.refl _ _).alloc (by rw [HZ.out]; exact Nat.le_refl _) _
  case round =>
    obtain ⟨k, hk, rfl, hv, bs, HA, HLB, HOWN, HO, HB⟩ := hrel
    have HW := Aside0.mk (show Below w.heap.size w wr from below_step HW1.out (by rw [HZ.out]; exact HB.out))
    have hgc : ∀ j : Nat, wr.cell? ⟨w.heap.size, j, none⟩ = (#[.string g.f0, .slice A1 g.f1.length c1, .int .u8 g.f2, .slice A3 g.f3.length c3, .slice A4 g.f4.length c4, .slice A5 g.f5.length c5] : Array Value)[j]? := fun j => blk_cell ((HB.out.block _ (Nat.lt_succ_self _)).trans HBK.out) j
    by_cases hlt : k < g.f5.length
    · obtain ⟨ad, Ab, cb, rfl, hx0, hx1, hx2, hx3, hx4, hx5, hcb, hrb⟩ := at_T43 HR5.out (k : Int) (by omega) (by omega)
      simp only [Int.toNat_natCast] at hx0 hx1 hx2 hx3 hx4 hx5
      have HRB := Aside0.mk hrb
      have HCB := Aside0.mk hcb
      replace hx0 := pw_cell_below HW.out hx0
      replace hx1 := pw_cell_below HW.out hx1
      replace hx2 := pw_cell_below HW.out hx2
      replace hx3 := pw_cell_below HW.out hx3
      replace hx4 := pw_cell_below HW.out hx4
      replace hx5 := pw_cell_below HW.out hx5
      clear hrb hcb
      have hsz := HS.out.2.2 _ (rd43_mem hlt)
      have hdr : g.f5.drop k = rd_T43 g.f5 k :: g.f5.drop (k + 1) := by
        rw [List.drop_eq_getElem_cons hlt]
        congr 1
        unfold rd_T43; rw [Int.toNat_natCast, List.getD_eq_getElem?_getD, List.getElem?_eq_getElem hlt]; rfl
      have hA := HA.out
      rw [hdr, goB] at hA
      clear hdr HA
      generalize rd_T43 g.f5 (k : Int) = b at *
      have HSZ := Aside0.mk hsz
      obtain ⟨resI, hri⟩ : ∃ resI, goI g.f3 [] b.f0 = resI := ⟨_, rfl⟩
      rw [hri] at hA
      have HRI := Aside0.mk hri
      have HA := Aside0.mk hA
      clear hri hA
      have hbl : b.f0.length ≤ 1099511627776 := hsz.1
      clear hsz
      have HBKB := Aside0.mk (blk_new wr (.cells #[.slice Ab b.f0.length cb, .int .u8 b.f1.f0, .int .i64 b.f1.f1, .int .i64 b.f1.f2.f0, .int .i64 b.f1.f2.f1, .int .u8 b.f1.f3] 43))
      have HWB := Aside0.mk (below_alloc HW.out (.cells #[.slice Ab b.f0.length cb, .int .u8 b.f1.f0, .int .i64 b.f1.f1, .int .i64 b.f1.f2.f0, .int .i64 b.f1.f2.f1, .int .u8 b.f1.f3] 43))
      have HWB1 := Aside0.mk (HB.out.alloc (show w.heap.size + 1 ≤ wr.heap.size by have := HB.out.size; rw [HZ.out] at this; exact this) (.cells #[.slice Ab b.f0.length cb, .int .u8 b.f1.f0, .int .i64 b.f1.f1, .int .i64 b.f1.f2.f0, .int .i64 b.f1.f2.f1, .int .u8 b.f1.f3] 43))
      have hlw : wr.heap.size < (wr.alloc (.cells #[.slice Ab b.f0.length cb, .int .u8 b.f1.f0, .int .i64 b.f1.f1, .int .i64 b.f1.f2.f0, .int .i64 b.f1.f2.f1, .int .u8 b.f1.f3] 43)).heap.size := by simp
      have HLW := Aside0.mk hlw
      have hgb : ∀ j : Nat, (wr.alloc (.cells #[.slice Ab b.f0.length cb, .int .u8 b.f1.f0, .int .i64 b.f1.f1, .int .i64 b.f1.f2.f0, .int .i64 b.f1.f2.f1, .int .u8 b.f1.f3] 43)).cell? ⟨w.heap.size, j, none⟩ = (#[.string g.f0, .slice A1 g.f1.length c1, .int .u8 g.f2, .slice A3 g.f3.length c3, .slice A4 g.f4.length c4, .slice (some ad) g.f5.length c5] : Array Value)[j]? := fun j => by rw [← hgc j]; exact (below_alloc (Below.refl wr.heap.size wr) _).cell (p := ⟨w.heap.size, j, none⟩) (by have := HB.out.size; rw [HZ.out] at this; show w.heap.size < wr.heap.size; omega)
      have HOB := Aside0.mk (Kd.R_alloc HO.out (.cells #[.slice Ab b.f0.length cb, .int .u8 b.f1.f0, .int .i64 b.f1.f1, .int .i64 b.f1.f2.f0, .int .i64 b.f1.f2.f1, .int .u8 b.f1.f3] 43))
      have HOWNB := Aside0.mk (((below_alloc (Below.refl wr.heap.size wr) (.cells #[.slice Ab b.f0.length cb, .int .u8 b.f1.f0, .int .i64 b.f1.f1, .int .i64 b.f1.f2.f0, .int .i64 b.f1.f2.f1, .int .u8 b.f1.f3] 43)).block _ (blk_lt HOWN.out)).trans HOWN.out)
      go_upto_region 7 with (fail)
      generalize hwb : wr.alloc (.cells #[.slice Ab b.f0.length cb, .int .u8 b.f1.f0, .int .i64 b.f1.f1, .int .i64 b.f1.f2.f0, .int .i64 b.f1.f2.f1, .int .u8 b.f1.f3] 43) = wB at *
      clear hwb hgc hx0 hx1 hx2 hx3 hx4 hx5 hlw
      generalize wr.heap.size = nb at *
      have HGB := Aside0.mk hgb
      clear hgb
      have hbc : ∀ j : Nat, wB.cell? ⟨nb, j, none⟩ = (#[.slice Ab b.f0.length cb, .int .u8 b.f1.f0, .int .i64 b.f1.f1, .int .i64 b.f1.f2.f0, .int .i64 b.f1.f2.f1, .int .u8 b.f1.f3] : Array Value)[j]? := fun j => blk_cell HBKB.out j
      go_wp2
      clear hbc
      go_loopw [7, 27] (fun v7 v27 w5 => ∃ j : Nat, j ≤ b.f0.length ∧ v27 = .int .i64 j ∧ ∃ ls : List S49, Aside0 (goI g.f3 ls (b.f0.drop j) = resI) ∧ Aside0 (ls.length = j) ∧ Aside0 ((kE w).R 49 w5 wB.heap.size (fun _ => True) v7 ls) ∧ Aside0 (Below wB.heap.size wB w5)) (fun _ v27 _ => b.f0.length - (intOf v27).toNat)
      case atStart => exact ⟨0, Nat.zero_le _, rfl, [], ⟨by rw [List.drop_zero]; exact HRI.out⟩, ⟨rfl⟩, ⟨Kd.R_nil _ _ _ _ _⟩, ⟨Below.refl _ _⟩⟩
      case round =>
        clear HRI
        obtain ⟨j, hj, rfl, ls, HJ, HLL, HL, HI⟩ := hrel
        have HWI := Aside0.mk (below_step HWB.out HI.out)
        obtain ⟨Al, cl, rfl, hcl, _⟩ := Kd.R_reads HL.out
        by_cases hjl : j < b.f0.length
        · obtain ⟨ad4, Ax, cx, rfl, hx0, hx1, hx2, hx3, hx4, hx5, hcx, hrx⟩ := at_T49 HRB.out (j : Int) (by omega) (by omega)
          simp only [Int.toNat_natCast] at hx0 hx1 hx2 hx3 hx4 hx5
          have HRX := Aside0.mk hrx
          have HCX := Aside0.mk hcx
          replace hx0 := pw_cell_below HWI.out hx0
          replace hx1 := pw_cell_below HWI.out hx1
          replace hx2 := pw_cell_below HWI.out hx2
          replace hx3 := pw_cell_below HWI.out hx3
          replace hx4 := pw_cell_below HWI.out hx4
          replace hx5 := pw_cell_below HWI.out hx5
          clear hrx hcx
          have hdr : b.f0.drop j = rd_T49 b.f0 j :: b.f0.drop (j + 1) := by
            rw [List.drop_eq_getElem_cons hjl, rd49_get _ hjl]
          have hJ := HJ.out
          rw [hdr, goI] at hJ
          have hsx := HSZ.out.2 _ (rd49_mem hjl)
          clear hdr HJ
          generalize rd_T49 b.f0 (j : Int) = x at *
          by_cases h9 : x.f0 = 9
          · have HWX := Aside0.mk (below_alloc HWI.out (.cells #[.int .u8 x.f0, .int .u8 x.f1, .int .i64 x.f2, .slice Ax x.f3.length cx, .int .u64 x.f4, .int .i64 x.f5] 49))
            unfold aloneIns at hJ
            rw [if_pos h9] at hJ
            have HJ := Aside0.mk hJ
            clear hJ
            have hgx : ∀ (o : Obj) (j : Nat), (wr.alloc o).cell? ⟨w.heap.size, j, none⟩ = (#[.string g.f0, .slice A1 g.f1.length c1, .int .u8 g.f2, .slice A3 g.f3.length c3, .slice A4 g.f4.length c4, .slice (some ad) g.f5.length c5] : Array Value)[j]? := fun o j => by rw [← HGB.out j]; exact (HI.out.alloc HI.out.size o).cell (p := ⟨w.heap.size, j, none⟩) (by have := HWB1.out.size; rw [HZ.out] at this; show w.heap.size < wB.heap.size; omega)
            by_cases hq : (inB x.f2 g.f3.length && (decide (0 ≤ x.f5) && (x.f1 == 0 && x.f4 == 0))) = true
            · simp only [Bool.and_eq_true, decide_eq_true_eq, beq_iff_eq] at hq
              obtain ⟨hq1, hq2, hq3, hq4⟩ := hq
              have HQ1 := Aside0.mk hq1
              have HQ := Aside0.mk (show (inB x.f2 g.f3.length && (decide (0 ≤ x.f5) && (x.f1 == 0 && x.f4 == 0))) = true by simp [hq1, hq2, hq3, hq4])
              clear hq1
              go_wp2_with (go_at_call 75; refine (clo_in w.heap.size _ A3 g.f3.length c3 _ (hgx _ 3) true HQ1.out).mono ?_; rintro e w3 ⟨rfl, rfl⟩)
              obtain ⟨fa, hfa⟩ : ∃ fa, allFrom (fun m => inB (rd x.f3 m) g.f3.length) x.f3.length 0 = fa := ⟨_, rfl⟩
              have HFA := Aside0.mk hfa
              have hxl : x.f3.length ≤ 281474976710656 := hsx
              clear hfa
              go_loop [61] (fun v61 => ∃ m : Nat, m ≤ x.f3.length ∧ v61 = .int .i64 m ∧ Aside0 (allFrom (fun m => inB (rd x.f3 m) g.f3.length) x.f3.length m = fa)) (fun v61 => x.f3.length - (intOf v61).toNat)
              case atStart => exact ⟨0, Nat.zero_le _, rfl, HFA⟩
              case round =>
                obtain ⟨m, hm, rfl, HM⟩ := hrel
                by_cases hml : m < x.f3.length
                · obtain ⟨adx, rfl, hv0⟩ := Kd.at_int HRX.out (m : Int) (by omega) (by omega)
                  simp only [Int.toNat_natCast] at hv0
                  have hv : ∀ o, (wr.alloc o).cell? (adx.add m) = some (.int .i64 (rd x.f3 m)) := fun o => pw_cell_below (below_alloc HWI.out o) hv0
                  clear hv0
                  obtain ⟨ib, hib⟩ : ∃ ib, inB (rd x.f3 m) g.f3.length = ib := ⟨_, rfl⟩
                  have HIB := Aside0.mk hib
                  have hM : ((inB (rd x.f3 m) g.f3.length) && allFrom (fun m => inB (rd x.f3 m) g.f3.length) x.f3.length (m + 1)) = fa := (allFrom_step hml).symm.trans HM.out
                  rw [hib] at hM
                  clear hib HM
                  cases ib with
                  | false =>
                    rw [Bool.false_and] at hM
                    have hrr : r = false := by
                      have h1 := HJ.out
                      rw [HFA.out, ← hM, Bool.and_false, if_neg (by decide), Option.bind_none] at h1
                      have h2 := HA.out
                      rw [← h1, Option.bind_none] at h2
                      have h3 := H.out
                      rw [← h2] at h3
                      exact h3.symm
                    subst hrr
                    clear hM
                    go_wp2_with (go_at_call 75; refine (clo_in w.heap.size _ A3 g.f3.length c3 _ (hgx _ 3) false HIB.out).mono ?_; rintro e w3 ⟨rfl, rfl⟩)
                    go_ret
                    exact ⟨rfl, by repeat (first | exact HWI.out | (with_reducible apply below_alloc))⟩
                  | true =>
                    rw [Bool.true_and] at hM
                    have HM := Aside0.mk hM
                    clear hM
                    go_wp2_with (go_at_call 75; refine (clo_in w.heap.size _ A3 g.f3.length c3 _ (hgx _ 3) true HIB.out).mono ?_; rintro e w3 ⟨rfl, rfl⟩)
                    go_round
                    case rel => exact ⟨m + 1, by omega, by go_num, HM⟩
                    case measure => simp [intOf]; omega
                · obtain rfl : m = x.f3.length := by omega
                  have hM := HM.out
                  rw [allFrom_end] at hM
                  subst hM
                  have hJ2 := HJ.out
                  rw [HQ.out, HFA.out, Bool.and_self, if_pos rfl, Option.bind_some] at hJ2
                  have HJ2 := Aside0.mk hJ2
                  clear hJ2 HM
                  obtain ⟨hi0, hi1⟩ : 0 ≤ x.f2 ∧ x.f2 < (g.f3.length : Int) := by simpa [inB] using HQ1.out
                  obtain ⟨ad6, hA3, hw0⟩ := Kd.at_int HR3.out x.f2 hi0 hi1
                  cases hA3
                  have hw : ∀ o, (wr.alloc o).cell? (ad6.add x.f2.toNat) = some (.int .u8 (rd g.f3 x.f2)) := fun o => pw_cell_below (below_alloc HWI.out o) hw0
                  clear hw0
                  have f0 : ∀ (o1 o2 o3 : Int), (wr.alloc (.cells #[.int .u8 o1, .int .u8 o2, .int .i64 x.f2, .slice Ax x.f3.length cx, .int .u64 o3, .int .i64 x.f5] 49)).cell? ⟨wr.heap.size, 2, none⟩ = some (.int .i64 x.f2) := fun o1 o2 o3 => blk_cell (blk_new wr _) 2
                  go_wp2_with (fail)
                  have e0 := f0 9 0 0
                  have e1 := hgx (.cells #[.int .u8 9, .int .u8 0, .int .i64 x.f2, .slice Ax x.f3.length cx, .int .u64 0, .int .i64 x.f5] 49) 3
                  have e2 := hw (.cells #[.int .u8 9, .int .u8 0, .int .i64 x.f2, .slice Ax x.f3.length cx, .int .u64 0, .int .i64 x.f5] 49)
                  have HIX := Aside0.mk (HI.out.alloc HI.out.size (.cells #[.int .u8 9, .int .u8 0, .int .i64 x.f2, .slice Ax x.f3.length cx, .int .u64 0, .int .i64 x.f5] 49))
                  have HLX := Aside0.mk (Kd.R_alloc HL.out (.cells #[.int .u8 9, .int .u8 0, .int .i64 x.f2, .slice Ax x.f3.length cx, .int .u64 0, .int .i64 x.f5] 49))
                  generalize wr.alloc (.cells #[.int .u8 9, .int .u8 0, .int .i64 x.f2, .slice Ax x.f3.length cx, .int .u64 0, .int .i64 x.f5] 49) = wX at *
                  generalize wr.heap.size = nx at *
                  clear hgx hw f0
                  change wX.cell? _ = some (.slice (some ad6) g.f3.length c3) at e1
                  refine start_ (n := 14) (S := fun w' => Below wB.heap.size wB w' ∧ w'.cell? ⟨nx, 2, none⟩ = some (.int .i64 x.f2) ∧ w'.cell? ⟨w.heap.size, 3, none⟩ = some (.slice (some ad6) g.f3.length c3) ∧ w'.cell? (ad6.add x.f2.toNat) = some (.int .u8 (rd g.f3 x.f2)) ∧ (kE w).R 49 w' wB.heap.size (fun _ => True) (.slice Al ls.length cl) ls) (ds := [11, 12]) #[false, false, false, false, false, false, false, false, false, false, false, false, false, false] (by kernel_rfl) rfl rfl ⟨(below_drew HIX.out), (pw_cell_below (below_drew (Below.refl _ _)) e0), (pw_cell_below (below_drew (Below.refl _ _)) e1), (pw_cell_below (below_drew (Below.refl _ _)) e2), (Kd.R_drew HLX.out)⟩ (fun hHeld => ?_)
                  refine pure_ (i := 0) (N := some 70) (v := ?_) (a' := ?_) #[true, false, false, false, false, false, false, false, false, false, false, false, false, false] rfl rfl (by kernel_rfl) (fun _ _ _ h => h) (Or.inl ⟨by rfl, ?_⟩) ?_ ?_
                  rotate_left
                  · intro w'
                    go_simp
                    with_reducible rfl
                  rotate_left
                  · simp only [Act.put, List.setIfInBounds_toArray, List.set_cons_zero, List.set_cons_succ, i64_w, i32_w]
                    rfl
                  refine pure_ (i := 1) (N := some 71) (v := ?_) (a' := ?_) #[true, true, false, false, false, false, false, false, false, false, false, false, false, false] rfl rfl (by kernel_rfl) (fun _ _ _ h => h) (Or.inl ⟨by rfl, ?_⟩) ?_ ?_
                  rotate_left
                  · intro w'
                    go_simp
                    with_reducible rfl
                  rotate_left
                  · simp only [Act.put, List.setIfInBounds_toArray, List.set_cons_zero, List.set_cons_succ, i64_w, i32_w]
                    rfl
                  refine pure_ (i := 3) (N := some 73) (v := ?_) (a' := ?_) #[true, true, false, true, false, false, false, false, false, false, false, false, false, false] rfl rfl (by kernel_rfl) (fun _ _ _ h => h) (Or.inl ⟨by rfl, ?_⟩) ?_ ?_
                  rotate_left
                  · intro w'
                    go_simp
                    with_reducible rfl
                  rotate_left
                  · simp only [Act.put, List.setIfInBounds_toArray, List.set_cons_zero, List.set_cons_succ, i64_w, i32_w]
                    rfl
                  refine pure_ (i := 5) (N := some 75) (v := ?_) (a' := ?_) #[true, true, false, true, false, true, false, false, false, false, false, false, false, false] rfl rfl (by kernel_rfl) (fun _ _ _ h => h) (Or.inl ⟨by rfl, ?_⟩) ?_ ?_
                  rotate_left
                  · intro w'
                    go_simp
                    with_reducible rfl
                  rotate_left
                  · simp only [Act.put, List.setIfInBounds_toArray, List.set_cons_zero, List.set_cons_succ, i64_w, i32_w]
                    rfl
                  refine take_ (i := 2) (N := some 72) (v := ?_) (a' := ?_) #[true, true, true, true, false, true, false, false, false, false, false, false, false, false] rfl rfl (by kernel_rfl) (fun _ _ _ h => h) (Or.inl ⟨by rfl, ?_⟩) hHeld ?_ ?_
                  rotate_left
                  · rintro w' ⟨s0, s1, s2, s3, s4⟩
                    go_simp
                    with_reducible rfl
                  rotate_left
                  · simp only [Act.put, List.setIfInBounds_toArray, List.set_cons_zero, List.set_cons_succ, i64_w, i32_w]
                    rfl
                  refine take_ (i := 4) (N := some 74) (v := ?_) (a' := ?_) #[true, true, true, true, true, true, false, false, false, false, false, false, false, false] rfl rfl (by kernel_rfl) (fun _ _ _ h => h) (Or.inl ⟨by rfl, ?_⟩) hHeld ?_ ?_
                  rotate_left
                  · rintro w' ⟨s0, s1, s2, s3, s4⟩
                    go_simp
                    with_reducible rfl
                  rotate_left
                  · simp only [Act.put, List.setIfInBounds_toArray, List.set_cons_zero, List.set_cons_succ, i64_w, i32_w]
                    rfl
                  refine take_ (i := 6) (N := some 76) (v := ?_) (a' := ?_) #[true, true, true, true, true, true, true, false, false, false, false, false, false, false] rfl rfl (by kernel_rfl) (fun _ _ _ h => h) (Or.inl ⟨by rfl, ?_⟩) hHeld ?_ ?_
                  rotate_left
                  · rintro w' ⟨s0, s1, s2, s3, s4⟩
                    go_simp
                    with_reducible rfl
                  rotate_left
                  · simp only [Act.put, List.setIfInBounds_toArray, List.set_cons_zero, List.set_cons_succ, i64_w, i32_w]
                    rfl
                  refine pure_ (i := 7) (N := some 77) (v := ?_) (a' := ?_) #[true, true, true, true, true, true, true, true, false, false, false, false, false, false] rfl rfl (by kernel_rfl) (fun _ _ _ h => h) (Or.inl ⟨by rfl, ?_⟩) ?_ ?_
                  rotate_left
                  · intro w'
                    go_simp
                    with_reducible rfl
                  rotate_left
                  · simp only [Act.put, List.setIfInBounds_toArray, List.set_cons_zero, List.set_cons_succ, i64_w, i32_w]
                    rfl
                  refine take_ (i := 8) (N := some 78) (v := ?_) (a' := ?_) #[true, true, true, true, true, true, true, true, true, false, false, false, false, false] rfl rfl (by kernel_rfl) (fun _ _ _ h => h) (Or.inl ⟨by rfl, ?_⟩) hHeld ?_ ?_
                  rotate_left
                  · rintro w' ⟨s0, s1, s2, s3, s4⟩
                    go_simp
                    with_reducible rfl
                  rotate_left
                  · simp only [Act.put, List.setIfInBounds_toArray, List.set_cons_zero, List.set_cons_succ, i64_w, i32_w]
                    rfl
                  refine one_ (i := 9) (N := some 79) #[true, true, true, true, true, true, true, true, true, true, false, false, false, false] rfl rfl (by kernel_rfl) (by decide) (fun K hK => ?_)
                  refine goes_ Tryd.func76 (by kernel_rfl) rfl #[.int .u8 (rd g.f3 x.f2), .int .u64 0] (by rfl) rfl rfl (by simp only [List.map_toArray, List.map_cons, List.map_nil]; rfl) ?_
                  with_reducible refine (cut_calls _ _ _).mono ?_
                  rintro e w3 ⟨rfl, ⟨nd, rfl⟩⟩
                  refine ⟨_, rfl, ?_⟩
                  refine hK.out _ _ ⟨(pw_below_drewN hHeld.1 nd), (pw_cell_below (pw_below_drewN (Below.refl _ _) nd) hHeld.2.1), (pw_cell_below (pw_below_drewN (Below.refl _ _) nd) hHeld.2.2.1), (pw_cell_below (pw_below_drewN (Below.refl _ _) nd) hHeld.2.2.2.1), (Kd.R_drewN hHeld.2.2.2.2 nd)⟩ (fun hHeld => ?_)
                  clear hK K
                  refine norm_ (a' := ?_) ?_ ?_
                  rotate_left
                  · show Act.put _ (some 79) _ = _
                    simp only [Act.put, List.setIfInBounds_toArray, List.set_cons_zero, List.set_cons_succ, i64_w, i32_w]
                    rfl
                  refine pure_ (i := 10) (N := some 80) (v := ?_) (a' := ?_) #[true, true, true, true, true, true, true, true, true, true, true, false, false, false] rfl rfl (by kernel_rfl) (fun _ _ _ h => h) (Or.inl ⟨by rfl, ?_⟩) ?_ ?_
                  rotate_left
                  · intro w'
                    go_simp
                    with_reducible rfl
                  rotate_left
                  · simp only [Act.put, List.setIfInBounds_toArray, List.set_cons_zero, List.set_cons_succ, i64_w, i32_w]
                    rfl
                  refine last_ (i := 11) (N := some 81) #[true, true, true, true, true, true, true, true, true, true, true, true, false, false] rfl rfl (by kernel_rfl) (by decide) (fun K hK => ?_)
                  refine value_ (w1 := ?_) (v := ?_) (by rfl) rfl ?_ ?_
                  rotate_left 2
                  · go_simp
                    constructor
                    · rfl
                    · rfl
                  refine hK.out _ _ ?_
                  clear hK K
                  refine norm_ (a' := ?_) ?_ ?_
                  rotate_left
                  · show Act.put _ (some 81) _ = _
                    simp only [Act.put, List.setIfInBounds_toArray, List.set_cons_zero, List.set_cons_succ, i64_w, i32_w]
                    rfl
                  refine last_ (i := 12) (N := some 82) #[true, true, true, true, true, true, true, true, true, true, true, true, true, false] rfl rfl (by kernel_rfl) (by decide) (fun K hK => ?_)
                  refine Kd.R_append_step (kE w) (w0 := wB) wB.heap.size (by rfl) (.tmp 70) (.tmp 81) 41 49 (.agg #[.int .u8 0, .int .u8 0, .int .i64 0, .slice none 0 0, .int .u64 0, .int .i64 0]) 56 rfl Tryd.underlying41 info49 rfl (by show 0 < 6; decide) (by omega) (.slice Al ls.length cl) ls ⟨2, 0, x.f2, [], cutG (rd g.f3 x.f2) 0, 0⟩ [.int .u8 2, .int .u8 0, .int .i64 x.f2, .slice none 0 0, .int .u64 (cutG (rd g.f3 x.f2) 0), .int .i64 0] (fun _ => True) (fun _ => False) (by first | rfl | (go_simp; done) | (go_simp; rfl)) (by first | rfl | (go_simp; done) | (go_simp; rfl)) (kE_mk _ _ _ ⟨2, 0, x.f2, [], cutG (rd g.f3 x.f2) 0, 0⟩ (Nat.le_refl _) (Kd.C_nil _ _)) (fun _ hk => hk.elim) (fun _ _ => trivial) (Kd.R_drewN HLX.out _) (pw_below_drewN HIX.out _) (pw_below_drewN HIX.out _).size (by have := HLL.out; have := hjl; omega) ?_
                  intro v1 w8 ho hb _ _
                  refine hK.out _ _ ?_
                  clear hK K
                  refine norm_ (a' := ?_) ?_ ?_
                  rotate_left
                  · show Act.put _ (some 82) _ = _
                    simp only [Act.put, List.setIfInBounds_toArray, List.set_cons_zero, List.set_cons_succ, i64_w, i32_w]
                    rfl
                  refine pure_ (i := 13) (N := some 7) (v := ?_) (a' := ?_) #[true, true, true, true, true, true, true, true, true, true, true, true, true, true] rfl rfl (by kernel_rfl) (fun _ _ _ h => h) (Or.inl ⟨by rfl, ?_⟩) ?_ ?_
                  rotate_left
                  · intro w'
                    go_simp
                    with_reducible rfl
                  rotate_left
                  · simp only [Act.put, List.setIfInBounds_toArray, List.set_cons_zero, List.set_cons_succ, i64_w, i32_w]
                    rfl
                  refine done_ (by kernel_rfl) ?_
                  have HL2 := Aside0.mk ho
                  have HI2 := Aside0.mk hb
                  clear ho hb
                  go_wp2
                  go_roundw
                  case rel => exact ⟨j + 1, by omega, by go_num, _, HJ2, ⟨by rw [List.length_append, HLL.out]; rfl⟩, HL2, HI2⟩
                  case measure => simp [intOf]; omega
            · have hrr : r = false := by
                have h1 := HJ.out
                rw [show (inB x.f2 g.f3.length && (decide (0 ≤ x.f5) && (x.f1 == 0 && x.f4 == 0))) = false by simpa using hq, Bool.false_and, if_neg (by decide), Option.bind_none] at h1
                have h2 := HA.out
                rw [← h1, Option.bind_none] at h2
                have h3 := H.out
                rw [← h2] at h3
                exact h3.symm
              subst hrr
              by_cases q1 : inB x.f2 g.f3.length = true
              · have HQ1 := Aside0.mk q1
                by_cases q2 : 0 ≤ x.f5
                · by_cases q3 : x.f1 = 0
                  · have q4 : ¬ x.f4 = 0 := fun e => hq (by simp [q1, q2, q3, e])
                    have q4b : (x.f4 != 0) = true := by simpa using q4
                    clear hq q1
                    go_wp2_with (go_at_call 75; refine (clo_in w.heap.size _ A3 g.f3.length c3 _ (hgx _ 3) true HQ1.out).mono ?_; rintro e w3 ⟨rfl, rfl⟩)
                    go_ret
                    exact ⟨rfl, by repeat (first | exact HWI.out | (with_reducible apply below_alloc))⟩
                  · clear hq q1
                    go_wp2_with (go_at_call 75; refine (clo_in w.heap.size _ A3 g.f3.length c3 _ (hgx _ 3) true HQ1.out).mono ?_; rintro e w3 ⟨rfl, rfl⟩)
                    go_ret
                    exact ⟨rfl, by repeat (first | exact HWI.out | (with_reducible apply below_alloc))⟩
                · clear hq q1
                  go_wp2_with (go_at_call 75; refine (clo_in w.heap.size _ A3 g.f3.length c3 _ (hgx _ 3) true HQ1.out).mono ?_; rintro e w3 ⟨rfl, rfl⟩)
                  go_ret
                  exact ⟨rfl, by repeat (first | exact HWI.out | (with_reducible apply below_alloc))⟩
              · have HQ1 := Aside0.mk (show inB x.f2 g.f3.length = false by simpa using q1)
                clear hq q1
                go_wp2_with (go_at_call 75; refine (clo_in w.heap.size _ A3 g.f3.length c3 _ (hgx _ 3) false HQ1.out).mono ?_; rintro e w3 ⟨rfl, rfl⟩)
                go_ret
                exact ⟨rfl, by repeat (first | exact HWI.out | (with_reducible apply below_alloc))⟩
          · unfold aloneIns at hJ
            rw [if_neg h9, Option.bind_some] at hJ
            have HJ := Aside0.mk hJ
            clear hJ
            go_wp2_with ((with_reducible refine gate_builtin (b := .append) (xs := #[.tmp 34, .tmp 36]) rfl ?_); at_builtin; refine Kd.R_append (kE w) (w0 := wB) wB.heap.size rfl (.tmp 34) (.tmp 36) 41 49 (.agg #[.int .u8 0, .int .u8 0, .int .i64 0, .slice none 0 0, .int .u64 0, .int .i64 0]) 56 rfl Tryd.underlying41 info49 rfl (by show 0 < 6; decide) (by omega) (.slice Al ls.length cl) ls x [.int .u8 x.f0, .int .u8 x.f1, .int .i64 x.f2, .slice Ax x.f3.length cx, .int .u64 x.f4, .int .i64 x.f5] (fun _ => True) (fun _ => False) rfl (by first | rfl | (go_simp; done) | (go_simp; rfl)) ?aP (fun _ hk => hk.elim) (fun _ _ => trivial) ?aO ?aB ?aS ?aL ?_; (case aP => exact kE_mk _ _ _ x HCX.out HRX.out); (case aB => exact (by repeat (first | exact HI.out | (with_reducible apply below_alloc) | (with_reducible apply pw_below_drewN)))); (case aO => exact (by (with_reducible repeat (first | apply Kd.R_alloc | apply Kd.R_drewN | apply Kd.R_drew)); exact HL.out)); (case aS => exact (below_size (by repeat (first | exact HI.out | (with_reducible apply below_alloc) | (with_reducible apply pw_below_drewN))))); (case aL => have := HLL.out; have := hjl; have := HSZ.out.1; omega); intro v1 w8 ho hb _ _; have HL2 := Aside0.mk ho; have HI2 := Aside0.mk hb; clear ho hb)
            go_roundw
            case rel => exact ⟨j + 1, by omega, by go_num, ls ++ [x], HJ, ⟨by rw [List.length_append, HLL.out]; rfl⟩, HL2, HI2⟩
            case measure => simp [intOf]; omega
        · obtain rfl : j = b.f0.length := by omega
          have hJ := HJ.out
          rw [List.drop_length, goI] at hJ
          have hA := HA.out
          rw [← hJ, Option.bind_some] at hA
          have HA2 := Aside0.mk hA
          clear hJ hA HJ HA
          have hbc : ∀ j : Nat, wr.cell? ⟨nb, j, none⟩ = (#[.slice Ab b.f0.length cb, .int .u8 b.f1.f0, .int .i64 b.f1.f1, .int .i64 b.f1.f2.f0, .int .i64 b.f1.f2.f1, .int .u8 b.f1.f3] : Array Value)[j]? := fun j => blk_cell (blk_below HBKB.out HI.out) j
          have hoc := blk_below HOWNB.out HI.out
          have hocc : ∀ j : Nat, wr.cell? ⟨w.heap.size + 1, j, none⟩ = (#[.string g.f0, .slice A1 g.f1.length c1, .int .u8 g.f2, .slice A3 g.f3.length c3, .slice A4 g.f4.length c4, hv] : Array Value)[j]? := fun j => blk_cell hoc j
          have HLr := HL.out
          clear hcl
          go_wp2_with ((with_reducible refine gate_builtin (b := .append) (xs := #[.tmp 85, .tmp 90]) rfl ?_); at_builtin; refine Kd.R_append (kB w) (w0 := W1) (w.heap.size + 1) rfl (.tmp 85) (.tmp 90) 26 43 (.agg #[.slice none 0 0, .int .u8 0, .int .i64 0, .int .i64 0, .int .i64 0, .int .u8 0]) 64 rfl Tryd.underlying26 info43 rfl (by show 0 < 6; decide) (by omega) hv bs ⟨ls, b.f1⟩ [.slice Al ls.length cl, .int .u8 b.f1.f0, .int .i64 b.f1.f1, .int .i64 b.f1.f2.f0, .int .i64 b.f1.f2.f1, .int .u8 b.f1.f3] (fun _ => True) (fun k => wB.heap.size ≤ k) (by first | rfl | (go_simp; done) | (go_simp; rfl)) (by first | rfl | (go_simp; done) | (go_simp; rfl)) ?bP ?bK (fun _ _ => trivial) ?bO ?bB ?bS ?bL ?_; (case bP => exact kB_mk _ _ _ ⟨ls, b.f1⟩ (Kd.R_lower (Kd.R_mono (Kd.R_bound HL.out) (fun k hk => hk.2.1)) (by have := HWB1.out.size; rw [HZ.out] at this; exact this))); (case bK => exact fun k hk => ⟨trivial, fun e => by have := Kd.R_lt HOB.out k e.symm; omega⟩); (case bO => exact Kd.R_below HOB.out HI.out); (case bB => exact Below.trans HWB1.out (HI.out.mono (by have := HWB1.out.size; rw [HZ.out] at this; exact this))); (case bS => exact (by have := HWB1.out.size; have := HI.out.size; rw [HZ.out] at *; omega)); (case bL => have := HLB.out; have := HS.out.2.1; omega); intro v1 w8 ho hb hgr hat; have HB2 := Aside0.mk hb; obtain ⟨A2, c2, rfl, hc2, _⟩ := Kd.R_reads ho; have hob := (hgr.block _ (blk_lt hoc) (Kd.R_ne (Kd.R_below HOB.out HI.out) hoc (by decide))).trans hoc; have HOBK := Aside0.mk hob; have hocc8 := blk_cell hob 5; have hfz8 := blk_frozen hob 5; (have ho2 := ho); simp only [List.length_append, List.length_cons, List.length_nil, Nat.zero_add] at ho2; have HO2 := Aside0.mk ho2; clear ho ho2 hb hgr hocc)
          go_roundw
          case rel => exact ⟨k + 1, by omega, by go_num, _, _, HA2, ⟨by rw [List.length_append, HLB.out]; rfl⟩, ⟨blk_put HOBK.out 5 _ rfl⟩, ⟨Kd.R_set HO2.out HOBK.out (by intro q hq; rw [show 43 :: (kB w).E = [43, 49] from rfl] at hq; simp at hq; omega) 5 _⟩, ⟨HB2.out.setCell (Nat.le_refl _) _⟩⟩
          case measure => simp [intOf]; omega
    · obtain rfl : k = g.f5.length := by omega
      have hA := HA.out
      rw [List.drop_length, goB] at hA
      have h := H.out
      rw [← hA] at h
      have H := Aside0.mk h
      have hA0 := Aside0.mk (HRES.out.trans hA.symm)
      clear h hA
      obtain ⟨Ah, ch, rfl, hch, hrh⟩ := Kd.R_reads HO.out
      have HCH := Aside0.mk hch
      have HRH := Aside0.mk (kB_C HW.out hrh)
      clear hch hrh
      have hown : ∀ j : Nat, wr.cell? ⟨w.heap.size + 1, j, none⟩ = (#[.string g.f0, .slice A1 g.f1.length c1, .int .u8 g.f2, .slice A3 g.f3.length c3, .slice A4 g.f4.length c4, .slice Ah bs.length ch] : Array Value)[j]? := fun j => blk_cell HOWN.out j
      go_wp2_with (go_at_call 21; refine (check_calls [⟨g.f0, g.f1, g.f2, g.f3, g.f4, bs⟩] _ 1 _ (Kd.C_below HG.out (below_alloc HW.out _)) (C28_lit wr ⟨g.f0, g.f1, g.f2, g.f3, g.f4, bs⟩ HC1.out (Kd.C_below HR1.out HW.out) HC3.out (Kd.C_below HR3.out HW.out) HC4.out (Kd.C_below HR4.out HW.out) HCH.out HRH.out) (by simp) (sizes_own HS.out _ hA0.out) _ rfl).mono ?_; rintro e w9 ⟨rfl, hb9⟩; have HB9 := Aside0.mk hb9; clear hb9)
      have h3 : ((checkG [⟨g.f0, g.f1, g.f2, g.f3, g.f4, bs⟩]).1 == 0) = r := H.out
      subst h3
      go_ret
      exact ⟨rfl, below_step (below_alloc HW.out _) HB9.out⟩
end Go.Proofs.YtanhnfhpajaolaaDoor.Fo
/- What a graph that is right by itself has: its variables, blocks and phis are in range. -/
namespace Go.Proofs.YtanhnfhpajaolaaDoor.Fo
open Go Go.RowKit Go.Proofs.YtanhnfhpajaolaaDoorW.PrintWords Go.Proofs.YtanhnfhpajaolaaDoorW.PrintLast Go.Proofs.YtanhnfhpajaolaaDoorW.PrintMore Go.Proofs.YtanhnfhpajaolaaDoor.F Go.Proofs.YtanhnfhpajaolaaDoor.Cf Go.Proofs.YtanhnfhpajaolaaDoor.Sc
set_option linter.unusedVariables false
set_option linter.unusedSimpArgs false
/-- An instruction's variables are below n. -/
def okI (n : Nat) (x : S49) : Prop := (∀ v ∈ x.f3, 0 ≤ v ∧ v < (n : Int)) ∧ (x.f0 ≠ 7 → x.f0 ≠ 8 → x.f0 ≠ 10 → 0 ≤ x.f2 ∧ x.f2 < (n : Int))
/-- A block's variables are below n, its branches below nb. -/
def okBl (n nb : Nat) (b : S43) : Prop := (∀ x ∈ b.f0, okI n x) ∧ (b.f1.f0 = 2 ∨ b.f1.f0 = 3 → 0 ≤ b.f1.f1 ∧ b.f1.f1 < (n : Int)) ∧ (∀ k ∈ nextL b.f1.f0 b.f1.f2.f0 b.f1.f2.f1, 0 < k ∧ k < (nb : Int))
theorem formed_in {nv na kind op dst : Int} {args : List Int} {bits ref : Int} (h : formedB nv na kind op dst args bits ref = true) : (∀ v ∈ args, 0 ≤ v ∧ v < nv) ∧ (kind ≠ 7 → kind ≠ 8 → kind ≠ 10 → 0 ≤ dst ∧ dst < nv) := by
  unfold formedB at h
  simp only [Bool.and_eq_true, decide_eq_true_eq] at h
  obtain ⟨⟨⟨⟨⟨⟨⟨⟨h1, h2⟩, h3⟩, _⟩, _⟩, _⟩, _⟩, _⟩, h9⟩ := h
  constructor
  · intro v hv
    simp only [Bool.not_eq_true', List.any_eq_false] at h9
    have := h9 v hv
    simp [outB] at this
    omega
  · intro a b c
    have hk : kind = 1 ∨ kind = 2 ∨ kind = 3 ∨ kind = 4 ∨ kind = 5 ∨ kind = 6 ∨ kind = 9 := by omega
    rcases hk with rfl | rfl | rfl | rfl | rfl | rfl | rfl <;> simpa [formsT, rd_T181, inB] using h3
theorem insOk_in {p : List S28} {vars : List Int} {arrs : List S113} {x : S49} (h : insOk p vars arrs x = true) : okI vars.length x := by
  unfold insOk typeB at h
  split at h
  · rename_i hc
    exact formed_in (Bool.and_eq_true_iff.1 hc).1
  · cases h
theorem allFrom_at {f : Nat → Bool} {n : Nat} (h : allFrom f n 0 = true) (i : Nat) (hi : i < n) : f i = true := by
  unfold allFrom at h
  rw [List.all_eq_true] at h
  exact h i (by simp [List.mem_range'_1]; exact hi)
theorem rd43_get (l : List S43) {i : Nat} (h : i < l.length) : rd_T43 l (i : Int) = l[i] := by unfold rd_T43; rw [Int.toNat_natCast, List.getD_eq_getElem?_getD, List.getElem?_eq_getElem h]; rfl
theorem ended_in {nb : Nat} {res : Int} {vars : List Int} {kind arg t0 t1 trap : Int} (h : endedB nb res vars kind arg t0 t1 trap = true) : (kind = 2 ∨ kind = 3 → 0 ≤ arg ∧ arg < (vars.length : Int)) ∧ (∀ k ∈ nextL kind t0 t1, 0 < k ∧ k < (nb : Int)) := by
  unfold endedB at h
  unfold nextL
  by_cases h1 : kind = 1
  · subst h1
    simp [blockB] at h
    refine ⟨by omega, ?_⟩
    simp
    exact h.1
  · rw [if_neg h1] at h
    rw [if_neg h1]
    by_cases h2 : kind = 2
    · subst h2
      simp [blockB, ofB, inB] at h
      refine ⟨fun _ => by omega, ?_⟩
      rw [if_pos rfl]
      split
      · simp; omega
      · simp; omega
    · rw [if_neg h2] at h
      rw [if_neg h2]
      refine ⟨fun h3 => ?_, by simp⟩
      have h3 : kind = 3 := by omega
      subst h3
      simp [ofB, inB] at h
      omega
theorem goI_at (vars : List Int) : ∀ (xs ls out : List S49), goI vars ls xs = some out → (∀ y ∈ ls, y ∈ out) ∧ ∀ x ∈ xs, ∃ y ∈ out, aloneIns vars x = some y
  | [], ls, out, h => by
    rw [goI] at h
    obtain rfl := Option.some.inj h
    exact ⟨fun _ h => h, by simp⟩
  | x :: xs, ls, out, h => by
    rw [goI] at h
    obtain ⟨y, hy, h⟩ := Option.bind_eq_some_iff.1 h
    obtain ⟨h1, h2⟩ := goI_at vars xs (ls ++ [y]) out h
    refine ⟨fun z hz => h1 z (by simp [hz]), fun z hz => ?_⟩
    rcases List.mem_cons.1 hz with rfl | hz
    · exact ⟨y, h1 y (by simp), hy⟩
    · exact h2 z hz
theorem alone_in {vars : List Int} {x y : S49} (h : aloneIns vars x = some y) (hy : okI vars.length y) : okI vars.length x := by
  unfold aloneIns at h
  split at h
  · split at h
    · rename_i h9 hc
      simp only [Bool.and_eq_true] at hc
      refine ⟨fun v hv => ?_, fun _ _ _ => by simpa [inB] using hc.1.1⟩
      obtain ⟨i, hi, rfl⟩ := List.getElem_of_mem hv
      have := allFrom_at hc.2 i hi
      rw [rd_get _ hi] at this
      simpa [inB] using this
    · cases h
  · obtain rfl := Option.some.inj h
    exact hy
/-- What an instruction becomes keeps the phis. -/
theorem alone_phi {vars : List Int} {x y : S49} (h : aloneIns vars x = some y) (h1 : x.f0 = 1) : y = x := by
  unfold aloneIns at h
  rw [if_neg (by omega)] at h
  exact (Option.some.inj h).symm
theorem goB_at (vars : List Int) : ∀ (xs bs out : List S43), goB vars bs xs = some out → ∃ ys, out = bs ++ ys ∧ ys.map (·.f1) = xs.map (·.f1) ∧ ∀ (i : Nat) (h1 : i < xs.length) (h2 : i < ys.length), goI vars [] xs[i].f0 = some ys[i].f0
  | [], bs, out, h => by
    rw [goB] at h
    obtain rfl := Option.some.inj h
    exact ⟨[], by simp, rfl, by simp⟩
  | b :: xs, bs, out, h => by
    rw [goB] at h
    obtain ⟨ls, hl, h⟩ := Option.bind_eq_some_iff.1 h
    obtain ⟨ys, h1, h2, h3⟩ := goB_at vars xs _ out h
    refine ⟨⟨ls, b.f1⟩ :: ys, by rw [h1]; simp, by simp [h2], fun i hi1 hi2 => ?_⟩
    cases i with
    | zero => exact hl
    | succ i => exact h3 i (by simpa using hi1) (by simpa using hi2)
theorem next_same {xs ys : List S43} (h : ys.map (·.f1) = xs.map (·.f1)) (i : Nat) : nextOf ys i = nextOf xs i := by
  have e : (rd_T43 ys i).f1 = (rd_T43 xs i).f1 := by
    have hl : ys.length = xs.length := by simpa using congrArg List.length h
    unfold rd_T43
    rw [Int.toNat_natCast, List.getD_eq_getElem?_getD, List.getD_eq_getElem?_getD]
    by_cases hi : i < xs.length
    · rw [List.getElem?_eq_getElem hi, List.getElem?_eq_getElem (by omega)]
      have := congrArg (fun l => l[i]?) h
      simp only [List.getElem?_map] at this
      rw [List.getElem?_eq_getElem hi, List.getElem?_eq_getElem (by omega)] at this
      simpa using this
    · rw [List.getElem?_eq_none (by omega), List.getElem?_eq_none (by omega)]
  unfold nextOf
  rw [e]
theorem ahead_same {xs ys : List S43} (h : ys.map (·.f1) = xs.map (·.f1)) : aheadL ys = aheadL xs := by
  have hl : ys.length = xs.length := by simpa using congrArg List.length h
  unfold aheadL aheadAt
  rw [hl]
  apply List.map_congr_left
  intro k _
  unfold rowAt
  simp only [next_same h]
theorem joined_at {ahead : Int} : ∀ (xs : List S49) (i : Int) (set : List Int), joinedGo ahead xs i set = true → ∀ x ∈ xs, x.f0 = 1 → (x.f3.length : Int) = ahead
  | [], _, _, _ => by simp
  | x :: xs, i, set, h => by
    rw [joinedGo] at h
    intro z hz h1
    rcases List.mem_cons.1 hz with rfl | hz
    · rw [if_pos h1] at h
      split at h
      · split at h
        · rename_i e
          exact e
        · cases h
      · cases h
    · split at h
      · split at h
        · split at h
          · split at h
            · cases h
            · exact joined_at xs _ _ h z hz h1
          · cases h
        · cases h
      · exact joined_at xs _ _ h z hz h1
/-- A graph that is right by itself: all is in range, and a phi has an argument for each block ahead. -/
theorem alone_ok {g : S28} (h : aloneG g = true) : ∀ (i : Nat) (hi : i < g.f5.length), okBl g.f3.length g.f5.length g.f5[i] ∧ ∀ x ∈ g.f5[i].f0, x.f0 = 1 → x.f3.length = (rd_L2 (aheadL g.f5) i).length := by
  unfold aloneG at h
  split at h
  · cases h
  · rename_i bs hbs
    unfold checkG at h
    rw [if_neg (by simp)] at h
    have hr : rightG [{ g with f5 := bs }] { g with f5 := bs } = true := by
      simp only [List.length_cons, List.length_nil, Nat.zero_add, checkGo] at h
      split at h
      · rename_i e
        exact e
      · simp at h
    unfold rightG at hr
    rw [Bool.and_eq_true] at hr
    have hb := hr.2
    simp only at hb
    obtain ⟨ys, h1, h2, h3⟩ := goB_at g.f3 g.f5 [] bs hbs
    simp only [List.nil_append] at h1
    subst h1
    have hl : bs.length = g.f5.length := by simpa using congrArg List.length h2
    intro i hi
    have hi2 : i < bs.length := by omega
    have hk := allFrom_at hb i hi2
    unfold blkOk topB at hk
    simp only [Bool.and_eq_true] at hk
    obtain ⟨⟨he, hj, _⟩, ha⟩ := hk
    rw [rd43_get _ hi2] at he hj ha
    have hf1 : bs[i].f1 = g.f5[i].f1 := by
      have := congrArg (fun l => l[i]?) h2
      simp only [List.getElem?_map] at this
      rw [List.getElem?_eq_getElem hi, List.getElem?_eq_getElem hi2] at this
      simpa using this
    rw [hf1, hl] at he
    obtain ⟨e1, e2⟩ := ended_in he
    obtain ⟨g1, g2⟩ := goI_at g.f3 g.f5[i].f0 [] _ (h3 i hi hi2)
    refine ⟨⟨fun x hx => ?_, e1, e2⟩, fun x hx hx1 => ?_⟩
    · obtain ⟨y, hy, hxy⟩ := g2 x hx
      refine alone_in hxy ?_
      obtain ⟨j, hj2, rfl⟩ := List.getElem_of_mem hy
      have := allFrom_at ha j hj2
      rw [rd49_get _ hj2] at this
      exact insOk_in this
    · obtain ⟨y, hy, hxy⟩ := g2 x hx
      have hyx := alone_phi hxy hx1
      subst hyx
      rw [ahead_same h2] at hj
      have := joined_at _ _ _ hj _ hy hx1
      exact_mod_cast this
end Go.Proofs.YtanhnfhpajaolaaDoor.Fo
