/- The walker's meet, walked. -/
import Derived.Test.YtligpleningglaaCm
namespace Go.Proofs.Ytligpleningglaa.Cw
open Go Go.RowKit Go.Proofs.Ytligpleningglaa.Tarjan Go.Proofs.YtligpleningglaaW.PrintWords Go.Proofs.YtligpleningglaaW.PrintLast Go.Proofs.YtligpleningglaaW.PrintMore Go.Proofs.Ytligpleningglaa.F
attribute [local go_sem] max2_int min2_int max_two min_two max_three min_three
set_option linter.unusedVariables false
set_option linter.unusedSimpArgs false
section
variable {w0 w1 w : World} {p : Pl} {m : Mm}
theorem Ws.c0 (h : Ws w0 w1 p w m) : w.cell? ⟨p.g, 0, none⟩ = some p.nv := h.gs.cell (by omega)
theorem Ws.c1 (h : Ws w0 w1 p w m) : w.cell? ⟨p.g, 1, none⟩ = some (rowV p.bw p.N) := h.gs.cell (by omega)
theorem Ws.c2 (h : Ws w0 w1 p w m) : w.cell? ⟨p.g, 2, none⟩ = some (rowV p.bl p.N) := h.gs.cell (by omega)
theorem Ws.c3 (h : Ws w0 w1 p w m) : w.cell? ⟨p.g, 3, none⟩ = some m.rv := h.gs.cell (by omega)
theorem Ws.c4 (h : Ws w0 w1 p w m) : w.cell? ⟨p.g, 4, none⟩ = some (rowV p.bo p.N) := h.gs.cell (by omega)
theorem Ws.c5 (h : Ws w0 w1 p w m) : w.cell? ⟨p.g, 5, none⟩ = some m.wv := h.gs.cell (by omega)
theorem Ws.c6 (h : Ws w0 w1 p w m) : w.cell? ⟨p.g, 6, none⟩ = some m.pv := h.gs.cell (by omega)
end
theorem info73 : (Try.prog.info? 73).map (fun i => (i.zero, i.size, i.bytes)) = some (some (.agg #[(.int .i64 0), (.int .i64 0)]), 2, 16) := by kernel_rfl
theorem Ws.grow_g {w0 w1 w w' : World} {p : Pl} {m : Mm} (h : Ws w0 w1 p w m) {v : Value} (hg : w.grownBy w' v.ownBlock) (hv : ∀ k, v.ownBlock = some k → p.B ≤ k) : w'.rowIs p.g 49 7 (wkF p m) :=
  h.gs.of_block (hg.block p.g (Nat.lt_of_lt_of_le h.gl h.sz.2) (fun e => by have := hv _ e.symm; have := h.gl; omega))
theorem cells_lit1 (w : World) (v : Value) (e : TypeId) : ∀ (j : Nat) (u : Value), [v][j]? = some u → (w.alloc (Obj.cells #[v] e)).cell? ((⟨w.heap.size, 0, none⟩ : Addr).add j) = some u :=
  World.news_of_block (cs := #[v]) (heap_alloc_new w _)
set_option maxHeartbeats 1000000 in
set_option maxRecDepth 100000 in
theorem meet_calls (w0 w1 w : World) (p : Pl) (s : T) (rv wv pv : Value) (ps : List Value) (i : Nat) (h : Ws w0 w1 p w (mm s rv wv pv ps)) (hi : i < p.N) (hN : p.N ≤ 5864062014805) (hn : s.n < p.N) (hr : s.row.length < p.N) (hw : s.way.length < p.N) :
    Calls Try.prog 31 #[.pointer (some ⟨p.g, 0, none⟩), .int .i64 i, .pointer (some ⟨p.bn, 0, none⟩)] w fun e w' => e = .returned (.tuple #[]) ∧ ∃ rv' wv', Ws w0 w1 p w' (mm (meetP i s) rv' wv' pv ps) := by
  have xn : w.cell? ⟨p.bn, 0, none⟩ = some (.int .i64 (s.n : Nat)) := h.ns.cell (by omega)
  have fn := h.ns.frozen 0
  have H := Aside0.mk h
  clear h
  go_enter Try.func31, Try.ntmps31
  go_wp2
  obtain ⟨m2, em2⟩ : ∃ m2 : Mm, m2 = { mm s rv wv pv ps with n := s.n + 1 } := ⟨_, rfl⟩
  obtain ⟨w2, ew2⟩ : ∃ w2, w2 = w.setCell ⟨p.bn, 0, none⟩ (.int .i64 ((s.n : Int) + 1)) := ⟨_, rfl⟩
  have hwr : (s.n : Int) + 1 = ((s.n + 1 : Nat) : Int) := by omega
  have H2 := Aside0.mk (show Ws w0 w1 p w2 m2 by
    rw [ew2, em2, hwr]
    exact H.out.setN (s.n + 1))
  have hn2 : m2.n = s.n + 1 := by rw [em2]
  have HN2 := Aside0.mk (show w2.rowIs p.bn 3 1 (fun _ => .int .i64 ((s.n + 1 : Nat) : Int)) by have := H2.out.ns; rw [hn2] at this; exact this)
  have E2 := Aside0.mk em2
  rw [← ew2]
  clear em2 ew2 hwr hn2 xn fn
  have p1 : (0 : Int) ≤ (i : Int) := by omega
  have q1 : (i : Int) < (p.N : Int) := by omega
  have xw := H2.out.ws.cell hi
  have xl := H2.out.ls.cell hi
  have xo := H2.out.os.cell hi
  have fw := H2.out.ws.frozen i
  have fl := H2.out.ls.frozen i
  have fo := H2.out.os.frozen i
  have d1 := H2.out.d1
  have d4 := H2.out.ow
  have d5 := H2.out.ol'
  refine start_ (n := 27) (S := fun w' => w'.cell? ⟨p.g, 1, none⟩ = some (.slice (some ⟨p.bw, 0, none⟩) p.N p.N) ∧ w'.cell? ⟨p.g, 2, none⟩ = some (.slice (some ⟨p.bl, 0, none⟩) p.N p.N) ∧ w'.cell? ⟨p.g, 4, none⟩ = some (.slice (some ⟨p.bo, 0, none⟩) p.N p.N) ∧ w'.cell? ⟨p.bn, 0, none⟩ = some (.int .i64 ((s.n + 1 : Nat) : Int))) (ds := [22, 24, 26]) #[false, false, false, false, false, false, false, false, false, false, false, false, false, false, false, false, false, false, false, false, false, false, false, false, false, false, false] (by kernel_rfl) rfl rfl ⟨(H2.out.drew.c1), (H2.out.drew.c2), (H2.out.drew.c4), (HN2.out.cell (by omega))⟩ (fun hHeld => ?_)
  refine pure_ (i := 0) (N := some 11) (v := ?_) (a' := ?_) #[true, false, false, false, false, false, false, false, false, false, false, false, false, false, false, false, false, false, false, false, false, false, false, false, false, false, false] rfl rfl (by kernel_rfl) (fun _ _ _ h => h) (Or.inl ⟨by rfl, ?_⟩) ?_ ?_
  rotate_left
  · intro w'
    go_simp
    with_reducible rfl
  rotate_left
  · simp only [Act.put, List.setIfInBounds_toArray, List.set_cons_zero, List.set_cons_succ, i64_w, i32_w]
    rfl
  refine pure_ (i := 1) (N := some 12) (v := ?_) (a' := ?_) #[true, true, false, false, false, false, false, false, false, false, false, false, false, false, false, false, false, false, false, false, false, false, false, false, false, false, false] rfl rfl (by kernel_rfl) (fun _ _ _ h => h) (Or.inl ⟨by rfl, ?_⟩) ?_ ?_
  rotate_left
  · intro w'
    go_simp
    with_reducible rfl
  rotate_left
  · simp only [Act.put, List.setIfInBounds_toArray, List.set_cons_zero, List.set_cons_succ, i64_w, i32_w]
    rfl
  refine pure_ (i := 2) (N := some 13) (v := ?_) (a' := ?_) #[true, true, true, false, false, false, false, false, false, false, false, false, false, false, false, false, false, false, false, false, false, false, false, false, false, false, false] rfl rfl (by kernel_rfl) (fun _ _ _ h => h) (Or.inl ⟨by rfl, ?_⟩) ?_ ?_
  rotate_left
  · intro w'
    go_simp
    with_reducible rfl
  rotate_left
  · simp only [Act.put, List.setIfInBounds_toArray, List.set_cons_zero, List.set_cons_succ, i64_w, i32_w]
    rfl
  refine pure_ (i := 4) (N := some 15) (v := ?_) (a' := ?_) #[true, true, true, false, true, false, false, false, false, false, false, false, false, false, false, false, false, false, false, false, false, false, false, false, false, false, false] rfl rfl (by kernel_rfl) (fun _ _ _ h => h) (Or.inl ⟨by rfl, ?_⟩) ?_ ?_
  rotate_left
  · intro w'
    go_simp
    with_reducible rfl
  rotate_left
  · simp only [Act.put, List.setIfInBounds_toArray, List.set_cons_zero, List.set_cons_succ, i64_w, i32_w]
    rfl
  refine pure_ (i := 5) (N := some 16) (v := ?_) (a' := ?_) #[true, true, true, false, true, true, false, false, false, false, false, false, false, false, false, false, false, false, false, false, false, false, false, false, false, false, false] rfl rfl (by kernel_rfl) (fun _ _ _ h => h) (Or.inl ⟨by rfl, ?_⟩) ?_ ?_
  rotate_left
  · intro w'
    go_simp
    with_reducible rfl
  rotate_left
  · simp only [Act.put, List.setIfInBounds_toArray, List.set_cons_zero, List.set_cons_succ, i64_w, i32_w]
    rfl
  refine pure_ (i := 6) (N := some 17) (v := ?_) (a' := ?_) #[true, true, true, false, true, true, true, false, false, false, false, false, false, false, false, false, false, false, false, false, false, false, false, false, false, false, false] rfl rfl (by kernel_rfl) (fun _ _ _ h => h) (Or.inl ⟨by rfl, ?_⟩) ?_ ?_
  rotate_left
  · intro w'
    go_simp
    with_reducible rfl
  rotate_left
  · simp only [Act.put, List.setIfInBounds_toArray, List.set_cons_zero, List.set_cons_succ, i64_w, i32_w]
    rfl
  refine pure_ (i := 7) (N := some 18) (v := ?_) (a' := ?_) #[true, true, true, false, true, true, true, true, false, false, false, false, false, false, false, false, false, false, false, false, false, false, false, false, false, false, false] rfl rfl (by kernel_rfl) (fun _ _ _ h => h) (Or.inl ⟨by rfl, ?_⟩) ?_ ?_
  rotate_left
  · intro w'
    go_simp
    with_reducible rfl
  rotate_left
  · simp only [Act.put, List.setIfInBounds_toArray, List.set_cons_zero, List.set_cons_succ, i64_w, i32_w]
    rfl
  refine pure_ (i := 9) (N := some 20) (v := ?_) (a' := ?_) #[true, true, true, false, true, true, true, true, false, true, false, false, false, false, false, false, false, false, false, false, false, false, false, false, false, false, false] rfl rfl (by kernel_rfl) (fun _ _ _ h => h) (Or.inl ⟨by rfl, ?_⟩) ?_ ?_
  rotate_left
  · intro w'
    go_simp
    with_reducible rfl
  rotate_left
  · simp only [Act.put, List.setIfInBounds_toArray, List.set_cons_zero, List.set_cons_succ, i64_w, i32_w]
    rfl
  refine pure_ (i := 10) (N := some 21) (v := ?_) (a' := ?_) #[true, true, true, false, true, true, true, true, false, true, true, false, false, false, false, false, false, false, false, false, false, false, false, false, false, false, false] rfl rfl (by kernel_rfl) (fun _ _ _ h => h) (Or.inl ⟨by rfl, ?_⟩) ?_ ?_
  rotate_left
  · intro w'
    go_simp
    with_reducible rfl
  rotate_left
  · simp only [Act.put, List.setIfInBounds_toArray, List.set_cons_zero, List.set_cons_succ, i64_w, i32_w]
    rfl
  refine pure_ (i := 11) (N := some 22) (v := ?_) (a' := ?_) #[true, true, true, false, true, true, true, true, false, true, true, true, false, false, false, false, false, false, false, false, false, false, false, false, false, false, false] rfl rfl (by kernel_rfl) (fun _ _ _ h => h) (Or.inl ⟨by rfl, ?_⟩) ?_ ?_
  rotate_left
  · intro w'
    go_simp
    with_reducible rfl
  rotate_left
  · simp only [Act.put, List.setIfInBounds_toArray, List.set_cons_zero, List.set_cons_succ, i64_w, i32_w]
    rfl
  refine pure_ (i := 12) (N := some 23) (v := ?_) (a' := ?_) #[true, true, true, false, true, true, true, true, false, true, true, true, true, false, false, false, false, false, false, false, false, false, false, false, false, false, false] rfl rfl (by kernel_rfl) (fun _ _ _ h => h) (Or.inl ⟨by rfl, ?_⟩) ?_ ?_
  rotate_left
  · intro w'
    go_simp
    with_reducible rfl
  rotate_left
  · simp only [Act.put, List.setIfInBounds_toArray, List.set_cons_zero, List.set_cons_succ, i64_w, i32_w]
    rfl
  refine pure_ (i := 14) (N := some 25) (v := ?_) (a' := ?_) #[true, true, true, false, true, true, true, true, false, true, true, true, true, false, true, false, false, false, false, false, false, false, false, false, false, false, false] rfl rfl (by kernel_rfl) (fun _ _ _ h => h) (Or.inl ⟨by rfl, ?_⟩) ?_ ?_
  rotate_left
  · intro w'
    go_simp
    with_reducible rfl
  rotate_left
  · simp only [Act.put, List.setIfInBounds_toArray, List.set_cons_zero, List.set_cons_succ, i64_w, i32_w]
    rfl
  refine pure_ (i := 15) (N := some 26) (v := ?_) (a' := ?_) #[true, true, true, false, true, true, true, true, false, true, true, true, true, false, true, true, false, false, false, false, false, false, false, false, false, false, false] rfl rfl (by kernel_rfl) (fun _ _ _ h => h) (Or.inl ⟨by rfl, ?_⟩) ?_ ?_
  rotate_left
  · intro w'
    go_simp
    with_reducible rfl
  rotate_left
  · simp only [Act.put, List.setIfInBounds_toArray, List.set_cons_zero, List.set_cons_succ, i64_w, i32_w]
    rfl
  refine pure_ (i := 16) (N := some 27) (v := ?_) (a' := ?_) #[true, true, true, false, true, true, true, true, false, true, true, true, true, false, true, true, true, false, false, false, false, false, false, false, false, false, false] rfl rfl (by kernel_rfl) (fun _ _ _ h => h) (Or.inl ⟨by rfl, ?_⟩) ?_ ?_
  rotate_left
  · intro w'
    go_simp
    with_reducible rfl
  rotate_left
  · simp only [Act.put, List.setIfInBounds_toArray, List.set_cons_zero, List.set_cons_succ, i64_w, i32_w]
    rfl
  refine pure_ (i := 18) (N := some 29) (v := ?_) (a' := ?_) #[true, true, true, false, true, true, true, true, false, true, true, true, true, false, true, true, true, false, true, false, false, false, false, false, false, false, false] rfl rfl (by kernel_rfl) (fun _ _ _ h => h) (Or.inl ⟨by rfl, ?_⟩) ?_ ?_
  rotate_left
  · intro w'
    go_simp
    with_reducible rfl
  rotate_left
  · simp only [Act.put, List.setIfInBounds_toArray, List.set_cons_zero, List.set_cons_succ, i64_w, i32_w]
    rfl
  refine pure_ (i := 19) (N := some 30) (v := ?_) (a' := ?_) #[true, true, true, false, true, true, true, true, false, true, true, true, true, false, true, true, true, false, true, true, false, false, false, false, false, false, false] rfl rfl (by kernel_rfl) (fun _ _ _ h => h) (Or.inl ⟨by rfl, ?_⟩) ?_ ?_
  rotate_left
  · intro w'
    go_simp
    with_reducible rfl
  rotate_left
  · simp only [Act.put, List.setIfInBounds_toArray, List.set_cons_zero, List.set_cons_succ, i64_w, i32_w]
    rfl
  refine take_ (i := 3) (N := some 14) (v := ?_) (a' := ?_) #[true, true, true, true, true, true, true, true, false, true, true, true, true, false, true, true, true, false, true, true, false, false, false, false, false, false, false] rfl rfl (by kernel_rfl) (fun _ _ _ h => h) (Or.inl ⟨by rfl, ?_⟩) hHeld ?_ ?_
  rotate_left
  · rintro w' ⟨s0, s1, s2, s3⟩
    go_simp
    with_reducible rfl
  rotate_left
  · simp only [Act.put, List.setIfInBounds_toArray, List.set_cons_zero, List.set_cons_succ, i64_w, i32_w]
    rfl
  refine take_ (i := 8) (N := some 19) (v := ?_) (a' := ?_) #[true, true, true, true, true, true, true, true, true, true, true, true, true, false, true, true, true, false, true, true, false, false, false, false, false, false, false] rfl rfl (by kernel_rfl) (fun _ _ _ h => h) (Or.inl ⟨by rfl, ?_⟩) hHeld ?_ ?_
  rotate_left
  · rintro w' ⟨s0, s1, s2, s3⟩
    go_simp
    with_reducible rfl
  rotate_left
  · simp only [Act.put, List.setIfInBounds_toArray, List.set_cons_zero, List.set_cons_succ, i64_w, i32_w]
    rfl
  refine take_ (i := 13) (N := some 24) (v := ?_) (a' := ?_) #[true, true, true, true, true, true, true, true, true, true, true, true, true, true, true, true, true, false, true, true, false, false, false, false, false, false, false] rfl rfl (by kernel_rfl) (fun _ _ _ h => h) (Or.inl ⟨by rfl, ?_⟩) hHeld ?_ ?_
  rotate_left
  · rintro w' ⟨s0, s1, s2, s3⟩
    go_simp
    with_reducible rfl
  rotate_left
  · simp only [Act.put, List.setIfInBounds_toArray, List.set_cons_zero, List.set_cons_succ, i64_w, i32_w]
    rfl
  refine take_ (i := 17) (N := some 28) (v := ?_) (a' := ?_) #[true, true, true, true, true, true, true, true, true, true, true, true, true, true, true, true, true, true, true, true, false, false, false, false, false, false, false] rfl rfl (by kernel_rfl) (fun _ _ _ h => h) (Or.inl ⟨by rfl, ?_⟩) hHeld ?_ ?_
  rotate_left
  · rintro w' ⟨s0, s1, s2, s3⟩
    go_simp
    with_reducible rfl
  rotate_left
  · simp only [Act.put, List.setIfInBounds_toArray, List.set_cons_zero, List.set_cons_succ, i64_w, i32_w]
    rfl
  refine take_ (i := 20) (N := some 31) (v := ?_) (a' := ?_) #[true, true, true, true, true, true, true, true, true, true, true, true, true, true, true, true, true, true, true, true, true, false, false, false, false, false, false] rfl rfl (by kernel_rfl) (fun _ _ _ h => h) (Or.inl ⟨by rfl, ?_⟩) hHeld ?_ ?_
  rotate_left
  · rintro w' ⟨s0, s1, s2, s3⟩
    go_simp
    with_reducible rfl
  rotate_left
  · simp only [Act.put, List.setIfInBounds_toArray, List.set_cons_zero, List.set_cons_succ, i64_w, i32_w]
    rfl
  refine pure_ (i := 21) (N := some 32) (v := ?_) (a' := ?_) #[true, true, true, true, true, true, true, true, true, true, true, true, true, true, true, true, true, true, true, true, true, true, false, false, false, false, false] rfl rfl (by kernel_rfl) (fun _ _ _ h => h) (Or.inl ⟨by rfl, ?_⟩) ?_ ?_
  rotate_left
  · intro w'
    go_simp
    with_reducible rfl
  rotate_left
  · simp only [Act.put, List.setIfInBounds_toArray, List.set_cons_zero, List.set_cons_succ, i64_w, i32_w]
    rfl
  refine last_ (i := 22) (N := none) #[true, true, true, true, true, true, true, true, true, true, true, true, true, true, true, true, true, true, true, true, true, true, true, false, false, false, false] rfl rfl (by kernel_rfl) (by decide) (fun K hK => ?_)
  refine skip_ (w1 := ?_) (by rfl) rfl ?_ ?_
  rotate_left
  · go_simp
    rfl
  refine hK.out _ _ ?_
  clear hK K
  refine pure_ (i := 23) (N := some 33) (v := ?_) (a' := ?_) #[true, true, true, true, true, true, true, true, true, true, true, true, true, true, true, true, true, true, true, true, true, true, true, true, false, false, false] rfl rfl (by kernel_rfl) (fun _ _ _ h => h) (Or.inl ⟨by rfl, ?_⟩) ?_ ?_
  rotate_left
  · intro w'
    go_simp
    with_reducible rfl
  rotate_left
  · simp only [Act.put, List.setIfInBounds_toArray, List.set_cons_zero, List.set_cons_succ, i64_w, i32_w]
    rfl
  refine last_ (i := 24) (N := none) #[true, true, true, true, true, true, true, true, true, true, true, true, true, true, true, true, true, true, true, true, true, true, true, true, true, false, false] rfl rfl (by kernel_rfl) (by decide) (fun K hK => ?_)
  refine skip_ (w1 := ?_) (by rfl) rfl ?_ ?_
  rotate_left
  · go_simp
    rfl
  refine hK.out _ _ ?_
  clear hK K
  refine pure_ (i := 25) (N := some 34) (v := ?_) (a' := ?_) #[true, true, true, true, true, true, true, true, true, true, true, true, true, true, true, true, true, true, true, true, true, true, true, true, true, true, false] rfl rfl (by kernel_rfl) (fun _ _ _ h => h) (Or.inl ⟨by rfl, ?_⟩) ?_ ?_
  rotate_left
  · intro w'
    go_simp
    with_reducible rfl
  rotate_left
  · simp only [Act.put, List.setIfInBounds_toArray, List.set_cons_zero, List.set_cons_succ, i64_w, i32_w]
    rfl
  refine last_ (i := 26) (N := none) #[true, true, true, true, true, true, true, true, true, true, true, true, true, true, true, true, true, true, true, true, true, true, true, true, true, true, true] rfl rfl (by kernel_rfl) (by decide) (fun K hK => ?_)
  refine skip_ (w1 := ?_) (by rfl) rfl ?_ ?_
  rotate_left
  · go_simp
    rfl
  refine hK.out _ _ ?_
  clear hK K
  refine done_ (by kernel_rfl) ?_


  obtain ⟨m3, em3⟩ : ∃ m3 : Mm, m3 = { { { m2 with wh := up m2.wh i (s.n + 1) } with lo := up m2.lo i (s.n + 1) } with on := upO m2.on i true } := ⟨_, rfl⟩
  obtain ⟨w3, ew3⟩ : ∃ w3, w3 = (((w2.setCell ⟨p.bw, i, none⟩ (.int .i64 ((s.n : Int) + 1))).setCell ⟨p.bl, i, none⟩ (.int .i64 ((s.n : Int) + 1))).setCell ⟨p.bo, i, none⟩ (.bool true)).drew := ⟨_, rfl⟩
  have H3 := Aside0.mk (show Ws w0 w1 p w3 m3 by
    rw [ew3, em3, show (s.n : Int) + 1 = ((s.n + 1 : Nat) : Int) by omega]
    exact (((H2.out.setW i (s.n + 1)).setL i (s.n + 1)).setO i true).drew)
  have E3 := Aside0.mk em3
  rw [← ew3]
  have x3 : w3.cell? ⟨p.g, 3, none⟩ = some m3.rv := H3.out.c3
  have hr3 : m3.row.length < p.N := by rw [em3, E2.out]; exact hr
  have hw3 : m3.way.length < p.N := by rw [em3, E2.out]; exact hw
  clear em3 ew3 xw xl xo fw fl fo d1 d4 d5 hHeld hr hw hn
  obtain ⟨i3, hi3, hz3⟩ := Option.map_eq_some_iff.1 info3
  obtain ⟨i73, hi73, hz73⟩ := Option.map_eq_some_iff.1 info73
  simp only [Prod.mk.injEq] at hz3 hz73
  obtain ⟨z3a, z3b, z3c⟩ := hz3
  obtain ⟨z7a, z7b, z7c⟩ := hz73
  have NN := Aside0.mk (show p.N ≤ 5864062014805 ∧ m3.row.length < p.N ∧ m3.way.length < p.N from ⟨hN, hr3, hw3⟩)
  have I3 := Aside0.mk (show Try.prog.info? 3 = some i3 ∧ i3.zero = some (Value.int IntKind.i64 0) ∧ i3.size = 1 ∧ i3.bytes = 8 from ⟨hi3, z3a, z3b, z3c⟩)
  have I73 := Aside0.mk (show Try.prog.info? 73 = some i73 ∧ i73.zero = some (.agg #[(.int .i64 0), (.int .i64 0)]) ∧ i73.size = 2 ∧ i73.bytes = 16 from ⟨hi73, z7a, z7b, z7c⟩)
  clear hi3 hi73 z3a z3b z3c z7a z7b z7c hr3 hw3 hN
  go_wp2_with (first
    | ((with_reducible refine gate_builtin (b := .append) (xs := #[.tmp 39, .tmp 41]) rfl ?_); at_builtin
       refine wpList_append_lies _ rfl _ _ 35 rfl p.B 3 i3 (.int .i64 0) 1 8 Try.underlying35 I3.out.1 I3.out.2.1 I3.out.2.2.1 I3.out.2.2.2 rfl (by decide) m3.rv m3.row.length (ints m3.row) rfl (H3.out.rr.alloc _) ⟨w3.heap.size, 0, none⟩ 1 1 [.int .i64 (i : Nat)] rfl rfl (cells_lit1 w3 _ 3) ?q1 (by decide) ?q2 ?q3 ?q4 _ rfl ?_
       (case q1 => intro u hu; simp at hu; subst hu; rfl)
       (case q2 => unfold maxLen; have := NN.out; omega)
       (case q3 => have := NN.out; omega)
       (case q4 => have := H3.out.sz.2; simp; omega)
       intro k c w4 hown hg hat hlt
       have H3a := H3.out.below (below_alloc (Below.refl _ _) (.cells #[.int .i64 (i : Nat)] 3))
       have G4 := H3a.grow_g hg (fun k hk => (H3a.rr.lt k hk).1)
       have H5 := Aside0.mk (H3a.pushRow i hg hown hat rfl)
       have x3 : w4.cell? ⟨p.g, 3, none⟩ = some m3.rv := G4.cell (by omega)
       have f3 : w4.frozen? ⟨p.g, 3, none⟩ = false := G4.frozen 3
       have x5 : w4.cell? ⟨p.g, 5, none⟩ = some m3.wv := G4.cell (by omega)
       clear hown hg hat hlt H3a G4)
    | ((with_reducible refine gate_builtin (b := .append) (xs := #[.tmp 49, .tmp 52]) rfl ?_); at_builtin
       obtain ⟨w5, ew5⟩ : ∃ w5, w5 = w4.setCell ⟨p.g, 3, none⟩ (.slice (some ⟨k, 0, none⟩) (m3.row.length + 1) c) := ⟨_, rfl⟩
       have hz5 : w5.heap.size = w4.heap.size := by rw [ew5]; simp [World.setCell]
       rw [← ew5] at H5 ⊢
       clear ew5 x3 f3 x5
       refine wpList_append_lies _ rfl _ _ 47 rfl p.B 73 i73 (.agg #[(.int .i64 0), (.int .i64 0)]) 2 16 Try.underlying47 I73.out.1 I73.out.2.1 I73.out.2.2.1 I73.out.2.2.2 rfl (by decide) m3.wv m3.way.length (steps m3.way) rfl (H5.out.wy.alloc _) ⟨w4.heap.size, 0, none⟩ 1 1 [.int .i64 (i : Nat), .int .i64 0] rfl rfl (by rw [← hz5]; exact World.news_of_block (cs := #[.int .i64 (i : Nat), .int .i64 0]) (heap_alloc_new w5 _)) ?q1 (by decide) ?q2 ?q3 ?q4 _ rfl ?_
       (case q1 => intro u hu; simp at hu; rcases hu with rfl | rfl <;> rfl)
       (case q2 => unfold maxLen; have := NN.out; omega)
       (case q3 => have := NN.out; omega)
       (case q4 => have := H5.out.sz.2; simp; omega)
       intro k2 c2 w6 hown hg hat hlt
       have H5a := H5.out.below (below_alloc (Below.refl _ _) (.cells #[.int .i64 (i : Nat), .int .i64 0] 73))
       have G6 := H5a.grow_g hg (fun k hk => (H5a.wy.lt k hk).1)
       have H7 := Aside0.mk (H5a.pushWay (H := 0) i hg hown)
       have x5 : w6.cell? ⟨p.g, 5, none⟩ = some m3.wv := G6.cell (by omega)
       have f5 : w6.frozen? ⟨p.g, 5, none⟩ = false := G6.frozen 5
       clear hown hg hat hlt H5a G6))
  first | go_end0 | ((try simp only [Exit.inBlock, Exit.then]); refine bodyPost_ret (results_none rfl _ _ _) rfl ?_)
  refine ⟨rfl, .slice (some ⟨k, 0, none⟩) (m3.row.length + 1) c, .slice (some ⟨k2, 0, none⟩) (m3.way.length + 1) c2, ?_⟩
  have h7 := H7.out
  have e : mm (meetP i s) (.slice (some ⟨k, 0, none⟩) (m3.row.length + 1) c) (.slice (some ⟨k2, 0, none⟩) (m3.way.length + 1) c2) pv ps = { { m3 with row := m3.row ++ [i], rv := .slice (some ⟨k, 0, none⟩) (m3.row.length + 1) c } with way := (i, 0) :: m3.way, wv := .slice (some ⟨k2, 0, none⟩) (m3.way.length + 1) c2 } := by
    rw [E3.out, E2.out]
    unfold mm
    rw [on_meet]
    rfl
  rw [e]
  exact h7
end Go.Proofs.Ytligpleningglaa.Cw
