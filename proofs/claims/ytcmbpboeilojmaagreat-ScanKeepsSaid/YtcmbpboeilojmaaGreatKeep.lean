/- An append to a row of one's own, with one limb more: the row that was appended to is still there, as it was. -/
import Derived.Test.YtcmbpboeilojmaaGreatWWords
import Derived.Test.YtcmbpboeilojmaaGreatWGuard
namespace Go.Proofs.YtcmbpboeilojmaaGreat.Keep
open Go Go.RowKit Go.Proofs.YtcmbpboeilojmaaGreatW.PrintWords
set_option linter.unusedVariables false
set_option linter.unusedSimpArgs false
section
variable {P : Program} (w : World)

theorem run_append_keep (base : Nat) (t ty e : TypeId) (i : TypeInfo) (z : Value) (size bytes : Nat) (ht : P.underlying t = some (.slice e)) (hi : P.info? e = some i) (hz : i.zero = some z)
    (hsize : i.size = size) (hby : i.bytes = bytes) (hzs : z.cells.size = size) (hsz : 0 < size)
    (v : Value) (n : Nat) (xs : List Value) (hown : w.ownsRow base e size v n xs)
    (a : Addr) (m c : Nat) (news : List Value) (hl : news.length = m * size) (hnews : ∀ j u, news[j]? = some u → w.cell? (a.add j) = some u) (h1 : ∀ u ∈ news, u.oneCell' = true)
    (h63 : n + m ≤ maxLen) (hbytes : (n + m) * bytes ≤ 140737488355328) (hbase : base ≤ w.heap.size) :
    ∃ v' w', (Builtin.append_ #[t, t] ty #[v, .slice (some a) m c]).run P w = .ok v' w' ∧ w'.ownsRow base e size v' (n + m) (xs ++ news) ∧ w.grownBy w' v.ownBlock ∧
      (v'.ownBlock = v.ownBlock ∨ v'.ownBlock = some w.heap.size) ∧ w'.ownsRow base e size v n xs := by
  obtain ⟨v', w', hr, h2, h3, _, h5⟩ := run_append_own_at (P := P) w base t ty e i z size bytes ht hi hz hsize hby hzs hsz v n xs hown a m c news hl hnews h1 h63 hbytes hbase
  refine ⟨v', w', hr, h2, h3, h5, ?_⟩
  have hsmall : n + m ≤ 9223372036854775807 := by simp only [maxLen] at h63; omega
  subst hsize
  subst hby
  rcases hown with ⟨hxl, ⟨rfl, rfl⟩ | ⟨g, cap, cur, rfl, hbg, hg, hnc, hcm, hcs, htake⟩⟩
  · exact ⟨hxl, .inl ⟨rfl, rfl⟩⟩
  · have hlt : g < w.heap.size := (Array.getElem?_eq_some_iff.1 hg).1
    by_cases hroom : n + m ≤ cap
    · have hfit : n * i.size + news.length ≤ cur.size := by rw [hl, hcs, ← Nat.add_mul]; exact Nat.mul_le_mul_right _ hroom
      have hr2 := run_append_room (P := P) w t ty e i ht hi g n cap cur hg a m c news hl hnews h1 hroom hfit
      rw [hr] at hr2
      injection hr2 with e1 e2
      subst e1
      rcases h2.2 with ⟨h6, _⟩ | ⟨g', cap', cur', h6, h7, h8, h9, h10, h11, h12⟩
      · cases h6
      · injection h6 with h6 h6a h6b
        injection h6 with h6
        injection h6 with h6
        subst h6 h6b
        refine ⟨hxl, .inr ⟨g, cap, cur', rfl, hbg, h8, hnc, hcm, h11, ?_⟩⟩
        have : (cur'.toList.take ((n + m) * i.size)).take (n * i.size) = (xs ++ news).take (n * i.size) := by rw [h12]
        rw [List.take_take, Nat.min_eq_left (Nat.mul_le_mul_right _ (by omega)), ← hxl, List.take_left] at this
        rw [← hxl]; exact this
    · have holds : ∀ j u, xs[j]? = some u → w.cell? ((⟨g, 0, none⟩ : Addr).add j) = some u := World.ownsRow.cells (base := base) (g := g) ⟨hxl, .inr ⟨g, cap, cur, rfl, hbg, hg, hnc, hcm, hcs, htake⟩⟩ rfl
      have hr2 := run_append_grow (P := P) w t ty e i z ht hi hz ⟨g, 0, none⟩ n cap xs hxl holds a m c news hl hnews (by omega) (by omega) (growslice_fits (by omega) hbytes)
      rw [hr] at hr2
      injection hr2 with e1 e2
      refine ⟨hxl, .inr ⟨g, cap, cur, rfl, hbg, ?_, hnc, hcm, hcs, htake⟩⟩
      rw [e2]
      exact (Below.heap_alloc w.drew _ g hlt).trans hg
end

section
variable {P : Program} {ops : Array Oper} {rest : List Oper} {o : Oper} {a : Act} {Q : Exit → Act → World → Prop} {α : Type}
/-- append(v, x) of one element, at an operation that is carried out (a region's step or not): v's row stays. -/
theorem R_append_keep (d : Kd α) {w0 W : World} (base : Nat) (hgd : o.guard = none) (s x : Operand) (t e : TypeId) (z : Value) (bytes : Nat)
    (ho : o.op = .call { callee := .builtin .append, args := #[s, x], argTypes := #[t, t] })
    (ht : P.underlying t = some (.slice e)) (hinfo : (P.info? e).map (fun i => (i.zero, i.size, i.bytes)) = some (some z, d.sz, bytes)) (hz : z.cells.size = d.sz) (hs0 : 0 < d.sz) (hb0 : 0 < bytes)
    (v : Value) (xs ys : List α) (cs : List Value) (ok : Nat → Prop) (ad : Addr) (c : Nat) (hs : a.eval s = v) (hx : a.eval x = .slice (some ad) ys.length c)
    (hcs : Kd.C d W (some ad) ys.length ys) (hreps : Reps (d.M W base (fun _ => False)) d.sz ys cs) (hcells : ∀ j u, cs[j]? = some u → W.cell? (ad.add j) = some u) (hfresh : ∀ k, W.heap.size ≤ k → ok k)
    (HO : d.R e W base ok v xs) (HB : Below base w0 W) (hbase : base ≤ W.heap.size) (hl : (xs.length + ys.length) * bytes ≤ 140737488355328)
    (h : ∀ v1 w1, d.R e w1 base ok v1 (xs ++ ys) → d.R e w1 base ok v xs → Below base w0 w1 → W.grownBy w1 v.ownBlock → (v1.ownBlock = v.ownBlock ∨ ∃ b, v1.ownBlock = some b ∧ W.heap.size ≤ b) → wpList P ops Q rest (a.put o.dst v1) w1) :
    wpList P ops Q (o :: rest) a W := by
  obtain ⟨h0, inner, hown, hr⟩ := HO
  obtain ⟨i0, hi, hzz⟩ := Option.map_eq_some_iff.1 hinfo
  simp only [Prod.mk.injEq] at hzz
  obtain ⟨hz0, hz1, hz2⟩ := hzz
  have hlen : xs.length + ys.length ≤ 140737488355328 := Nat.le_trans (Nat.le_mul_of_pos_right _ hb0) hl
  have hone : ∀ u ∈ cs, u.oneCell' = true := by
    intro u hu
    obtain ⟨j, hj, rfl⟩ := List.getElem_of_mem hu
    have hjl : j < ys.length * d.sz := by rw [← hreps.1]; exact hj
    have hq : j / d.sz < ys.length := Nat.div_lt_of_lt_mul (by rw [Nat.mul_comm]; exact hjl)
    have hp := hreps.2 (j / d.sz) _ (List.getElem?_eq_getElem hq)
    refine d.K_one (d.K_of_M hp) _ ?_
    rw [List.mem_iff_getElem?]
    refine ⟨j % d.sz, ?_⟩
    rw [List.getElem?_take_of_lt (Nat.mod_lt _ hs0), List.getElem?_drop]
    rw [show j / d.sz * d.sz + j % d.sz = j from by rw [Nat.mul_comm]; exact Nat.div_add_mod j d.sz]
    exact List.getElem?_eq_getElem hj
  obtain ⟨v1, w1, hrun, h2, h3, h5, h6⟩ := run_append_keep (P := P) W base t o.type e i0 z d.sz bytes ht hi hz0 hz1 hz2 hz hs0 v xs.length inner hown ad ys.length c cs hreps.1 hcells hone (by simp only [maxLen]; omega) hl hbase
  have hat : v1.ownBlock = v.ownBlock ∨ ∃ b, v1.ownBlock = some b ∧ W.heap.size ≤ b := by
    rcases h5 with h5 | h5
    · exact .inl h5
    · exact .inr ⟨_, h5, Nat.le_refl _⟩
  refine wpList_plain hgd fun K hK => ?_
  unfold Oper.wp execOp
  simp only [ho, resolve, invoke, builtin, Sem.run_bind, Sem.run_pure, Result.andThen_ok, List.map_toArray, List.map_cons, List.map_nil, hs, hx, hrun]
  refine hK _ _ (h v1 w1 ?_ ⟨h0, inner, h6, hr.imp_ (fun _ _ hp => Kd.M_grown hp h3 (fun k hk => hk.2))⟩ (HB.grown h3 hbase (own_base hown)) h3 hat)
  refine ⟨fun k hk => ?_, inner ++ cs, by rw [List.length_append]; exact h2, ?_⟩
  · rcases hat with e1 | ⟨b, e1, hb⟩
    · exact h0 k (by rw [← e1]; exact hk)
    · rw [e1] at hk; injection hk with hk; subst hk; exact hfresh _ hb
  · have hstep : ∀ (ok' : Nat → Prop) (x : α) (c : List Value), (∀ k, ok' k → ok k ∧ some k ≠ v.ownBlock) → d.M W base ok' x c → d.M w1 base (fun k => ok k ∧ some k ≠ v1.ownBlock) x c := by
      intro ok' x c hok' hm
      have hm2 := Kd.M_grown (d.M_mono (fun k hk => hk) (d.M_bound hm)) h3 (fun k hk => (hok' k hk.1).2)
      refine d.M_mono (fun k hk => ⟨(hok' k hk.1).1, ?_⟩) hm2
      rcases hat with e1 | ⟨b, e1, hb⟩
      · rw [e1]; exact (hok' k hk.1).2
      · rw [e1]; intro e'; injection e' with e'; have := hk.2.2.1; omega
    refine ⟨by rw [List.length_append, hr.1, hreps.1, List.length_append, Nat.add_mul], fun j p hp => ?_⟩
    by_cases hj : j < xs.length
    · rw [List.getElem?_append_left hj] at hp
      have := hr.2 j p hp
      have h1 : j * d.sz + d.sz ≤ inner.length := by rw [hr.1, ← Nat.succ_mul]; exact Nat.mul_le_mul_right _ hj
      rw [List.drop_append_of_le_length (by omega), List.take_append_of_le_length (by rw [List.length_drop]; omega)]
      exact hstep _ _ _ (fun k hk => hk) this
    · rw [List.getElem?_append_right (by omega)] at hp
      have := hreps.2 (j - xs.length) p hp
      have he : (inner ++ cs).drop (j * d.sz) = cs.drop ((j - xs.length) * d.sz) := by
        rw [List.drop_append, hr.1, List.drop_eq_nil_of_le (by rw [hr.1]; exact Nat.mul_le_mul_right _ (by omega)), List.nil_append, Nat.sub_mul]
      rw [he]
      exact hstep _ _ _ (fun k hk => hk.elim) this
end
end Go.Proofs.YtcmbpboeilojmaaGreat.Keep
