/- A program that is handed in, opened: it reads as a plain list of graphs, no list in it longer than memory lets it be. -/
import Derived.Test.YtligpleningglaaKo
import Derived.Test.YtligpleningglaaRl
namespace Go.Proofs.Ytligpleningglaa.Cw
open Go Go.ChangeShapes Go.WideShapes Go.Deep Go.RowKit Go.Proofs.YtligpleningglaaW.PrintWords Go.Proofs.Ytligpleningglaa.F Go.Proofs.Ytligpleningglaa.Ko
set_option linter.unusedVariables false
set_option linter.unusedSimpArgs false
section
variable {W : World}
theorem op3 : Opn Try.prog W (Kd.int .i64) 3 (fun _ => True) := op_weaken (op_int Try.underlying3) (fun _ _ => trivial)
theorem op35 : Opn Try.prog W (Kd.slice 3 (Kd.int .i64)) 35 (fun _ => True) := op_weaken (op_slice 3 Try.underlying35 (by kernel_rfl) op3) (fun _ _ => trivial)
theorem op38 : Opn Try.prog W (Kd.slice 37 (Kd.int .u8)) 38 (fun _ => True) := op_weaken (op_slice 37 Try.underlying38 (by kernel_rfl) (op_int Try.underlying37)) (fun _ _ => trivial)
theorem op115 : Opn Try.prog W k115 115 (fun _ => True) := op_weaken (op_iso (fun x => ⟨x.1, x.2⟩) (fun _ => rfl)
  (op_struct Try.underlying115 (by kernel_rfl) (op_more rfl (by kernel_rfl) (op_int Try.underlying37) (op_last rfl (by kernel_rfl) op3)))) (fun _ _ => trivial)
theorem op39 : Opn Try.prog W (Kd.slice 115 k115) 39 (fun _ => True) := op_weaken (op_slice 115 Try.underlying39 (by kernel_rfl) op115) (fun _ _ => trivial)
theorem op59 : Opn Try.prog W k59 59 (fun _ => True) := op_weaken (op_iso (fun x => ⟨x.1, x.2⟩) (fun _ => rfl) (op_arr2 Try.underlying59 (by kernel_rfl) (by kernel_rfl) op3)) (fun _ _ => trivial)
theorem op62 : Opn Try.prog W k62 62 (fun _ => True) := op_weaken (op_iso (fun x => ⟨x.1, x.2.1, x.2.2.1, x.2.2.2⟩) (fun _ => rfl)
  (op_struct Try.underlying62 (by kernel_rfl) (op_more rfl (by kernel_rfl) (op_int Try.underlying58) (op_more rfl (by kernel_rfl) op3 (op_more rfl (by kernel_rfl) op59 (op_last rfl (by kernel_rfl) (op_int Try.underlying60))))))) (fun _ _ => trivial)
theorem op69 : Opn Try.prog W k69 69 (fun _ => True) := op_weaken (op_iso (fun x => ⟨x.1, x.2.1, x.2.2.1, x.2.2.2.1, x.2.2.2.2.1, x.2.2.2.2.2⟩) (fun _ => rfl)
  (op_struct Try.underlying69 (by kernel_rfl) (op_more rfl (by kernel_rfl) (op_int Try.underlying65) (op_more rfl (by kernel_rfl) (op_int Try.underlying66) (op_more rfl (by kernel_rfl) op3 (op_more rfl (by kernel_rfl) op35 (op_more rfl (by kernel_rfl) (op_int Try.underlying67) (op_last rfl (by kernel_rfl) op3)))))))) (fun _ _ => trivial)
theorem op64 : Opn Try.prog W k64 64 (fun b => b.f0.length ≤ 17592186044416) := op_weaken (op_iso (fun x => ⟨x.1, x.2⟩) (fun _ => rfl)
  (op_struct Try.underlying64 (by kernel_rfl) (op_more rfl (by kernel_rfl) (op_slice 69 Try.underlying57 (by kernel_rfl) op69) (op_last rfl (by kernel_rfl) op62)))) (fun b hb => by
    have h : b.f0.length * Try.prog.bytesOf 69 ≤ reachBytes := hb.1.1
    rw [show Try.prog.bytesOf 69 = 56 by kernel_rfl, show reachBytes = 140737488351232 from rfl] at h
    omega)
theorem op42 : Opn Try.prog W k42 42 (fun g => g.f5.length ≤ 17592186044416 ∧ ∀ b ∈ g.f5, b.f0.length ≤ 17592186044416) := op_weaken (op_iso (fun x => ⟨x.1, x.2.1, x.2.2.1, x.2.2.2.1, x.2.2.2.2.1, x.2.2.2.2.2⟩) (fun _ => rfl)
  (op_struct Try.underlying42 (by kernel_rfl) (op_more rfl (by kernel_rfl) (op_string Try.underlying9) (op_more rfl (by kernel_rfl) op35 (op_more rfl (by kernel_rfl) (op_int Try.underlying37) (op_more rfl (by kernel_rfl) op38 (op_more rfl (by kernel_rfl) op39 (op_last rfl (by kernel_rfl) (op_slice 64 Try.underlying40 (by kernel_rfl) op64))))))))) (fun g hg => by
    have h : g.f5.length * Try.prog.bytesOf 64 ≤ reachBytes := hg.2.2.2.2.2.1
    have h2 : ∀ b ∈ g.f5, b.f0.length ≤ 17592186044416 := hg.2.2.2.2.2.2
    rw [show Try.prog.bytesOf 64 = 64 by kernel_rfl, show reachBytes = 140737488351232 from rfl] at h
    exact ⟨by omega, h2⟩)
theorem op29 : Opn Try.prog W (Kd.slice 42 k42) 29 ProgOk := op_weaken (op_slice 42 Try.underlying29 (by kernel_rfl) op42) (fun p hp => by
    obtain ⟨h, h2⟩ := hp
    rw [show Try.prog.bytesOf 42 = 120 by kernel_rfl, show reachBytes = 140737488351232 from rfl] at h
    exact ⟨by omega, h2⟩)
end
theorem open_graphs {H : Type} {enc : TypeId × Value → H} {W : World} {a : Option Addr} {len cap : Nat} {d : DataW H} {ps : List MemPlace}
    (h : DataW.Trod enc Try.prog W 0 (fun _ => true) true 29 (.slice a len cap) d ps) :
    ∃ l : List S42, l.length = len ∧ len ≤ cap ∧ Kd.C k42 W a len l ∧ ∀ {ts : List TypeId} {ds : List (DataW H)} {j : Nat}, (DataW.weightsEach Try.prog ts ds).all (· ≤ reachBytes) = true → ts[j]? = some 29 → ds[j]? = some d → ProgOk l := Opn.arg op29 h
theorem callsRound_walk (A : Option Addr) (len cap : Nat) (l : List S42) (W : World) (hl : l.length = len) (hlc : len ≤ cap) (hC : Kd.C k42 W A len l) (hok : ProgOk l) :
    Calls Try.prog 7 #[.slice A len cap] W fun e W' => e = .returned (.bool true) ∧ Below W.heap.size W W' := by
  subst hl
  obtain ⟨k, hk⟩ := callsRound_plain hok
  exact smithylaw19_CallsRound.calls k A cap l true W hC hlc hk
end Go.Proofs.Ytligpleningglaa.Cw
