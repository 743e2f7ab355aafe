/- How the kinds of data of layer 3's statements are opened. No condition. -/
import Derived.Test.YtfmmbkggamojkaaRows
import Derived.Test.YtfmmbkggamojkaaR0
import Derived.Test.YtfmmbkggamojkaaP3
import Derived.WalkKit
import Derived.ProofKit
import Derived.OpenShut
import Derived.ShutString
import Derived.ChangeOld
import Derived.Below
set_option linter.unusedVariables false
namespace Go.Proofs.Ytfmmbkggamojkaa
open Go.ChangeShapes Go.WideShapes Go.ChangeAt Go.RowKit

theorem u_bytes : Opens Try.prog 36 (List UInt8) := (Opens.byte (t := 5) Try.underlying5 (by kernel_rfl)).slice Try.underlying36 (by kernel_rfl) (by kernel_rfl)
theorem u_list : Opens Try.prog 22 (List (List UInt8)) := u_bytes.slice Try.underlying22 (by kernel_rfl) (by kernel_rfl)
theorem u_bools : Opens Try.prog 26 (List Bool) := (Opens.bool (t := 4) Try.underlying4 (by kernel_rfl)).slice Try.underlying26 (by kernel_rfl) (by kernel_rfl)
theorem u_int : Opens Try.prog 3 Int := Opens.int64 Try.underlying3 (by kernel_rfl)
theorem u_act : Opens Try.prog 39 Act3 :=
  Opens.iso _ (fun a => ⟨a.1, a.2.1, a.2.2⟩) (fun _ => rfl) 40 (by decide) (Opens.struct Try.underlying39 (by kernel_rfl) (OpensF.cons u_int rfl (OpensF.cons u_int rfl (OpensF.last u_bytes rfl))))
theorem u_acts : Opens Try.prog 23 (List Act3) := u_act.slice Try.underlying23 (by kernel_rfl) (by kernel_rfl)
theorem u_state : Opens Try.prog 25 (List (List UInt8) × List Act3 × Int) := Opens.struct Try.underlying25 (by kernel_rfl) (OpensF.cons u_list rfl (OpensF.cons u_acts rfl (OpensF.last u_int rfl)))
theorem st_cells {W : World} {S : FP} {s : List (List UInt8) × List Act3 × Int} {cs : List Value} (h : Rep.has W S s cs) : ∃ A1 c1 A2 c2, cs = [.slice A1 s.1.length c1, .slice A2 s.2.1.length c2, .int .i64 s.2.2] ∧ Rd W S A1 c1 s.1 ∧ Rd W S A2 c2 s.2.1 := by
  obtain ⟨_, _, rfl, ⟨A1, c1, rfl, h1⟩, _, _, rfl, ⟨A2, c2, rfl, h2⟩, rfl, _⟩ := h
  exact ⟨A1, c1, A2, c2, rfl, h1, h2⟩
end Go.Proofs.Ytfmmbkggamojkaa
