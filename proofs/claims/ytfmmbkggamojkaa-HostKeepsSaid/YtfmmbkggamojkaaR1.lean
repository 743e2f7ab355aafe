/- HostKeeps: behind a crash each sector is what it was, or zeros, or what a write that waited had for it: true whatever comes in. No condition. -/
import Derived.Test.YtfmmbkggamojkaaRows
import Derived.Test.YtfmmbkggamojkaaR0
import Derived.Test.YtfmmbkggamojkaaW1
import Derived.WalkKit
import Derived.ProofKit
import Derived.OpenShut
import Derived.ShutString
import Derived.ChangeOld
import Derived.Below
set_option linter.unusedVariables false
namespace Go.Proofs.Ytfmmbkggamojkaa
open Go.ChangeShapes Go.WideShapes Go.ChangeAt Go.RowKit

theorem u_bytes : Opens Try.prog 36 (List UInt8) := (Opens.byte (t := 5) Try.underlying5 (by kernel_rfl)).slice Try.underlying36 (by kernel_rfl) (by kernel_rfl)
theorem u_list : Opens Try.prog 22 (List (List UInt8)) := u_bytes.slice Try.underlying22 (by kernel_rfl) (by kernel_rfl)
theorem u_bools : Opens Try.prog 26 (List Bool) := (Opens.bool (t := 4) Try.underlying4 (by kernel_rfl)).slice Try.underlying26 (by kernel_rfl) (by kernel_rfl)
theorem u_int : Opens Try.prog 3 Int := Opens.int64 Try.underlying3 (by kernel_rfl)
theorem u_act : Opens Try.prog 39 Act3 :=
  Opens.iso _ (fun a => ⟨a.1, a.2.1, a.2.2⟩) (fun _ => rfl) 40 (by decide) (Opens.struct Try.underlying39 (by kernel_rfl) (OpensF.cons u_int rfl (OpensF.cons u_int rfl (OpensF.last u_bytes rfl))))
theorem u_acts : Opens Try.prog 23 (List Act3) := u_act.slice Try.underlying23 (by kernel_rfl) (by kernel_rfl)
theorem u_state : Opens Try.prog 25 (List (List UInt8) × List Act3 × Int) := Opens.struct Try.underlying25 (by kernel_rfl) (OpensF.cons u_list rfl (OpensF.cons u_acts rfl (OpensF.last u_int rfl)))
theorem st_cells {W : World} {S : FP} {s : List (List UInt8) × List Act3 × Int} {cs : List Value} (h : Rep.has W S s cs) : ∃ A1 c1 A2 c2, cs = [.slice A1 s.1.length c1, .slice A2 s.2.1.length c2, .int .i64 s.2.2] ∧ Rd W S A1 c1 s.1 ∧ Rd W S A2 c2 s.2.1 := by
  obtain ⟨_, _, rfl, ⟨A1, c1, rfl, h1⟩, _, _, rfl, ⟨A2, c2, rfl, h2⟩, rfl, _⟩ := h
  exact ⟨A1, c1, A2, c2, rfl, h1, h2⟩
namespace hostKeeps
theorem own : ownKnob Try.prog.godebug = none := by kernel_rfl
theorem laidOut : laidOutB Try.prog = true := by kernel_rfl
set_option maxRecDepth 100000 in
theorem lifted (os : Os) (started : os.Started) (H : Type) (enc : TypeId × Value → H) :
    ReturnsInHanded {} Try.checked os 3 .any (Rows.hostKeepsSpec.pre6 enc Try.prog Try.f3 Rows.hostKeepsRow.domain false) (Rows.hostKeepsSpec.post enc Try.prog Try.f3 false true false false) := by
  refine returnsInHanded_of_change_sized (C := Try.checked) own started (by kernel_rfl) Try.func3
    (ChangeSpec.witness6 (enc := enc) (C := Try.checked) false ⟨#[], #[.agg #[.slice none 0 0, .slice none 0 0, .int .i64 0], .slice none 0 0], []⟩ 8 (by kernel_rfl) (by kernel_rfl) (by kernel_rfl) (by kernel_rfl)) ?_
  intro W base args ds gs before hval0 hW hcnd hsz0 _
  have hsz : (DataW.weightsEach Try.prog (Try.f3.params.toList ++ Rows.hostKeepsSpec.plain.varTypes Try.prog) (ds ++ gs)).all (· ≤ reachBytes) = true := hsz0
  have hval : ∀ (j : Nat) t v, Try.f3.params[j]? = some t → args[j]? = some v → Value.okWide Try.prog W .any base t v := hval0
  have hW' := hW
  obtain ⟨p, q, hA0, hV, rfl, hfz, hnd⟩ := hW
  have hA : DataW.TrodAll enc Try.prog W 0 (fun _ => true) true Try.f3.params.toList args.toList ds p := hA0
  rw [Try.params3] at hA hval hsz
  obtain ⟨v0, vs0, d0, ds0, p0, q0, hargs, rfl, rfl, h0, r0⟩ := trodAll_cons hA
  obtain ⟨v1, vs1, d1, ds1, p1, q1, rfl, rfl, rfl, h1, r1⟩ := trodAll_cons r0
  obtain ⟨rfl, rfl, rfl⟩ := trodAll_nil r1
  obtain rfl : args = #[v0, v1] := by cases args; simp_all
  obtain ⟨rfl, rfl⟩ := trodVars_none hV
  obtain ⟨s, e0⟩ := open_arg u_state hsz (j := 0) rfl rfl h0
  obtain ⟨x1, e1⟩ := open_arg u_bools hsz (j := 1) rfl rfl h1
  obtain ⟨cs, rfl, _⟩ := okWide_struct Try.underlying25 (hval 0 25 v0 rfl rfl)
  obtain ⟨a1, n1, c1, rfl⟩ := okWide_slice Try.underlying26 (hval 1 26 v1 rfl rfl)
  obtain ⟨A1, k1, A2, k2, hcs, rd1, rd2⟩ := st_cells e0
  have hcs' : cs = #[.slice A1 s.1.length k1, .slice A2 s.2.1.length k2, .int .i64 s.2.2] := by cases cs; simp only [Value.cells] at hcs; rw [hcs]
  subst hcs'
  obtain ⟨A3, k3, hc3, rd3⟩ := e1
  simp only [Value.cells, List.cons.injEq, and_true, Value.slice.injEq] at hc3
  obtain ⟨rfl, rfl, rfl⟩ := hc3
  have lt0 : ∀ x ∈ p0, x.block < W.heap.size := by obtain ⟨m, hm⟩ := h0; exact DataW.trod_lt m _ _ _ hm
  have lt1 : ∀ x ∈ p1, x.block < W.heap.size := by obtain ⟨m, hm⟩ := h1; exact DataW.trod_lt m _ _ _ hm
  clear hA0 hval0 hsz0 hsz
  refine (keeps_any ⟨s.1, s.2.1, s.2.2⟩ x1 AllF AllF AllF A1 A2 _ k1 k2 _ W rd1 rd2 rd3).mono fun e W' ⟨he, bel⟩ => ?_
  subst he
  exact ⟨_, rfl, _, _, _, [], _, [], hW', trodAll_mk1 (shut_bool Try.underlying4 _), (trodAll_cons_mk (Below.trod laidOut (by kernel_rfl) (of_decide_eq_true (by kernel_rfl)) h0 bel lt0) (trodAll_cons_mk (Below.trod laidOut (by kernel_rfl) (of_decide_eq_true (by kernel_rfl)) h1 bel lt1) trodAll_mk0)), rfl, bel.frame _, fun h => by cases h⟩
theorem over : Rows.hostKeepsRow.holds Try.pinned (OpenSpec.ofChange Rows.hostKeepsSpec) :=
  OpenClaim.holds_of_wide 3 Try.f3 rfl rfl rfl rfl rfl rfl rfl ⟨rfl, rfl, rfl, rfl, rfl⟩ rfl rfl rfl rfl rfl (by kernel_rfl) Try.func3 (by kernel_rfl)
    (of_decide_eq_true (by kernel_rfl)) (by unfold Func.isWrapper; first | (rw [if_pos (by decide +kernel)]; kernel_rfl) | (rw [if_neg (by decide +kernel)]; exact ⟨rfl, rfl⟩))
    (fun os started H enc _ => lifted os started H enc)
end hostKeeps
/-- The statement, proved. -/
theorem hostKeeps_holds : Rows.HostKeepsSaid := hostKeeps.over
#print axioms hostKeeps_holds
end Go.Proofs.Ytfmmbkggamojkaa
