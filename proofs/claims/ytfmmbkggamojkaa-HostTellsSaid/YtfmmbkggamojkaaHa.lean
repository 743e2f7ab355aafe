/- Layer 3, the library's clones: each hands back a copy in memory of the call's own. No condition but that the slice reads. -/
import Derived.Test.YtfmmbkggamojkaaP3
import Derived.Test.YtfmmbkggamojkaaProg
import Derived.Lib.SliceRun
import Derived.Deep.DeepMust
import Derived.Outline
set_option linter.unusedVariables false
set_option linter.unusedSimpArgs false
namespace Go.Proofs.Ytfmmbkggamojkaa
open Go.RowKit

theorem info5 : (Try.prog.info? 5).map (fun i => (i.zero, i.size, i.bytes)) = some (some (.int .u8 0), 1, 1) := by kernel_rfl
theorem info36 : (Try.prog.info? 36).map (fun i => (i.zero, i.size, i.bytes)) = some (some (.slice none 0 0), 1, 24) := by kernel_rfl
theorem info49 : (Try.prog.info? 49).map (fun i => (i.zero, i.size, i.bytes)) = some (some (.agg #[.int .i64 0, .int .i64 0, .slice none 0 0]), 3, 40) := by kernel_rfl

set_option maxHeartbeats 400000 in
theorem clone_bytes (S : FP) (A : Option Addr) (c : Nat) (xs : List UInt8) (w : World) (h : Rd w S A c xs) :
    Calls Try.prog 41 #[.slice A xs.length c] w fun e w' => ∃ v, e = .returned v ∧ Below w.heap.size w w' ∧ (∀ g, v.ownBlock = some g → w.heap.size ≤ g) ∧ Ow w' 5 (fun b t => w.heap.size ≤ b ∧ t = (5, 0, 0)) v xs := by
  have hu := Try.underlying36
  have heq := fun (w : World) => Lib.run_eql_slice_nil (P := Try.prog) w 36 5 A xs.length c 0 0 Try.underlying36
  rcases A with _ | ad
  · have := nil_of_none h
    subst this
    clear h
    simp only [List.length_nil] at heq ⊢
    go_enter Try.func41, Try.ntmps41
    go_wp2_with fail
    go_ret
    exact ⟨_, rfl, Below.refl _ _, by simp [Value.ownBlock], .nil_⟩
  · have hd := h.old.alloc (.cells #[] 5)
    have ho := Ow.lit0 (α := UInt8) w 5 (fun b t => w.heap.size ≤ b ∧ t = (5, 0, 0)) ⟨Nat.le_refl _, rfl⟩
    go_enter Try.func41, Try.ntmps41
    go_wp2_with (at_builtin; refine wl_app (v := .slice (some ⟨w.heap.size, 0, none⟩) 0 0) rfl (.tmp 5) (.tmp 6) _ _ rfl hu info5 rfl _ _ rfl rfl ho hd (ap_lt fun _ _ h => h.2) (by simpa using h.room) ?_; intro v' w' hg hat hn)
    go_ret
    have k := clone_end hg hat hn
    exact ⟨v', rfl, k.1, k.2.1, k.2.2.flat fun g hg => ⟨k.2.1 g hg, rfl⟩⟩
set_option maxHeartbeats 400000 in
theorem clone_list (S : FP) (A : Option Addr) (c : Nat) (xs : List (List UInt8)) (w : World) (h : Rd w S A c xs) :
    Calls Try.prog 47 #[.slice A xs.length c] w fun e w' => ∃ v, e = .returned v ∧ Below w.heap.size w w' ∧ (∀ g, v.ownBlock = some g → w.heap.size ≤ g) ∧ Ow w' 36 (fun b t => (S b t ∧ b < w.heap.size) ∨ (w.heap.size ≤ b ∧ t = (36, 0, 0))) v xs := by
  have hu := Try.underlying22
  have heq := fun (w : World) => Lib.run_eql_slice_nil (P := Try.prog) w 22 36 A xs.length c 0 0 Try.underlying22
  rcases A with _ | ad
  · have := nil_of_none h
    subst this
    clear h
    simp only [List.length_nil] at heq ⊢
    go_enter Try.func47, Try.ntmps47
    go_wp2_with fail
    go_ret
    exact ⟨_, rfl, Below.refl _ _, by simp [Value.ownBlock], .nil_⟩
  · have hd := h.old.alloc (.cells #[] 36)
    have ho := Ow.lit0 (α := (List UInt8)) w 36 (fun b t => w.heap.size ≤ b ∧ t = (36, 0, 0)) ⟨Nat.le_refl _, rfl⟩
    go_enter Try.func47, Try.ntmps47
    go_wp2_with (at_builtin; refine wl_app (v := .slice (some ⟨w.heap.size, 0, none⟩) 0 0) rfl (.tmp 5) (.tmp 6) _ _ rfl hu info36 rfl _ _ rfl rfl ho hd (ap_lt fun _ _ h => h.2) (by simpa using h.room) ?_; intro v' w' hg hat hn)
    go_ret
    have k := clone_end hg hat hn
    exact ⟨v', rfl, k.1, k.2.1, k.2.2⟩
set_option maxHeartbeats 400000 in
theorem clone_acts (S : FP) (A : Option Addr) (c : Nat) (xs : List Act3) (w : World) (h : Rd w S A c xs) :
    Calls Try.prog 48 #[.slice A xs.length c] w fun e w' => ∃ v, e = .returned v ∧ Below w.heap.size w w' ∧ (∀ g, v.ownBlock = some g → w.heap.size ≤ g) ∧ Ow w' 49 (fun b t => (S b t ∧ b < w.heap.size) ∨ (w.heap.size ≤ b ∧ t = (49, 0, 0))) v xs := by
  have hu := Try.underlying28
  have heq := fun (w : World) => Lib.run_eql_slice_nil (P := Try.prog) w 28 49 A xs.length c 0 0 Try.underlying28
  rcases A with _ | ad
  · have := nil_of_none h
    subst this
    clear h
    simp only [List.length_nil] at heq ⊢
    go_enter Try.func48, Try.ntmps48
    go_wp2_with fail
    go_ret
    exact ⟨_, rfl, Below.refl _ _, by simp [Value.ownBlock], .nil_⟩
  · have hd := h.old.alloc (.cells #[] 49)
    have ho := Ow.lit0 (α := Act3) w 49 (fun b t => w.heap.size ≤ b ∧ t = (49, 0, 0)) ⟨Nat.le_refl _, rfl⟩
    go_enter Try.func48, Try.ntmps48
    go_wp2_with (at_builtin; refine wl_app (v := .slice (some ⟨w.heap.size, 0, none⟩) 0 0) rfl (.tmp 5) (.tmp 6) _ _ rfl hu info49 rfl _ _ rfl rfl ho hd (ap_lt fun _ _ h => h.2) (by simpa using h.room) ?_; intro v' w' hg hat hn)
    go_ret
    have k := clone_end hg hat hn
    exact ⟨v', rfl, k.1, k.2.1, k.2.2⟩
end Go.Proofs.Ytfmmbkggamojkaa
