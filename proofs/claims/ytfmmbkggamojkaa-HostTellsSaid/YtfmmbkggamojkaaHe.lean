/- Layer 3, the length of a state, and an act more. No condition but that the state reads and may be. -/
import Derived.Test.YtfmmbkggamojkaaHd
set_option linter.unusedVariables false
set_option linter.unusedSimpArgs false
namespace Go.Proofs.Ytfmmbkggamojkaa
open Go.RowKit

set_option maxHeartbeats 1000000 in
theorem size_any (s : St3) (S1 S2 : FP) (A1 A2 : Option Addr) (c1 c2 : Nat) (w : World) (h1 : Rd w S1 A1 c1 s.secs) (h2 : Rd w S2 A2 c2 s.waits) :
    Calls Try.prog 39 #[.agg #[.slice A1 s.secs.length c1, .slice A2 s.waits.length c2, .int .i64 s.cap]] w fun e w' => e = .returned (.int .i64 (size3 s)) ∧ Below w.heap.size w w' := by
  obtain ⟨secs, waits, cap⟩ := s
  dsimp only at h1 h2 ⊢
  have l1 := h1.len
  have l2 := h2.len
  have b0 : Below w.heap.size w (w.alloc (.cells #[.slice A1 secs.length c1, .slice A2 waits.length c2, .int .i64 cap] 30)) := below_alloc (Below.refl _ _) _
  go_enter Try.func39, Try.ntmps39
  go_wp2
  go_loopw [3, 5, 12] (fun n _ i wr => ∃ k : Nat, k ≤ waits.length ∧ i = .int .i64 k ∧ n = .int .i64 (len3 secs.length (waits.take k)) ∧ Below w.heap.size w wr) (fun _ _ i _ => waits.length - (intOf i).toNat)
  case atStart => exact ⟨0, Nat.zero_le _, rfl, rfl, b0⟩
  case round =>
    obtain ⟨k, hk, rfl, rfl, hb⟩ := hrel
    by_cases hlt : k < waits.length
    · obtain ⟨ad, A', c', rfl, hr, i1, i2, x0, x1, x2⟩ := acts_at (h2.below hb) k hlt
      have hn := len3_next secs.length waits k hlt
      by_cases hw : waits[k].what = 2
      · rw [if_pos hw] at hn
        have e1 : (waits[k].what == 2) = true := by rw [hw]; rfl
        have HN := Lib.hid hn
        clear hn hw
        go_wp2
        go_roundw
        case rel => exact ⟨k + 1, by omega, by go_num, by rw [HN.out], below_alloc hb _⟩
        case measure => simp [intOf]; omega
      · rw [if_neg hw] at hn
        have e1 : (waits[k].what == 2) = false := by simpa using hw
        have HN := Lib.hid hn
        clear hn hw
        go_wp2
        go_roundw
        case rel => exact ⟨k + 1, by omega, by go_num, by rw [HN.out], below_alloc hb _⟩
        case measure => simp [intOf]; omega
    · go_wp2
      go_ret
      rw [List.take_of_length_le (by omega)]
      exact ⟨rfl, hb⟩

end Go.Proofs.Ytfmmbkggamojkaa
