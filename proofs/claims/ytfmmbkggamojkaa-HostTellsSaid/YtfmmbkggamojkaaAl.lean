/- Are the program's host and the page's one: where they are, it says so. No condition but that both read. -/
import Derived.Test.YtfmmbkggamojkaaKf
set_option linter.unusedVariables false
set_option linter.unusedSimpArgs false
namespace Go.Proofs.Ytfmmbkggamojkaa
open Go.RowKit

theorem same_q {w : World} {S1 S2 : FP} {A1 A2 : Option Addr} {c1 c2 : Nat} {xs : List UInt8} (h1 : Rd w S1 A1 c1 xs) (h2 : Rd w S2 A2 c2 xs) (n : Nat) :
    Calls Try.prog 12 #[.slice A1 xs.length c1, .slice A2 xs.length c2] (w.drewN n) fun e w' => e = .returned (.bool true) ∧ w' = w.drewN n :=
  (same_bytes S1 S2 A1 A2 c1 c2 xs xs _ (h1.move (Kp.drewN _ _ _)) (h2.move (Kp.drewN _ _ _))).mono (by rintro e w' ⟨rfl, rfl⟩; exact ⟨by simp, rfl⟩)
theorem same_list_eq {w : World} {S1 S2 : FP} {A1 A2 : Option Addr} {c1 c2 : Nat} {xs : List (List UInt8)} (h1 : Rd w S1 A1 c1 xs) (h2 : Rd w S2 A2 c2 xs) :
    Calls Try.prog 45 #[.slice A1 xs.length c1, .slice A2 xs.length c2] w fun e w' => e = .returned (.bool true) ∧ ∃ n, w' = w.drewN n :=
  (same_list S1 S2 A1 A2 c1 c2 xs xs w h1 h2).mono (by rintro e w' ⟨rfl, h⟩; exact ⟨by simp, h⟩)
set_option maxRecDepth 100000 in
set_option maxHeartbeats 1000000 in
theorem alike_same (s : St3) (S1 S2 S3 S4 : FP) (A1 A2 A3 A4 : Option Addr) (c1 c2 c3 c4 : Nat) (w : World) (h1 : Rd w S1 A1 c1 s.secs) (h2 : Rd w S2 A2 c2 s.waits) (h3 : Rd w S3 A3 c3 s.secs) (h4 : Rd w S4 A4 c4 s.waits) :
    Calls Try.prog 20 #[.agg #[.slice A1 s.secs.length c1, .slice A2 s.waits.length c2, .int .i64 s.cap], .agg #[.slice A3 s.secs.length c3, .slice A4 s.waits.length c4, .int .i64 s.cap]] w fun e w' => e = .returned (.int .i64 0) ∧ Below w.heap.size w w' := by
  have l1 := h1.len
  have l2 := h2.len
  have b0 : Below w.heap.size w ((w.alloc (.cells #[.slice A1 s.secs.length c1, .slice A2 s.waits.length c2, .int .i64 s.cap] 30)).alloc (.cells #[.slice A3 s.secs.length c3, .slice A4 s.waits.length c4, .int .i64 s.cap] 25)) := below_alloc (below_alloc (Below.refl _ _) _) _
  have x0 := (Bx.new w [.slice A1 s.secs.length c1, .slice A2 s.waits.length c2, .int .i64 s.cap] 30).alloc (.cells #[.slice A3 s.secs.length c3, .slice A4 s.waits.length c4, .int .i64 s.cap] 25)
  have y0 := Bx.new (w.alloc (.cells #[.slice A1 s.secs.length c1, .slice A2 s.waits.length c2, .int .i64 s.cap] 30)) [.slice A3 s.secs.length c3, .slice A4 s.waits.length c4, .int .i64 s.cap] 25
  simp only [World.size_alloc] at y0
  go_enter Try.func20, Try.ntmps20
  go_wp2_with (go_at_call 45; refine (same_list_eq (h1.below b0) (h3.below b0)).mono ?_; rintro e w' ⟨rfl, nn, rfl⟩; have x1 := x0.drewN nn; have y1 := y0.drewN nn; have b1 := below_drewN b0 nn; have kx := x1.three; have ky := y1.three)
  go_loopw [5] (fun i wr => ∃ k : Nat, k ≤ s.waits.length ∧ i = .int .i64 k ∧ Bx wr w.heap.size [.slice A1 s.secs.length c1, .slice A2 s.waits.length c2, .int .i64 s.cap] 30 ∧ Bx wr (w.heap.size + 1) [.slice A3 s.secs.length c3, .slice A4 s.waits.length c4, .int .i64 s.cap] 25 ∧ Below w.heap.size w wr) (fun i _ => s.waits.length - (intOf i).toNat)
  case atStart => exact ⟨0, Nat.zero_le _, rfl, x1, y1, b1⟩
  case round =>
    clear x0 y0 b0 x1 y1 b1 kx ky
    obtain ⟨k, hk, rfl, x, y, b⟩ := hrel
    have kx := x.three
    have ky := y.three
    by_cases hlt : k < s.waits.length
    · obtain ⟨ad, A', c', rfl, hr, i1, i2, q0, q1, q2⟩ := acts_at (h2.below b) k hlt
      obtain ⟨ad2, A'', c'', rfl, hr2, _, _, p0, p1, p2⟩ := acts_at (h4.below b) k hlt
      have cq := same_q hr hr2
      have CQ := Lib.hid cq
      clear cq
      go_wp2
      go_quiet ((go_at_call 12; exact Calls.quiet_of_same (CQ.out _)))
      go_wp2
      go_roundw
      case rel => exact ⟨k + 1, by omega, by go_num, x.drewN _, y.drewN _, below_drewN b _⟩
      case measure => simp [intOf]; omega
    · go_wp2
      go_ret
      exact ⟨rfl, b⟩
end Go.Proofs.Ytfmmbkggamojkaa
