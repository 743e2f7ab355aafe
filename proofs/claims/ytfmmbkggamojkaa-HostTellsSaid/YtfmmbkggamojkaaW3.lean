/- HostLengths: the walk. No condition but that the arguments read. -/
import Derived.Test.YtfmmbkggamojkaaW2
import Derived.Test.YtfmmbkggamojkaaP5
set_option linter.unusedVariables false
set_option linter.unusedSimpArgs false
namespace Go.Proofs.Ytfmmbkggamojkaa
open Go.RowKit

section
variable {S1 S2 S3 : FP} {A1 A2 A3 : Option Addr} {c1 c2 c3 : Nat} {w : World} {s r : St3} {err : Int}
theorem resize_to {n : Int} (hr : resizeR s n = (r, err)) (hn : InK .i64 n) (h1 : Rd w S1 A1 c1 s.secs) (h2 : Rd w S2 A2 c2 s.waits) :
    Calls Try.prog 22 #[.agg #[.slice A1 s.secs.length c1, .slice A2 s.waits.length c2, .int .i64 s.cap], .int .i64 n] w (RetSt r err w) := by
  have h := resize_any s n hn S1 S2 A1 A2 c1 c2 w h1 h2
  rw [hr] at h
  exact h
theorem length_to {n : Int} (hr : (if ok3 s then size3 s else 0) = n) (he : err3 (ok3 s) = err) (h1 : Rd w S1 A1 c1 s.secs) (h2 : Rd w S2 A2 c2 s.waits) :
    Calls Try.prog 27 #[.agg #[.slice A1 s.secs.length c1, .slice A2 s.waits.length c2, .int .i64 s.cap]] w fun e w' => e = .returned (.tuple #[.int .i64 n, .int .i64 err]) ∧ Below w.heap.size w w' := by
  subst hr
  subst he
  exact length_any s S1 S2 A1 A2 c1 c2 w h1 h2
theorem read_to {at_ : Int} {xs : List UInt8} (hr : readR s at_ = (xs, err)) (ha : InK .i64 at_) (h1 : Rd w S1 A1 c1 s.secs) (h2 : Rd w S2 A2 c2 s.waits) :
    Calls Try.prog 25 #[.agg #[.slice A1 s.secs.length c1, .slice A2 s.waits.length c2, .int .i64 s.cap], .int .i64 at_] w (ReadEnd (xs, err) w) := by
  have h := read_any s at_ ha S1 S2 A1 A2 c1 c2 w h1 h2
  rw [hr] at h
  exact h
end
section
variable {s A B : St3} {n at_ : Int} {S1 S2 : FP} {A1 A2 : Option Addr} {c1 c2 : Nat} {w : World} {ee old : Int}
set_option maxHeartbeats 1000000 in
theorem lengths_bad (HA : Hid (resizeR s n = (A, ee))) (t1 : (ee != 0) = true) (hz1 : A.secs = []) (hz2 : A.waits = []) (hn : InK .i64 n) (h1 : Rd w S1 A1 c1 s.secs) (h2 : Rd w S2 A2 c2 s.waits) :
    Calls Try.prog 7 #[.agg #[.slice A1 s.secs.length c1, .slice A2 s.waits.length c2, .int .i64 s.cap], .int .i64 n, .int .i64 at_] w fun e w' => e = .returned (.bool true) ∧ Below w.heap.size w w' := by
  have l1 := h1.len
  have l2 := h2.len
  have b0 : Below w.heap.size w (w.alloc (.cells #[.slice A1 s.secs.length c1, .slice A2 s.waits.length c2, .int .i64 s.cap] 25)) := below_alloc (Below.refl _ _) _
  have x0 := Bx.new w [.slice A1 s.secs.length c1, .slice A2 s.waits.length c2, .int .i64 s.cap] 25
  have t2 : ((A.secs.length : Int) == 0) = true := by rw [hz1]; rfl
  have t3 : ((A.waits.length : Int) == 0) = true := by rw [hz2]; rfl
  clear hz1 hz2
  go_enter Try.func7, Try.ntmps7
  go_wp2_with (first
      | (go_at_call 8; refine (alive_any _).mono ?_; rintro e w1 ⟨rfl, b1⟩; have x1 := x0.keep b1; have k1 := x1.three; have d1 := below_then b0 b1)
      | (go_at_call 10; ((with_reducible refine (of_any s S1 S2 A1 A2 c1 c2 w1 (h1.below d1) (h2.below d1)).mono ?_); rintro e w2 ⟨A5, c5, A6, c6, rfl, b2, o1, o2⟩; have d2 := below_then d1 b2; have x2 := x1.keep b2))
      | (go_at_call 22; refine (resize_to HA.out hn o1.rdS o2.rdS).mono ?_; rintro e w3 ⟨B1, f1, B2, f2, rfl, b3, o3, o4⟩; have d3 := below_alloc (below_then d2 b3) (.cells #[.slice B1 A.secs.length f1, .slice B2 A.waits.length f2, .int .i64 A.cap] 30); have x3 := (x2.keep b3).alloc (.cells #[.slice B1 A.secs.length f1, .slice B2 A.waits.length f2, .int .i64 A.cap] 30); have j3 := x3.three; have y3 := Bx.new w3 [.slice B1 A.secs.length f1, .slice B2 A.waits.length f2, .int .i64 A.cap] 30; have k3 := y3.three; have r3 := o3.rdS.move (Kp.alloc w3 (.cells #[.slice B1 A.secs.length f1, .slice B2 A.waits.length f2, .int .i64 A.cap] 30) _); have r4 := o4.rdS.move (Kp.alloc w3 (.cells #[.slice B1 A.secs.length f1, .slice B2 A.waits.length f2, .int .i64 A.cap] 30) _))
      | (go_at_call 11; refine (num_any _ _).mono ?_; rintro e w' ⟨rfl, rfl⟩)
  )
  go_ret
  exact ⟨rfl, d3⟩
set_option maxHeartbeats 2000000 in
theorem lengths_out {xs : List UInt8} (HA : Hid (resizeR s n = (A, 0))) (HOLD : Hid ((if ok3 s then size3 s else 0) = old)) (HE : Hid (err3 (ok3 s) = 0)) (HM : Hid ((if ok3 A then size3 A else 0) = n)) (HEA : Hid (err3 (ok3 A) = 0)) (HB : Hid (flushR A = B)) (t1 : ((B.secs.length : Int) != n) = false)
    (HR : Hid (readR A at_ = (xs, 4))) (t2 : at_ < 0 ∨ n ≤ at_) (hn : InK .i64 n) (ha : InK .i64 at_) (h1 : Rd w S1 A1 c1 s.secs) (h2 : Rd w S2 A2 c2 s.waits) :
    Calls Try.prog 7 #[.agg #[.slice A1 s.secs.length c1, .slice A2 s.waits.length c2, .int .i64 s.cap], .int .i64 n, .int .i64 at_] w fun e w' => e = .returned (.bool true) ∧ Below w.heap.size w w' := by
  have l1 := h1.len
  have l2 := h2.len
  have b0 : Below w.heap.size w (w.alloc (.cells #[.slice A1 s.secs.length c1, .slice A2 s.waits.length c2, .int .i64 s.cap] 25)) := below_alloc (Below.refl _ _) _
  have x0 := Bx.new w [.slice A1 s.secs.length c1, .slice A2 s.waits.length c2, .int .i64 s.cap] 25
  have t0 : (n != n) = false := by simp
  by_cases t3 : at_ < 0
  all_goals
    first | (have t4 : n ≤ at_ := (by omega)) | skip
    clear t2
    go_enter Try.func7, Try.ntmps7
    go_wp2_with (first
        | (go_at_call 8; refine (alive_any _).mono ?_; rintro e w1 ⟨rfl, b1⟩; have x1 := x0.keep b1; have k1 := x1.three; have d1 := below_then b0 b1)
        | (go_at_call 10; ((with_reducible refine (of_any s S1 S2 A1 A2 c1 c2 w1 (h1.below d1) (h2.below d1)).mono ?_); rintro e w2 ⟨A5, c5, A6, c6, rfl, b2, o1, o2⟩; have d2 := below_then d1 b2; have x2 := x1.keep b2))
        | (go_at_call 22; refine (resize_to HA.out hn o1.rdS o2.rdS).mono ?_; rintro e w3 ⟨B1, f1, B2, f2, rfl, b3, o3, o4⟩; have d3 := below_alloc (below_then d2 b3) (.cells #[.slice B1 A.secs.length f1, .slice B2 A.waits.length f2, .int .i64 A.cap] 30); have x3 := (x2.keep b3).alloc (.cells #[.slice B1 A.secs.length f1, .slice B2 A.waits.length f2, .int .i64 A.cap] 30); have j3 := x3.three; have y3 := Bx.new w3 [.slice B1 A.secs.length f1, .slice B2 A.waits.length f2, .int .i64 A.cap] 30; have k3 := y3.three; have r3 := o3.rdS.move (Kp.alloc w3 (.cells #[.slice B1 A.secs.length f1, .slice B2 A.waits.length f2, .int .i64 A.cap] 30) _); have r4 := o4.rdS.move (Kp.alloc w3 (.cells #[.slice B1 A.secs.length f1, .slice B2 A.waits.length f2, .int .i64 A.cap] 30) _))
        | (go_at_call 11; refine (num_any _ _).mono ?_; rintro e w' ⟨rfl, rfl⟩)
        | (go_at_call 10; ((with_reducible refine (of_any s S1 S2 A1 A2 c1 c2 _ (h1.below d3) (h2.below d3)).mono ?_); rintro e w4 ⟨A7, c7, A8, c8, rfl, b4, o5, o6⟩; have d4 := below_then d3 b4; have x4 := x3.keep b4; have y4 := y3.keep b4; have k4 := y4.three; have r3 := r3.below b4; have r4 := r4.below b4))
        | (go_at_call 27; ((with_reducible refine (length_to HOLD.out HE.out o5.rdS o6.rdS).mono ?_); rintro e w5 ⟨rfl, b5⟩; have d5 := below_then d4 b5; have x5 := x4.keep b5; have y5 := y4.keep b5; have k5 := y5.three; have r3 := r3.below b5; have r4 := r4.below b5))
        | (go_at_call 27; ((with_reducible refine (length_to HM.out HEA.out r3 r4).mono ?_); rintro e w6 ⟨rfl, b6⟩; have d6 := below_then d5 b6; have x6 := x5.keep b6; have y6 := y5.keep b6; have k6 := y6.three; have r3 := r3.below b6; have r4 := r4.below b6))
        | (go_at_call 21; refine (flush_to HB.out HEA.out r3 r4).mono ?_; rintro e w7 ⟨B3, f3, B4, f4, rfl, b7, o7, o8⟩; have d7 := below_alloc (below_then d6 b7) (.cells #[.slice B3 B.secs.length f3, .slice B4 B.waits.length f4, .int .i64 B.cap] 30); have x7 := (x6.keep b7).alloc (.cells #[.slice B3 B.secs.length f3, .slice B4 B.waits.length f4, .int .i64 B.cap] 30); have j7 := x7.three; have y7 := (y6.keep b7).alloc (.cells #[.slice B3 B.secs.length f3, .slice B4 B.waits.length f4, .int .i64 B.cap] 30); have k7 := y7.three; have z7 := Bx.new w7 [.slice B3 B.secs.length f3, .slice B4 B.waits.length f4, .int .i64 B.cap] 30; have m7 := z7.three; have r3 := (r3.below b7).move (Kp.alloc w7 (.cells #[.slice B3 B.secs.length f3, .slice B4 B.waits.length f4, .int .i64 B.cap] 30) _); have r4 := (r4.below b7).move (Kp.alloc w7 (.cells #[.slice B3 B.secs.length f3, .slice B4 B.waits.length f4, .int .i64 B.cap] 30) _); have r7 := o7.rdS.move (Kp.alloc w7 (.cells #[.slice B3 B.secs.length f3, .slice B4 B.waits.length f4, .int .i64 B.cap] 30) _))
        | (go_at_call 25; ((with_reducible refine (read_to HR.out ha r3 r4).mono ?_); rintro e w8 ⟨v8, rfl, b8, ov⟩; obtain ⟨B5, f5, rfl, r8⟩ := ov.rd; have d8 := below_then d7 b8; have x8 := x7.keep b8; have j8 := x8.three; have z8 := z7.keep b8; have m8 := z8.three; have r7 := r7.below b8))
    )
    go_ret
    exact ⟨rfl, d8⟩
set_option maxHeartbeats 2000000 in
theorem lengths_new {k : Nat} {xs : List UInt8} (HA : Hid (resizeR s n = (A, 0))) (HOLD : Hid ((if ok3 s then size3 s else 0) = old)) (HE : Hid (err3 (ok3 s) = 0)) (HM : Hid ((if ok3 A then size3 A else 0) = n)) (HEA : Hid (err3 (ok3 A) = 0)) (HB : Hid (flushR A = B)) (t1 : ((B.secs.length : Int) != n) = false)
    (HR : Hid (readR A k = (xs, 0))) (t2 : (k : Int) < n) (t3 : old ≤ k) (hk : k < B.secs.length) (HS1 : Hid ((xs == zero3) = true)) (HS2 : Hid ((B.secs[k] == zero3) = true)) (hn : InK .i64 n) (ha : InK .i64 (k : Int)) (h1 : Rd w S1 A1 c1 s.secs) (h2 : Rd w S2 A2 c2 s.waits) :
    Calls Try.prog 7 #[.agg #[.slice A1 s.secs.length c1, .slice A2 s.waits.length c2, .int .i64 s.cap], .int .i64 n, .int .i64 k] w fun e w' => e = .returned (.bool true) ∧ Below w.heap.size w w' := by
  have l1 := h1.len
  have l2 := h2.len
  have b0 : Below w.heap.size w (w.alloc (.cells #[.slice A1 s.secs.length c1, .slice A2 s.waits.length c2, .int .i64 s.cap] 25)) := below_alloc (Below.refl _ _) _
  have x0 := Bx.new w [.slice A1 s.secs.length c1, .slice A2 s.waits.length c2, .int .i64 s.cap] 25
  have t0 : (n != n) = false := by simp
  have hmk : ∀ W : World, (Instr.makeSlice 36 (.int .i64 64) (.int .i64 64)).run Try.prog W = .ok (.slice (some ⟨W.heap.size, 0, none⟩) 64 64) (W.alloc (.cells (madeCells #[.int .u8 0] 64) 5)) := fun W => run_make_row' (P := Try.prog) 36 5 (.int .u8 0) 1 Try.underlying36 info5 rfl .i64 .i64 64 (by decide) (by decide) W
  go_enter Try.func7, Try.ntmps7
  go_wp2_with (first
      | (go_at_call 8; refine (alive_any _).mono ?_; rintro e w1 ⟨rfl, b1⟩; have x1 := x0.keep b1; have k1 := x1.three; have d1 := below_then b0 b1)
      | (go_at_call 10; ((with_reducible refine (of_any s S1 S2 A1 A2 c1 c2 w1 (h1.below d1) (h2.below d1)).mono ?_); rintro e w2 ⟨A5, c5, A6, c6, rfl, b2, o1, o2⟩; have d2 := below_then d1 b2; have x2 := x1.keep b2))
      | (go_at_call 22; refine (resize_to HA.out hn o1.rdS o2.rdS).mono ?_; rintro e w3 ⟨B1, f1, B2, f2, rfl, b3, o3, o4⟩; have d3 := below_alloc (below_then d2 b3) (.cells #[.slice B1 A.secs.length f1, .slice B2 A.waits.length f2, .int .i64 A.cap] 30); have x3 := (x2.keep b3).alloc (.cells #[.slice B1 A.secs.length f1, .slice B2 A.waits.length f2, .int .i64 A.cap] 30); have j3 := x3.three; have y3 := Bx.new w3 [.slice B1 A.secs.length f1, .slice B2 A.waits.length f2, .int .i64 A.cap] 30; have k3 := y3.three; have r3 := o3.rdS.move (Kp.alloc w3 (.cells #[.slice B1 A.secs.length f1, .slice B2 A.waits.length f2, .int .i64 A.cap] 30) _); have r4 := o4.rdS.move (Kp.alloc w3 (.cells #[.slice B1 A.secs.length f1, .slice B2 A.waits.length f2, .int .i64 A.cap] 30) _))
      | (go_at_call 11; refine (num_any _ _).mono ?_; rintro e w' ⟨rfl, rfl⟩)
      | (go_at_call 10; ((with_reducible refine (of_any s S1 S2 A1 A2 c1 c2 _ (h1.below d3) (h2.below d3)).mono ?_); rintro e w4 ⟨A7, c7, A8, c8, rfl, b4, o5, o6⟩; have d4 := below_then d3 b4; have x4 := x3.keep b4; have y4 := y3.keep b4; have k4 := y4.three; have r3 := r3.below b4; have r4 := r4.below b4))
      | (go_at_call 27; ((with_reducible refine (length_to HOLD.out HE.out o5.rdS o6.rdS).mono ?_); rintro e w5 ⟨rfl, b5⟩; have d5 := below_then d4 b5; have x5 := x4.keep b5; have y5 := y4.keep b5; have k5 := y5.three; have r3 := r3.below b5; have r4 := r4.below b5))
      | (go_at_call 27; ((with_reducible refine (length_to HM.out HEA.out r3 r4).mono ?_); rintro e w6 ⟨rfl, b6⟩; have d6 := below_then d5 b6; have x6 := x5.keep b6; have y6 := y5.keep b6; have k6 := y6.three; have r3 := r3.below b6; have r4 := r4.below b6))
      | (go_at_call 21; refine (flush_to HB.out HEA.out r3 r4).mono ?_; rintro e w7 ⟨B3, f3, B4, f4, rfl, b7, o7, o8⟩; have d7 := below_alloc (below_then d6 b7) (.cells #[.slice B3 B.secs.length f3, .slice B4 B.waits.length f4, .int .i64 B.cap] 30); have x7 := (x6.keep b7).alloc (.cells #[.slice B3 B.secs.length f3, .slice B4 B.waits.length f4, .int .i64 B.cap] 30); have j7 := x7.three; have y7 := (y6.keep b7).alloc (.cells #[.slice B3 B.secs.length f3, .slice B4 B.waits.length f4, .int .i64 B.cap] 30); have k7 := y7.three; have z7 := Bx.new w7 [.slice B3 B.secs.length f3, .slice B4 B.waits.length f4, .int .i64 B.cap] 30; have m7 := z7.three; have r3 := (r3.below b7).move (Kp.alloc w7 (.cells #[.slice B3 B.secs.length f3, .slice B4 B.waits.length f4, .int .i64 B.cap] 30) _); have r4 := (r4.below b7).move (Kp.alloc w7 (.cells #[.slice B3 B.secs.length f3, .slice B4 B.waits.length f4, .int .i64 B.cap] 30) _); have r7 := o7.rdS.move (Kp.alloc w7 (.cells #[.slice B3 B.secs.length f3, .slice B4 B.waits.length f4, .int .i64 B.cap] 30) _))
      | (go_at_call 25; ((with_reducible refine (read_to HR.out ha r3 r4).mono ?_); rintro e w8 ⟨v8, rfl, b8, ov⟩; obtain ⟨B5, f5, rfl, r8⟩ := ov.rd; have ba := below_alloc (Below.refl w8.heap.size w8) (.cells (madeCells #[.int .u8 0] 64) 5); have d8 := below_then (below_then d7 b8) ba; have x8 := (x7.keep b8).keep ba; have j8 := x8.three; have z8 := (z7.keep b8).keep ba; have m8 := z8.three; have r7 := (r7.below b8).below ba; have r8 := r8.below ba; have mz := (Bx.made w8 5).rd (n := 64) (by simp [zero3]) (by decide); obtain ⟨ad, v, rfl, hc, A', c', hv, hr⟩ := r7.at1 rfl k hk; simp only [List.cons.injEq, and_true] at hv; subst hv; clear k1 j3 k3 k4 k5 k6 j7 k7 m7))
      | (go_at_call 12; ((with_reducible refine (same_zero _ B5 ⟨w8.heap.size, 0, none⟩ f5 xs _ r8 mz).mono ?_); rintro e w' ⟨rfl, rfl⟩; rw [HS1.out]))
      | (go_at_call 12; ((with_reducible refine (same_zero _ A' ⟨w8.heap.size, 0, none⟩ c' B.secs[k] _ hr mz).mono ?_); rintro e w' ⟨rfl, rfl⟩; rw [HS2.out]))
  )
  go_ret
  exact ⟨rfl, d8⟩
set_option maxHeartbeats 2000000 in
theorem lengths_old {k : Nat} {xs ws : List UInt8} (HA : Hid (resizeR s n = (A, 0))) (HOLD : Hid ((if ok3 s then size3 s else 0) = old)) (HE : Hid (err3 (ok3 s) = 0)) (HM : Hid ((if ok3 A then size3 A else 0) = n)) (HEA : Hid (err3 (ok3 A) = 0)) (HB : Hid (flushR A = B)) (t1 : ((B.secs.length : Int) != n) = false)
    (HR : Hid (readR A k = (xs, 0))) (HR2 : Hid (readR s k = (ws, 0))) (t2 : (k : Int) < n) (t3 : (k : Int) < old) (hk : k < B.secs.length) (HS1 : Hid ((xs == ws) = true)) (HS2 : Hid ((B.secs[k] == ws) = true)) (hn : InK .i64 n) (ha : InK .i64 (k : Int)) (h1 : Rd w S1 A1 c1 s.secs) (h2 : Rd w S2 A2 c2 s.waits) :
    Calls Try.prog 7 #[.agg #[.slice A1 s.secs.length c1, .slice A2 s.waits.length c2, .int .i64 s.cap], .int .i64 n, .int .i64 k] w fun e w' => e = .returned (.bool true) ∧ Below w.heap.size w w' := by
  have l1 := h1.len
  have l2 := h2.len
  have b0 : Below w.heap.size w (w.alloc (.cells #[.slice A1 s.secs.length c1, .slice A2 s.waits.length c2, .int .i64 s.cap] 25)) := below_alloc (Below.refl _ _) _
  have x0 := Bx.new w [.slice A1 s.secs.length c1, .slice A2 s.waits.length c2, .int .i64 s.cap] 25
  have t0 : (n != n) = false := by simp
  have hmk : ∀ W : World, (Instr.makeSlice 36 (.int .i64 64) (.int .i64 64)).run Try.prog W = .ok (.slice (some ⟨W.heap.size, 0, none⟩) 64 64) (W.alloc (.cells (madeCells #[.int .u8 0] 64) 5)) := fun W => run_make_row' (P := Try.prog) 36 5 (.int .u8 0) 1 Try.underlying36 info5 rfl .i64 .i64 64 (by decide) (by decide) W
  go_enter Try.func7, Try.ntmps7
  go_wp2_with (first
      | (go_at_call 8; refine (alive_any _).mono ?_; rintro e w1 ⟨rfl, b1⟩; have x1 := x0.keep b1; have k1 := x1.three; have d1 := below_then b0 b1)
      | (go_at_call 10; ((with_reducible refine (of_any s S1 S2 A1 A2 c1 c2 w1 (h1.below d1) (h2.below d1)).mono ?_); rintro e w2 ⟨A5, c5, A6, c6, rfl, b2, o1, o2⟩; have d2 := below_then d1 b2; have x2 := x1.keep b2))
      | (go_at_call 22; refine (resize_to HA.out hn o1.rdS o2.rdS).mono ?_; rintro e w3 ⟨B1, f1, B2, f2, rfl, b3, o3, o4⟩; have d3 := below_alloc (below_then d2 b3) (.cells #[.slice B1 A.secs.length f1, .slice B2 A.waits.length f2, .int .i64 A.cap] 30); have x3 := (x2.keep b3).alloc (.cells #[.slice B1 A.secs.length f1, .slice B2 A.waits.length f2, .int .i64 A.cap] 30); have j3 := x3.three; have y3 := Bx.new w3 [.slice B1 A.secs.length f1, .slice B2 A.waits.length f2, .int .i64 A.cap] 30; have k3 := y3.three; have r3 := o3.rdS.move (Kp.alloc w3 (.cells #[.slice B1 A.secs.length f1, .slice B2 A.waits.length f2, .int .i64 A.cap] 30) _); have r4 := o4.rdS.move (Kp.alloc w3 (.cells #[.slice B1 A.secs.length f1, .slice B2 A.waits.length f2, .int .i64 A.cap] 30) _))
      | (go_at_call 11; refine (num_any _ _).mono ?_; rintro e w' ⟨rfl, rfl⟩)
      | (go_at_call 10; ((with_reducible refine (of_any s S1 S2 A1 A2 c1 c2 _ (h1.below d3) (h2.below d3)).mono ?_); rintro e w4 ⟨A7, c7, A8, c8, rfl, b4, o5, o6⟩; have d4 := below_then d3 b4; have x4 := x3.keep b4; have y4 := y3.keep b4; have k4 := y4.three; have r3 := r3.below b4; have r4 := r4.below b4))
      | (go_at_call 27; ((with_reducible refine (length_to HOLD.out HE.out o5.rdS o6.rdS).mono ?_); rintro e w5 ⟨rfl, b5⟩; have d5 := below_then d4 b5; have x5 := x4.keep b5; have y5 := y4.keep b5; have k5 := y5.three; have r3 := r3.below b5; have r4 := r4.below b5))
      | (go_at_call 27; ((with_reducible refine (length_to HM.out HEA.out r3 r4).mono ?_); rintro e w6 ⟨rfl, b6⟩; have d6 := below_then d5 b6; have x6 := x5.keep b6; have y6 := y5.keep b6; have k6 := y6.three; have r3 := r3.below b6; have r4 := r4.below b6))
      | (go_at_call 21; refine (flush_to HB.out HEA.out r3 r4).mono ?_; rintro e w7 ⟨B3, f3, B4, f4, rfl, b7, o7, o8⟩; have d7 := below_alloc (below_then d6 b7) (.cells #[.slice B3 B.secs.length f3, .slice B4 B.waits.length f4, .int .i64 B.cap] 30); have x7 := (x6.keep b7).alloc (.cells #[.slice B3 B.secs.length f3, .slice B4 B.waits.length f4, .int .i64 B.cap] 30); have j7 := x7.three; have y7 := (y6.keep b7).alloc (.cells #[.slice B3 B.secs.length f3, .slice B4 B.waits.length f4, .int .i64 B.cap] 30); have k7 := y7.three; have z7 := Bx.new w7 [.slice B3 B.secs.length f3, .slice B4 B.waits.length f4, .int .i64 B.cap] 30; have m7 := z7.three; have r3 := (r3.below b7).move (Kp.alloc w7 (.cells #[.slice B3 B.secs.length f3, .slice B4 B.waits.length f4, .int .i64 B.cap] 30) _); have r4 := (r4.below b7).move (Kp.alloc w7 (.cells #[.slice B3 B.secs.length f3, .slice B4 B.waits.length f4, .int .i64 B.cap] 30) _); have r7 := o7.rdS.move (Kp.alloc w7 (.cells #[.slice B3 B.secs.length f3, .slice B4 B.waits.length f4, .int .i64 B.cap] 30) _))
      | (go_at_call 25; ((with_reducible refine (read_to HR.out ha r3 r4).mono ?_); rintro e w8 ⟨v8, rfl, b8, ov⟩; obtain ⟨B5, f5, rfl, r8⟩ := ov.rd; have ba := below_alloc (Below.refl w8.heap.size w8) (.cells (madeCells #[.int .u8 0] 64) 5); have d8 := below_then (below_then d7 b8) ba; have x8 := (x7.keep b8).keep ba; have j8 := x8.three; have z8 := (z7.keep b8).keep ba; have r7 := (r7.below b8).below ba; have r8 := r8.below ba; clear k1 j3 k3 k4 k5 k6 j7 k7 m7))
      | (go_at_call 10; ((with_reducible refine (of_any s S1 S2 A1 A2 c1 c2 _ (h1.below d8) (h2.below d8)).mono ?_); rintro e w9 ⟨A9, c9, A10, c10, rfl, b9, o9, o10⟩; have d9 := below_then d8 b9; have z9 := z8.keep b9; have r7 := r7.below b9; have r8 := r8.below b9; clear j8))
      | (go_at_call 25; ((with_reducible refine (read_to HR2.out ha o9.rdS o10.rdS).mono ?_); rintro e w10 ⟨v10, rfl, b10, ov2⟩; obtain ⟨B7, f7, rfl, r10⟩ := ov2.rd; have d10 := below_then d9 b10; have z10 := z9.keep b10; have m10 := z10.three; have r7 := r7.below b10; have r8 := r8.below b10; obtain ⟨ad, v, rfl, hc, A', c', hv, hr⟩ := r7.at1 rfl k hk; simp only [List.cons.injEq, and_true] at hv; subst hv))
      | (go_at_call 12; ((with_reducible refine (same_bytes _ _ B5 B7 f5 f7 xs ws _ r8 r10).mono ?_); rintro e w' ⟨rfl, rfl⟩; rw [HS1.out]))
      | (go_at_call 12; ((with_reducible refine (same_bytes _ _ A' B7 c' f7 B.secs[k] ws _ hr r10).mono ?_); rintro e w' ⟨rfl, rfl⟩; rw [HS2.out]))
  )
  go_ret
  exact ⟨rfl, d10⟩
theorem lengths_any {S1 S2 : FP} {A1 A2 : Option Addr} {c1 c2 : Nat} {w : World} (hn : InK .i64 n) (ha : InK .i64 at_) (h1 : Rd w S1 A1 c1 s.secs) (h2 : Rd w S2 A2 c2 s.waits) :
    Calls Try.prog 7 #[.agg #[.slice A1 s.secs.length c1, .slice A2 s.waits.length c2, .int .i64 s.cap], .int .i64 n, .int .i64 at_] w fun e w' => e = .returned (.bool true) ∧ Below w.heap.size w w' := by
  obtain ⟨⟨A, e⟩, hA⟩ : ∃ A, resizeR s n = A := ⟨_, rfl⟩
  rcases resize_ok hA with ⟨he, hz⟩ | ⟨he, hok, h0, hc, hAA, hokA⟩
  · exact lengths_bad (Lib.hid hA) (by simpa using he) (by rw [hz]; rfl) (by rw [hz]; rfl) hn h1 h2
  subst he
  have hall : all3 A.secs A.waits = do3 (all3 s.secs s.waits) ⟨2, n, []⟩ := by rw [hAA]; simp [all3, List.foldl_append]
  have hB : flushR A = ⟨all3 A.secs A.waits, [], A.cap⟩ := flush_secs hokA
  have hlen : ((all3 A.secs A.waits).length : Int) = n := by
    rw [hall, do3_length _ _ s.cap ((may3_iff _ _).2 (.inr ⟨rfl, h0, hc, rfl⟩)), if_pos rfl]
  have hM : (if ok3 A then size3 A else 0) = n := by rw [if_pos hokA, size_all hokA, hlen]
  have hE : err3 (ok3 s) = 0 := by rw [hok]; rfl
  have hEA : err3 (ok3 A) = 0 := by rw [hokA]; rfl
  have hO : (if ok3 s then size3 s else 0) = ((all3 s.secs s.waits).length : Int) := by rw [if_pos hok, size_all hok]
  have t1 : ((((⟨all3 A.secs A.waits, [], A.cap⟩ : St3)).secs.length : Int) != n) = false := by simp [hlen]
  by_cases hout : at_ < 0 ∨ n ≤ at_
  · exact lengths_out (Lib.hid hA) (Lib.hid hO) (Lib.hid hE) (Lib.hid hM) (Lib.hid hEA) (Lib.hid hB) t1 (Lib.hid (read_out hokA at_ (by rw [hlen]; exact hout))) hout hn ha h1 h2
  · obtain ⟨k, rfl⟩ := Int.eq_ofNat_of_zero_le (show 0 ≤ at_ by omega)
    have hk : k < (all3 A.secs A.waits).length := by omega
    have hR := read_all hokA k hk
    have hz : ∀ (L : List (List UInt8)) (h : k < (do3 L ⟨2, n, []⟩).length), (do3 L ⟨2, n, []⟩)[k] = if h : k < L.length then L[k] else zero3 := by
      intro L h
      have e : do3 L ⟨2, n, []⟩ = L.take n.toNat ++ List.replicate (n.toNat - L.length) zero3 := by unfold do3; rw [if_pos rfl]
      have hkn : k < n.toNat := by omega
      by_cases h0 : k < L.length
      · rw [dif_pos h0]
        simp only [e]
        rw [List.getElem_append_left (by rw [List.length_take]; omega), List.getElem_take]
      · rw [dif_neg h0]
        simp only [e]
        rw [List.getElem_append_right (by rw [List.length_take]; omega), List.getElem_replicate]
    have hzk : (all3 A.secs A.waits)[k] = if h : k < (all3 s.secs s.waits).length then (all3 s.secs s.waits)[k] else zero3 := by
      rw [← hz _ (by rw [← hall]; exact hk)]
      congr 1
    by_cases h0 : k < (all3 s.secs s.waits).length
    · rw [dif_pos h0] at hzk
      exact lengths_old (B := ⟨all3 A.secs A.waits, [], A.cap⟩) (Lib.hid hA) (Lib.hid hO) (Lib.hid hE) (Lib.hid hM) (Lib.hid hEA) (Lib.hid hB) t1 (Lib.hid hR) (Lib.hid (read_all hok k h0)) (by omega) (by omega) hk (Lib.hid (by rw [hzk]; simp)) (Lib.hid (by simp only [hzk]; simp)) hn ha h1 h2
    · rw [dif_neg h0] at hzk
      exact lengths_new (B := ⟨all3 A.secs A.waits, [], A.cap⟩) (Lib.hid hA) (Lib.hid hO) (Lib.hid hE) (Lib.hid hM) (Lib.hid hEA) (Lib.hid hB) t1 (Lib.hid hR) (by omega) (by omega) hk (Lib.hid (by rw [hzk]; simp)) (Lib.hid (by simp only [hzk]; simp)) hn ha h1 h2
end
end Go.Proofs.Ytfmmbkggamojkaa
