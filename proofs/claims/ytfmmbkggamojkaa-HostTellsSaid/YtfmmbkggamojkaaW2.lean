/- HostOrder: the walk. No condition but that the arguments read. -/
import Derived.Test.YtfmmbkggamojkaaLb
import Derived.Test.YtfmmbkggamojkaaP4
set_option linter.unusedVariables false
set_option linter.unusedSimpArgs false
namespace Go.Proofs.Ytfmmbkggamojkaa
open Go.RowKit

section
variable {S1 S2 S3 : FP} {A1 A2 A3 : Option Addr} {c1 c2 c3 : Nat} {w : World} {s r : St3} {err : Int}
theorem flush_to (hr : flushR s = r) (he : err3 (ok3 s) = err) (h1 : Rd w S1 A1 c1 s.secs) (h2 : Rd w S2 A2 c2 s.waits) :
    Calls Try.prog 21 #[.agg #[.slice A1 s.secs.length c1, .slice A2 s.waits.length c2, .int .i64 s.cap]] w (RetSt r err w) := by
  subst hr
  subst he
  exact flush_any s S1 S2 A1 A2 c1 c2 w h1 h2
theorem crash_to {keep : List Bool} (hr : crashR s keep = r) (he : err3 (ok3 s) = err) (h1 : Rd w S1 A1 c1 s.secs) (h2 : Rd w S2 A2 c2 s.waits) (h3 : Rd w S3 A3 c3 keep) :
    Calls Try.prog 9 #[.agg #[.slice A1 s.secs.length c1, .slice A2 s.waits.length c2, .int .i64 s.cap], .slice A3 keep.length c3] w (RetSt r err w) := by
  subst hr
  subst he
  exact crash_any s keep S1 S2 S3 A1 A2 A3 c1 c2 c3 w h1 h2 h3
theorem write_to {at_ : Int} {data : List UInt8} (hr : writeR s at_ data = (r, err)) (ha : InK .i64 at_) (h1 : Rd w S1 A1 c1 s.secs) (h2 : Rd w S2 A2 c2 s.waits) (h3 : Rd w S3 A3 c3 data) :
    Calls Try.prog 15 #[.agg #[.slice A1 s.secs.length c1, .slice A2 s.waits.length c2, .int .i64 s.cap], .int .i64 at_, .slice A3 data.length c3] w (RetSt r err w) := by
  have h := write_any s at_ ha data S1 S2 S3 A1 A2 A3 c1 c2 c3 w h1 h2 h3
  rw [hr] at h
  exact h
theorem crash_two {a b : Bool} {g : Nat} (hr : crashR s [a, b] = r) (he : err3 (ok3 s) = err) (h1 : Rd w S1 A1 c1 s.secs) (h2 : Rd w S2 A2 c2 s.waits) (h3 : Rd w S3 (some ⟨g, 0, none⟩) 2 [a, b]) :
    Calls Try.prog 9 #[.agg #[.slice A1 s.secs.length c1, .slice A2 s.waits.length c2, .int .i64 s.cap], .slice (some ⟨g, 0, none⟩) 2 2] w (RetSt r err w) := by
  have e : ([a, b] : List Bool).length = 2 := rfl
  have h := crash_to (keep := [a, b]) hr he h1 h2 h3
  rw [e] at h
  exact h
end
theorem same_zero (S1 : FP) {S2 : FP} (A1 : Option Addr) (ad : Addr) (c1 : Nat) (xs : List UInt8) (w : World) (h1 : Rd w S1 A1 c1 xs) (h2 : Rd w S2 (some ad) 64 zero3) :
    Calls Try.prog 12 #[.slice A1 xs.length c1, .slice (some ad) 64 64] w fun e w' => e = .returned (.bool (xs == zero3)) ∧ w = w' := same_bytes S1 S2 A1 (some ad) c1 64 xs zero3 w h1 h2
/-- What a state's variable holds. -/
abbrev stc (A1 : Option Addr) (n1 c1 : Nat) (A2 : Option Addr) (n2 c2 : Nat) (cap : Int) : List Value := [.slice A1 n1 c1, .slice A2 n2 c2, .int .i64 cap]
theorem rd_two (W : World) (a b : Bool) (e : TypeId) : Rd (W.alloc (.cells #[.bool a, .bool b] e)) (fun _ _ => True) (some ⟨W.heap.size, 0, none⟩) 2 [a, b] := by
  refine ⟨Nat.le_refl _, by show 2 * 1 ≤ _; decide, fun _ => ⟨⟨W.heap.size, 0, none⟩, _, (e, 0, 0), rfl, rfl, heap_alloc_new W _, trivial, fun j hj => ?_⟩⟩
  have hj2 : j < 2 := hj
  match j, hj2 with
  | 0, _ => rfl
  | 1, _ => rfl
theorem order_at {L : List (List UInt8)} {cap : Int} {k : Nat} {a b : List UInt8} (f s : Bool) (hk : k < L.length) : ∃ h : k < (crash3 ⟨L, [⟨1, k, a⟩, ⟨1, k, b⟩], cap⟩ [f, s]).secs.length,
    (crash3 ⟨L, [⟨1, k, a⟩, ⟨1, k, b⟩], cap⟩ [f, s]).secs[k] = if s then b else if f then a else L[k] := by
  have e : (crash3 ⟨L, [⟨1, k, a⟩, ⟨1, k, b⟩], cap⟩ [f, s]).secs = if s then (if f then L.set k a else L).set k b else if f then L.set k a else L := by
    cases f <;> cases s <;> simp [crash3, run3, do3]
  refine ⟨by rw [e]; cases f <;> cases s <;> simpa using hk, ?_⟩
  simp only [e]
  cases f <;> cases s <;> simp

section
variable {s X Y Z : St3} {at_ : Int} {a b : List UInt8} {first second : Bool} {S1 S2 S3 S4 : FP} {A1 A2 A3 A4 : Option Addr} {c1 c2 c3 c4 : Nat} {w : World} {ee ef eg : Int}
/-- Where one of the three is refused. -/
def Bad3 (X Y Z : St3) (ee ef eg : Int) : Prop := ((ee != 0) = true ∧ X.secs = []) ∨ ((ee != 0) = false ∧ (ef != 0) = true ∧ Y.secs = []) ∨ ((ee != 0) = false ∧ (ef != 0) = false ∧ (eg != 0) = true ∧ Z.secs = [])
set_option maxHeartbeats 1000000 in
theorem order_bad (HX : Hid (flushR s = X)) (HE : Hid (err3 (ok3 s) = ee)) (HY : Hid (writeR X at_ a = (Y, ef))) (HZ : Hid (writeR Y at_ b = (Z, eg))) (ha : InK .i64 at_) (bad : Bad3 X Y Z ee ef eg)
    (h1 : Rd w S1 A1 c1 s.secs) (h2 : Rd w S2 A2 c2 s.waits) (h3 : Rd w S3 A3 c3 a) (h4 : Rd w S4 A4 c4 b) :
    Calls Try.prog 5 #[.agg #[.slice A1 s.secs.length c1, .slice A2 s.waits.length c2, .int .i64 s.cap], .int .i64 at_, .slice A3 a.length c3, .slice A4 b.length c4, .bool first, .bool second] w fun e w' => e = .returned (.bool true) ∧ Below w.heap.size w w' := by
  have l1 := h1.len
  have l2 := h2.len
  have l3 := h3.len
  have l4 := h4.len
  have b0 : Below w.heap.size w (w.alloc (.cells #[.slice A1 s.secs.length c1, .slice A2 s.waits.length c2, .int .i64 s.cap] 25)) := below_alloc (Below.refl _ _) _
  have x0 := Bx.new w [.slice A1 s.secs.length c1, .slice A2 s.waits.length c2, .int .i64 s.cap] 25
  rcases bad with ⟨t1, hx⟩ | ⟨t1, t2, hx⟩ | ⟨t1, t2, t3, hx⟩
  · have hz : ((X.secs.length : Int) == 0) = true := by rw [hx]; rfl
    clear hx
    go_enter Try.func5, Try.ntmps5
    go_wp2_with (first
        | (go_at_call 8; refine (alive_any _).mono ?_; rintro e w1 ⟨rfl, b1⟩; have x1 := x0.keep b1; have k1 := x1.three; have d1 := below_then b0 b1)
        | (go_at_call 10; refine (of_any s S1 S2 A1 A2 c1 c2 _ (h1.below d1) (h2.below d1)).mono ?_; rintro e w2 ⟨A5, c5, A6, c6, rfl, b2, o1, o2⟩; have d2 := below_then d1 b2)
        | (go_at_call 21; refine (flush_to HX.out HE.out o1.rdS o2.rdS).mono ?_; rintro e w3 ⟨B1, f1, B2, f2, rfl, b3, o3, o4⟩; have d3 := below_alloc (below_then d2 b3) (.cells #[.slice B1 X.secs.length f1, .slice B2 X.waits.length f2, .int .i64 X.cap] 30); have x3 := Bx.new w3 [.slice B1 X.secs.length f1, .slice B2 X.waits.length f2, .int .i64 X.cap] 30; have k3 := x3.three; have r3 := o3.rdS.move (Kp.alloc w3 (.cells #[.slice B1 X.secs.length f1, .slice B2 X.waits.length f2, .int .i64 X.cap] 30) _); have r4 := o4.rdS.move (Kp.alloc w3 (.cells #[.slice B1 X.secs.length f1, .slice B2 X.waits.length f2, .int .i64 X.cap] 30) _); have q3 := h3.below d3)
        | (go_at_call 15; ((with_reducible refine (write_to HY.out ha r3 r4 q3).mono ?_); rintro e w4 ⟨B3, f3, B4, f4, rfl, b4, o5, o6⟩; have d4 := below_alloc (below_then d3 b4) (.cells #[.slice B3 Y.secs.length f3, .slice B4 Y.waits.length f4, .int .i64 Y.cap] 30); have x4 := (x3.keep b4).alloc (.cells #[.slice B3 Y.secs.length f3, .slice B4 Y.waits.length f4, .int .i64 Y.cap] 30); have y4 := Bx.new w4 [.slice B3 Y.secs.length f3, .slice B4 Y.waits.length f4, .int .i64 Y.cap] 30; have k4 := y4.three; have r5 := o5.rdS.move (Kp.alloc w4 (.cells #[.slice B3 Y.secs.length f3, .slice B4 Y.waits.length f4, .int .i64 Y.cap] 30) _); have r6 := o6.rdS.move (Kp.alloc w4 (.cells #[.slice B3 Y.secs.length f3, .slice B4 Y.waits.length f4, .int .i64 Y.cap] 30) _); have q4 := h4.below d4; have r3 := (r3.below b4).move (Kp.alloc w4 (.cells #[.slice B3 Y.secs.length f3, .slice B4 Y.waits.length f4, .int .i64 Y.cap] 30) _)))
        | (go_at_call 15; ((with_reducible refine (write_to HZ.out ha r5 r6 q4).mono ?_); rintro e w5 ⟨B5, f5, B6, f6, rfl, b5, o7, o8⟩; have d5 := below_alloc (below_then d4 b5) (.cells #[.slice B5 Z.secs.length f5, .slice B6 Z.waits.length f6, .int .i64 Z.cap] 30); have x5 := (x4.keep b5).alloc (.cells #[.slice B5 Z.secs.length f5, .slice B6 Z.waits.length f6, .int .i64 Z.cap] 30); have k5 := x5.three; have y5 := (y4.keep b5).alloc (.cells #[.slice B5 Z.secs.length f5, .slice B6 Z.waits.length f6, .int .i64 Z.cap] 30); have k6 := y5.three; have z5 := Bx.new w5 [.slice B5 Z.secs.length f5, .slice B6 Z.waits.length f6, .int .i64 Z.cap] 30; have k7 := z5.three; have r7 := o7.rdS.move (Kp.alloc w5 (.cells #[.slice B5 Z.secs.length f5, .slice B6 Z.waits.length f6, .int .i64 Z.cap] 30) _); have r8 := o8.rdS.move (Kp.alloc w5 (.cells #[.slice B5 Z.secs.length f5, .slice B6 Z.waits.length f6, .int .i64 Z.cap] 30) _); have r3 := (r3.below b5).move (Kp.alloc w5 (.cells #[.slice B5 Z.secs.length f5, .slice B6 Z.waits.length f6, .int .i64 Z.cap] 30) _)))
        | (go_at_call 11; refine (num_any _ _).mono ?_; rintro e w' ⟨rfl, rfl⟩)
    )
    go_ret
    exact ⟨rfl, d5⟩
  · have hz : ((Y.secs.length : Int) == 0) = true := by rw [hx]; rfl
    clear hx
    cases t4 : ((X.secs.length : Int) == 0)
    all_goals
      go_enter Try.func5, Try.ntmps5
      go_wp2_with (first
          | (go_at_call 8; refine (alive_any _).mono ?_; rintro e w1 ⟨rfl, b1⟩; have x1 := x0.keep b1; have k1 := x1.three; have d1 := below_then b0 b1)
          | (go_at_call 10; refine (of_any s S1 S2 A1 A2 c1 c2 _ (h1.below d1) (h2.below d1)).mono ?_; rintro e w2 ⟨A5, c5, A6, c6, rfl, b2, o1, o2⟩; have d2 := below_then d1 b2)
          | (go_at_call 21; refine (flush_to HX.out HE.out o1.rdS o2.rdS).mono ?_; rintro e w3 ⟨B1, f1, B2, f2, rfl, b3, o3, o4⟩; have d3 := below_alloc (below_then d2 b3) (.cells #[.slice B1 X.secs.length f1, .slice B2 X.waits.length f2, .int .i64 X.cap] 30); have x3 := Bx.new w3 [.slice B1 X.secs.length f1, .slice B2 X.waits.length f2, .int .i64 X.cap] 30; have k3 := x3.three; have r3 := o3.rdS.move (Kp.alloc w3 (.cells #[.slice B1 X.secs.length f1, .slice B2 X.waits.length f2, .int .i64 X.cap] 30) _); have r4 := o4.rdS.move (Kp.alloc w3 (.cells #[.slice B1 X.secs.length f1, .slice B2 X.waits.length f2, .int .i64 X.cap] 30) _); have q3 := h3.below d3)
          | (go_at_call 15; ((with_reducible refine (write_to HY.out ha r3 r4 q3).mono ?_); rintro e w4 ⟨B3, f3, B4, f4, rfl, b4, o5, o6⟩; have d4 := below_alloc (below_then d3 b4) (.cells #[.slice B3 Y.secs.length f3, .slice B4 Y.waits.length f4, .int .i64 Y.cap] 30); have x4 := (x3.keep b4).alloc (.cells #[.slice B3 Y.secs.length f3, .slice B4 Y.waits.length f4, .int .i64 Y.cap] 30); have y4 := Bx.new w4 [.slice B3 Y.secs.length f3, .slice B4 Y.waits.length f4, .int .i64 Y.cap] 30; have k4 := y4.three; have r5 := o5.rdS.move (Kp.alloc w4 (.cells #[.slice B3 Y.secs.length f3, .slice B4 Y.waits.length f4, .int .i64 Y.cap] 30) _); have r6 := o6.rdS.move (Kp.alloc w4 (.cells #[.slice B3 Y.secs.length f3, .slice B4 Y.waits.length f4, .int .i64 Y.cap] 30) _); have q4 := h4.below d4; have r3 := (r3.below b4).move (Kp.alloc w4 (.cells #[.slice B3 Y.secs.length f3, .slice B4 Y.waits.length f4, .int .i64 Y.cap] 30) _)))
          | (go_at_call 15; ((with_reducible refine (write_to HZ.out ha r5 r6 q4).mono ?_); rintro e w5 ⟨B5, f5, B6, f6, rfl, b5, o7, o8⟩; have d5 := below_alloc (below_then d4 b5) (.cells #[.slice B5 Z.secs.length f5, .slice B6 Z.waits.length f6, .int .i64 Z.cap] 30); have x5 := (x4.keep b5).alloc (.cells #[.slice B5 Z.secs.length f5, .slice B6 Z.waits.length f6, .int .i64 Z.cap] 30); have k5 := x5.three; have y5 := (y4.keep b5).alloc (.cells #[.slice B5 Z.secs.length f5, .slice B6 Z.waits.length f6, .int .i64 Z.cap] 30); have k6 := y5.three; have z5 := Bx.new w5 [.slice B5 Z.secs.length f5, .slice B6 Z.waits.length f6, .int .i64 Z.cap] 30; have k7 := z5.three; have r7 := o7.rdS.move (Kp.alloc w5 (.cells #[.slice B5 Z.secs.length f5, .slice B6 Z.waits.length f6, .int .i64 Z.cap] 30) _); have r8 := o8.rdS.move (Kp.alloc w5 (.cells #[.slice B5 Z.secs.length f5, .slice B6 Z.waits.length f6, .int .i64 Z.cap] 30) _); have r3 := (r3.below b5).move (Kp.alloc w5 (.cells #[.slice B5 Z.secs.length f5, .slice B6 Z.waits.length f6, .int .i64 Z.cap] 30) _)))
          | (go_at_call 11; refine (num_any _ _).mono ?_; rintro e w' ⟨rfl, rfl⟩)
      )
      go_ret
      exact ⟨rfl, d5⟩
  · have hz : ((Z.secs.length : Int) == 0) = true := by rw [hx]; rfl
    clear hx
    cases t4 : ((X.secs.length : Int) == 0)
    all_goals
      cases t5 : ((Y.secs.length : Int) == 0)
      all_goals
        go_enter Try.func5, Try.ntmps5
        go_wp2_with (first
            | (go_at_call 8; refine (alive_any _).mono ?_; rintro e w1 ⟨rfl, b1⟩; have x1 := x0.keep b1; have k1 := x1.three; have d1 := below_then b0 b1)
            | (go_at_call 10; refine (of_any s S1 S2 A1 A2 c1 c2 _ (h1.below d1) (h2.below d1)).mono ?_; rintro e w2 ⟨A5, c5, A6, c6, rfl, b2, o1, o2⟩; have d2 := below_then d1 b2)
            | (go_at_call 21; refine (flush_to HX.out HE.out o1.rdS o2.rdS).mono ?_; rintro e w3 ⟨B1, f1, B2, f2, rfl, b3, o3, o4⟩; have d3 := below_alloc (below_then d2 b3) (.cells #[.slice B1 X.secs.length f1, .slice B2 X.waits.length f2, .int .i64 X.cap] 30); have x3 := Bx.new w3 [.slice B1 X.secs.length f1, .slice B2 X.waits.length f2, .int .i64 X.cap] 30; have k3 := x3.three; have r3 := o3.rdS.move (Kp.alloc w3 (.cells #[.slice B1 X.secs.length f1, .slice B2 X.waits.length f2, .int .i64 X.cap] 30) _); have r4 := o4.rdS.move (Kp.alloc w3 (.cells #[.slice B1 X.secs.length f1, .slice B2 X.waits.length f2, .int .i64 X.cap] 30) _); have q3 := h3.below d3)
            | (go_at_call 15; ((with_reducible refine (write_to HY.out ha r3 r4 q3).mono ?_); rintro e w4 ⟨B3, f3, B4, f4, rfl, b4, o5, o6⟩; have d4 := below_alloc (below_then d3 b4) (.cells #[.slice B3 Y.secs.length f3, .slice B4 Y.waits.length f4, .int .i64 Y.cap] 30); have x4 := (x3.keep b4).alloc (.cells #[.slice B3 Y.secs.length f3, .slice B4 Y.waits.length f4, .int .i64 Y.cap] 30); have y4 := Bx.new w4 [.slice B3 Y.secs.length f3, .slice B4 Y.waits.length f4, .int .i64 Y.cap] 30; have k4 := y4.three; have r5 := o5.rdS.move (Kp.alloc w4 (.cells #[.slice B3 Y.secs.length f3, .slice B4 Y.waits.length f4, .int .i64 Y.cap] 30) _); have r6 := o6.rdS.move (Kp.alloc w4 (.cells #[.slice B3 Y.secs.length f3, .slice B4 Y.waits.length f4, .int .i64 Y.cap] 30) _); have q4 := h4.below d4; have r3 := (r3.below b4).move (Kp.alloc w4 (.cells #[.slice B3 Y.secs.length f3, .slice B4 Y.waits.length f4, .int .i64 Y.cap] 30) _)))
            | (go_at_call 15; ((with_reducible refine (write_to HZ.out ha r5 r6 q4).mono ?_); rintro e w5 ⟨B5, f5, B6, f6, rfl, b5, o7, o8⟩; have d5 := below_alloc (below_then d4 b5) (.cells #[.slice B5 Z.secs.length f5, .slice B6 Z.waits.length f6, .int .i64 Z.cap] 30); have x5 := (x4.keep b5).alloc (.cells #[.slice B5 Z.secs.length f5, .slice B6 Z.waits.length f6, .int .i64 Z.cap] 30); have k5 := x5.three; have y5 := (y4.keep b5).alloc (.cells #[.slice B5 Z.secs.length f5, .slice B6 Z.waits.length f6, .int .i64 Z.cap] 30); have k6 := y5.three; have z5 := Bx.new w5 [.slice B5 Z.secs.length f5, .slice B6 Z.waits.length f6, .int .i64 Z.cap] 30; have k7 := z5.three; have r7 := o7.rdS.move (Kp.alloc w5 (.cells #[.slice B5 Z.secs.length f5, .slice B6 Z.waits.length f6, .int .i64 Z.cap] 30) _); have r8 := o8.rdS.move (Kp.alloc w5 (.cells #[.slice B5 Z.secs.length f5, .slice B6 Z.waits.length f6, .int .i64 Z.cap] 30) _); have r3 := (r3.below b5).move (Kp.alloc w5 (.cells #[.slice B5 Z.secs.length f5, .slice B6 Z.waits.length f6, .int .i64 Z.cap] 30) _)))
            | (go_at_call 11; refine (num_any _ _).mono ?_; rintro e w' ⟨rfl, rfl⟩)
        )
        go_ret
        exact ⟨rfl, d5⟩
set_option maxHeartbeats 2000000 in
/-- Where none is. -/
theorem order_ok {C : St3} {k : Nat} (HX : Hid (flushR s = X)) (HE : Hid (err3 (ok3 s) = 0)) (HY : Hid (writeR X k a = (Y, 0))) (HZ : Hid (writeR Y k b = (Z, 0))) (HC : Hid (crashR Z [first, second] = C)) (HF : Hid (err3 (ok3 Z) = 0)) (ha : InK .i64 (k : Int))
    (hk : k < X.secs.length) (hkc : k < C.secs.length) (HS : Hid (C.secs[k] = if second then b else if first then a else X.secs[k]))
    (h1 : Rd w S1 A1 c1 s.secs) (h2 : Rd w S2 A2 c2 s.waits) (h3 : Rd w S3 A3 c3 a) (h4 : Rd w S4 A4 c4 b) :
    Calls Try.prog 5 #[.agg #[.slice A1 s.secs.length c1, .slice A2 s.waits.length c2, .int .i64 s.cap], .int .i64 k, .slice A3 a.length c3, .slice A4 b.length c4, .bool first, .bool second] w fun e w' => e = .returned (.bool true) ∧ Below w.heap.size w w' := by
  have l1 := h1.len
  have l2 := h2.len
  have l3 := h3.len
  have l4 := h4.len
  have b0 : Below w.heap.size w (w.alloc (.cells #[.slice A1 s.secs.length c1, .slice A2 s.waits.length c2, .int .i64 s.cap] 25)) := below_alloc (Below.refl _ _) _
  have x0 := Bx.new w [.slice A1 s.secs.length c1, .slice A2 s.waits.length c2, .int .i64 s.cap] 25
  cases second
  · cases first
    · have HS' : Hid ((C.secs[k] == X.secs[k]) = true) := Lib.hid (by rw [HS.out]; simp)
      clear HS
      go_enter Try.func5, Try.ntmps5
      go_wp2_with (first
          | (go_at_call 8; refine (alive_any _).mono ?_; rintro e w1 ⟨rfl, b1⟩; have x1 := x0.keep b1; have k1 := x1.three; have d1 := below_then b0 b1)
          | (go_at_call 10; refine (of_any s S1 S2 A1 A2 c1 c2 _ (h1.below d1) (h2.below d1)).mono ?_; rintro e w2 ⟨A5, c5, A6, c6, rfl, b2, o1, o2⟩; have d2 := below_then d1 b2)
          | (go_at_call 21; refine (flush_to HX.out HE.out o1.rdS o2.rdS).mono ?_; rintro e w3 ⟨B1, f1, B2, f2, rfl, b3, o3, o4⟩; have d3 := below_alloc (below_then d2 b3) (.cells #[.slice B1 X.secs.length f1, .slice B2 X.waits.length f2, .int .i64 X.cap] 30); have x3 := Bx.new w3 [.slice B1 X.secs.length f1, .slice B2 X.waits.length f2, .int .i64 X.cap] 30; have k3 := x3.three; have r3 := o3.rdS.move (Kp.alloc w3 (.cells #[.slice B1 X.secs.length f1, .slice B2 X.waits.length f2, .int .i64 X.cap] 30) _); have r4 := o4.rdS.move (Kp.alloc w3 (.cells #[.slice B1 X.secs.length f1, .slice B2 X.waits.length f2, .int .i64 X.cap] 30) _); have q3 := h3.below d3)
          | (go_at_call 15; ((with_reducible refine (write_to HY.out ha r3 r4 q3).mono ?_); rintro e w4 ⟨B3, f3, B4, f4, rfl, b4, o5, o6⟩; have d4 := below_alloc (below_then d3 b4) (.cells #[.slice B3 Y.secs.length f3, .slice B4 Y.waits.length f4, .int .i64 Y.cap] 30); have x4 := (x3.keep b4).alloc (.cells #[.slice B3 Y.secs.length f3, .slice B4 Y.waits.length f4, .int .i64 Y.cap] 30); have y4 := Bx.new w4 [.slice B3 Y.secs.length f3, .slice B4 Y.waits.length f4, .int .i64 Y.cap] 30; have k4 := y4.three; have r5 := o5.rdS.move (Kp.alloc w4 (.cells #[.slice B3 Y.secs.length f3, .slice B4 Y.waits.length f4, .int .i64 Y.cap] 30) _); have r6 := o6.rdS.move (Kp.alloc w4 (.cells #[.slice B3 Y.secs.length f3, .slice B4 Y.waits.length f4, .int .i64 Y.cap] 30) _); have q4 := h4.below d4; have r3 := (r3.below b4).move (Kp.alloc w4 (.cells #[.slice B3 Y.secs.length f3, .slice B4 Y.waits.length f4, .int .i64 Y.cap] 30) _)))
          | (go_at_call 15; ((with_reducible refine (write_to HZ.out ha r5 r6 q4).mono ?_); rintro e w5 ⟨B5, f5, B6, f6, rfl, b5, o7, o8⟩; have d5 := below_alloc (below_then d4 b5) (.cells #[.slice B5 Z.secs.length f5, .slice B6 Z.waits.length f6, .int .i64 Z.cap] 30); have x5 := (x4.keep b5).alloc (.cells #[.slice B5 Z.secs.length f5, .slice B6 Z.waits.length f6, .int .i64 Z.cap] 30); have k5 := x5.three; have y5 := (y4.keep b5).alloc (.cells #[.slice B5 Z.secs.length f5, .slice B6 Z.waits.length f6, .int .i64 Z.cap] 30); have k6 := y5.three; have z5 := Bx.new w5 [.slice B5 Z.secs.length f5, .slice B6 Z.waits.length f6, .int .i64 Z.cap] 30; have k7 := z5.three; have r7 := o7.rdS.move (Kp.alloc w5 (.cells #[.slice B5 Z.secs.length f5, .slice B6 Z.waits.length f6, .int .i64 Z.cap] 30) _); have r8 := o8.rdS.move (Kp.alloc w5 (.cells #[.slice B5 Z.secs.length f5, .slice B6 Z.waits.length f6, .int .i64 Z.cap] 30) _); have r3 := (r3.below b5).move (Kp.alloc w5 (.cells #[.slice B5 Z.secs.length f5, .slice B6 Z.waits.length f6, .int .i64 Z.cap] 30) _)))
          | (go_at_call 11; refine (num_any _ _).mono ?_; rintro e w' ⟨rfl, rfl⟩)
          | (go_at_call 9; have q5 := rd_two (w5.alloc (.cells #[.slice B5 Z.secs.length f5, .slice B6 Z.waits.length f6, .int .i64 Z.cap] 30)) false false 4; simp only [World.size_alloc] at q5; ((with_reducible refine (crash_two HC.out HF.out (r7.move (Kp.alloc _ (.cells #[.bool false, .bool false] 4) _)) (r8.move (Kp.alloc _ (.cells #[.bool false, .bool false] 4) _)) q5).mono ?_); rintro e w6 ⟨B7, f7, B8, f8, rfl, b6, o9, o10⟩; have d6 := below_alloc (below_then (below_alloc d5 (.cells #[.bool false, .bool false] 4)) b6) (.cells #[.slice B7 C.secs.length f7, .slice B8 C.waits.length f8, .int .i64 C.cap] 30); have x6 := ((x5.alloc (.cells #[.bool false, .bool false] 4)).keep b6).alloc (.cells #[.slice B7 C.secs.length f7, .slice B8 C.waits.length f8, .int .i64 C.cap] 30); have z6 := Bx.new w6 [.slice B7 C.secs.length f7, .slice B8 C.waits.length f8, .int .i64 C.cap] 30; have r9 := o9.rdS.move (Kp.alloc w6 (.cells #[.slice B7 C.secs.length f7, .slice B8 C.waits.length f8, .int .i64 C.cap] 30) _); have r3 := ((r3.move (Kp.alloc _ (.cells #[.bool false, .bool false] 4) _)).below b6).move (Kp.alloc w6 (.cells #[.slice B7 C.secs.length f7, .slice B8 C.waits.length f8, .int .i64 C.cap] 30) _); have q6 := h3.below d6; have q7 := h4.below d6; obtain ⟨ad, v, rfl, hc, A', c', hv, hr3⟩ := r3.at1 rfl k hk; obtain ⟨ad2, v2, rfl, hc2, A'', c'', hv2, hr9⟩ := r9.at1 rfl k hkc; simp only [List.cons.injEq, and_true] at hv hv2; subst hv; subst hv2; have k8 := x6.three; have k9 := z6.three; clear k1 k3 k4 k5 k6 k7))
          | (go_at_call 12; ((with_reducible refine (same_bytes _ _ _ _ _ _ C.secs[k] X.secs[k] _ hr9 hr3).mono ?_); rintro e w' ⟨rfl, rfl⟩; rw [HS'.out])))
      go_ret
      exact ⟨rfl, d6⟩
    · have HS' : Hid ((C.secs[k] == a) = true) := Lib.hid (by rw [HS.out]; simp)
      clear HS
      go_enter Try.func5, Try.ntmps5
      go_wp2_with (first
          | (go_at_call 8; refine (alive_any _).mono ?_; rintro e w1 ⟨rfl, b1⟩; have x1 := x0.keep b1; have k1 := x1.three; have d1 := below_then b0 b1)
          | (go_at_call 10; refine (of_any s S1 S2 A1 A2 c1 c2 _ (h1.below d1) (h2.below d1)).mono ?_; rintro e w2 ⟨A5, c5, A6, c6, rfl, b2, o1, o2⟩; have d2 := below_then d1 b2)
          | (go_at_call 21; refine (flush_to HX.out HE.out o1.rdS o2.rdS).mono ?_; rintro e w3 ⟨B1, f1, B2, f2, rfl, b3, o3, o4⟩; have d3 := below_alloc (below_then d2 b3) (.cells #[.slice B1 X.secs.length f1, .slice B2 X.waits.length f2, .int .i64 X.cap] 30); have x3 := Bx.new w3 [.slice B1 X.secs.length f1, .slice B2 X.waits.length f2, .int .i64 X.cap] 30; have k3 := x3.three; have r3 := o3.rdS.move (Kp.alloc w3 (.cells #[.slice B1 X.secs.length f1, .slice B2 X.waits.length f2, .int .i64 X.cap] 30) _); have r4 := o4.rdS.move (Kp.alloc w3 (.cells #[.slice B1 X.secs.length f1, .slice B2 X.waits.length f2, .int .i64 X.cap] 30) _); have q3 := h3.below d3)
          | (go_at_call 15; ((with_reducible refine (write_to HY.out ha r3 r4 q3).mono ?_); rintro e w4 ⟨B3, f3, B4, f4, rfl, b4, o5, o6⟩; have d4 := below_alloc (below_then d3 b4) (.cells #[.slice B3 Y.secs.length f3, .slice B4 Y.waits.length f4, .int .i64 Y.cap] 30); have x4 := (x3.keep b4).alloc (.cells #[.slice B3 Y.secs.length f3, .slice B4 Y.waits.length f4, .int .i64 Y.cap] 30); have y4 := Bx.new w4 [.slice B3 Y.secs.length f3, .slice B4 Y.waits.length f4, .int .i64 Y.cap] 30; have k4 := y4.three; have r5 := o5.rdS.move (Kp.alloc w4 (.cells #[.slice B3 Y.secs.length f3, .slice B4 Y.waits.length f4, .int .i64 Y.cap] 30) _); have r6 := o6.rdS.move (Kp.alloc w4 (.cells #[.slice B3 Y.secs.length f3, .slice B4 Y.waits.length f4, .int .i64 Y.cap] 30) _); have q4 := h4.below d4; have r3 := (r3.below b4).move (Kp.alloc w4 (.cells #[.slice B3 Y.secs.length f3, .slice B4 Y.waits.length f4, .int .i64 Y.cap] 30) _)))
          | (go_at_call 15; ((with_reducible refine (write_to HZ.out ha r5 r6 q4).mono ?_); rintro e w5 ⟨B5, f5, B6, f6, rfl, b5, o7, o8⟩; have d5 := below_alloc (below_then d4 b5) (.cells #[.slice B5 Z.secs.length f5, .slice B6 Z.waits.length f6, .int .i64 Z.cap] 30); have x5 := (x4.keep b5).alloc (.cells #[.slice B5 Z.secs.length f5, .slice B6 Z.waits.length f6, .int .i64 Z.cap] 30); have k5 := x5.three; have y5 := (y4.keep b5).alloc (.cells #[.slice B5 Z.secs.length f5, .slice B6 Z.waits.length f6, .int .i64 Z.cap] 30); have k6 := y5.three; have z5 := Bx.new w5 [.slice B5 Z.secs.length f5, .slice B6 Z.waits.length f6, .int .i64 Z.cap] 30; have k7 := z5.three; have r7 := o7.rdS.move (Kp.alloc w5 (.cells #[.slice B5 Z.secs.length f5, .slice B6 Z.waits.length f6, .int .i64 Z.cap] 30) _); have r8 := o8.rdS.move (Kp.alloc w5 (.cells #[.slice B5 Z.secs.length f5, .slice B6 Z.waits.length f6, .int .i64 Z.cap] 30) _); have r3 := (r3.below b5).move (Kp.alloc w5 (.cells #[.slice B5 Z.secs.length f5, .slice B6 Z.waits.length f6, .int .i64 Z.cap] 30) _)))
          | (go_at_call 11; refine (num_any _ _).mono ?_; rintro e w' ⟨rfl, rfl⟩)
          | (go_at_call 9; have q5 := rd_two (w5.alloc (.cells #[.slice B5 Z.secs.length f5, .slice B6 Z.waits.length f6, .int .i64 Z.cap] 30)) true false 4; simp only [World.size_alloc] at q5; ((with_reducible refine (crash_two HC.out HF.out (r7.move (Kp.alloc _ (.cells #[.bool true, .bool false] 4) _)) (r8.move (Kp.alloc _ (.cells #[.bool true, .bool false] 4) _)) q5).mono ?_); rintro e w6 ⟨B7, f7, B8, f8, rfl, b6, o9, o10⟩; have d6 := below_alloc (below_then (below_alloc d5 (.cells #[.bool true, .bool false] 4)) b6) (.cells #[.slice B7 C.secs.length f7, .slice B8 C.waits.length f8, .int .i64 C.cap] 30); have x6 := ((x5.alloc (.cells #[.bool true, .bool false] 4)).keep b6).alloc (.cells #[.slice B7 C.secs.length f7, .slice B8 C.waits.length f8, .int .i64 C.cap] 30); have z6 := Bx.new w6 [.slice B7 C.secs.length f7, .slice B8 C.waits.length f8, .int .i64 C.cap] 30; have r9 := o9.rdS.move (Kp.alloc w6 (.cells #[.slice B7 C.secs.length f7, .slice B8 C.waits.length f8, .int .i64 C.cap] 30) _); have r3 := ((r3.move (Kp.alloc _ (.cells #[.bool true, .bool false] 4) _)).below b6).move (Kp.alloc w6 (.cells #[.slice B7 C.secs.length f7, .slice B8 C.waits.length f8, .int .i64 C.cap] 30) _); have q6 := h3.below d6; have q7 := h4.below d6; obtain ⟨ad, v, rfl, hc, A', c', hv, hr3⟩ := r3.at1 rfl k hk; obtain ⟨ad2, v2, rfl, hc2, A'', c'', hv2, hr9⟩ := r9.at1 rfl k hkc; simp only [List.cons.injEq, and_true] at hv hv2; subst hv; subst hv2; have k8 := x6.three; have k9 := z6.three; clear k1 k3 k4 k5 k6 k7))
          | (go_at_call 12; ((with_reducible refine (same_bytes _ _ _ _ _ _ C.secs[k] a _ hr9 q6).mono ?_); rintro e w' ⟨rfl, rfl⟩; rw [HS'.out])))
      go_ret
      exact ⟨rfl, d6⟩
  · have HS' : Hid ((C.secs[k] == b) = true) := Lib.hid (by rw [HS.out]; simp)
    clear HS
    go_enter Try.func5, Try.ntmps5
    go_wp2_with (first
        | (go_at_call 8; refine (alive_any _).mono ?_; rintro e w1 ⟨rfl, b1⟩; have x1 := x0.keep b1; have k1 := x1.three; have d1 := below_then b0 b1)
        | (go_at_call 10; refine (of_any s S1 S2 A1 A2 c1 c2 _ (h1.below d1) (h2.below d1)).mono ?_; rintro e w2 ⟨A5, c5, A6, c6, rfl, b2, o1, o2⟩; have d2 := below_then d1 b2)
        | (go_at_call 21; refine (flush_to HX.out HE.out o1.rdS o2.rdS).mono ?_; rintro e w3 ⟨B1, f1, B2, f2, rfl, b3, o3, o4⟩; have d3 := below_alloc (below_then d2 b3) (.cells #[.slice B1 X.secs.length f1, .slice B2 X.waits.length f2, .int .i64 X.cap] 30); have x3 := Bx.new w3 [.slice B1 X.secs.length f1, .slice B2 X.waits.length f2, .int .i64 X.cap] 30; have k3 := x3.three; have r3 := o3.rdS.move (Kp.alloc w3 (.cells #[.slice B1 X.secs.length f1, .slice B2 X.waits.length f2, .int .i64 X.cap] 30) _); have r4 := o4.rdS.move (Kp.alloc w3 (.cells #[.slice B1 X.secs.length f1, .slice B2 X.waits.length f2, .int .i64 X.cap] 30) _); have q3 := h3.below d3)
        | (go_at_call 15; ((with_reducible refine (write_to HY.out ha r3 r4 q3).mono ?_); rintro e w4 ⟨B3, f3, B4, f4, rfl, b4, o5, o6⟩; have d4 := below_alloc (below_then d3 b4) (.cells #[.slice B3 Y.secs.length f3, .slice B4 Y.waits.length f4, .int .i64 Y.cap] 30); have x4 := (x3.keep b4).alloc (.cells #[.slice B3 Y.secs.length f3, .slice B4 Y.waits.length f4, .int .i64 Y.cap] 30); have y4 := Bx.new w4 [.slice B3 Y.secs.length f3, .slice B4 Y.waits.length f4, .int .i64 Y.cap] 30; have k4 := y4.three; have r5 := o5.rdS.move (Kp.alloc w4 (.cells #[.slice B3 Y.secs.length f3, .slice B4 Y.waits.length f4, .int .i64 Y.cap] 30) _); have r6 := o6.rdS.move (Kp.alloc w4 (.cells #[.slice B3 Y.secs.length f3, .slice B4 Y.waits.length f4, .int .i64 Y.cap] 30) _); have q4 := h4.below d4; have r3 := (r3.below b4).move (Kp.alloc w4 (.cells #[.slice B3 Y.secs.length f3, .slice B4 Y.waits.length f4, .int .i64 Y.cap] 30) _)))
        | (go_at_call 15; ((with_reducible refine (write_to HZ.out ha r5 r6 q4).mono ?_); rintro e w5 ⟨B5, f5, B6, f6, rfl, b5, o7, o8⟩; have d5 := below_alloc (below_then d4 b5) (.cells #[.slice B5 Z.secs.length f5, .slice B6 Z.waits.length f6, .int .i64 Z.cap] 30); have x5 := (x4.keep b5).alloc (.cells #[.slice B5 Z.secs.length f5, .slice B6 Z.waits.length f6, .int .i64 Z.cap] 30); have k5 := x5.three; have y5 := (y4.keep b5).alloc (.cells #[.slice B5 Z.secs.length f5, .slice B6 Z.waits.length f6, .int .i64 Z.cap] 30); have k6 := y5.three; have z5 := Bx.new w5 [.slice B5 Z.secs.length f5, .slice B6 Z.waits.length f6, .int .i64 Z.cap] 30; have k7 := z5.three; have r7 := o7.rdS.move (Kp.alloc w5 (.cells #[.slice B5 Z.secs.length f5, .slice B6 Z.waits.length f6, .int .i64 Z.cap] 30) _); have r8 := o8.rdS.move (Kp.alloc w5 (.cells #[.slice B5 Z.secs.length f5, .slice B6 Z.waits.length f6, .int .i64 Z.cap] 30) _); have r3 := (r3.below b5).move (Kp.alloc w5 (.cells #[.slice B5 Z.secs.length f5, .slice B6 Z.waits.length f6, .int .i64 Z.cap] 30) _)))
        | (go_at_call 11; refine (num_any _ _).mono ?_; rintro e w' ⟨rfl, rfl⟩)
        | (go_at_call 9; have q5 := rd_two (w5.alloc (.cells #[.slice B5 Z.secs.length f5, .slice B6 Z.waits.length f6, .int .i64 Z.cap] 30)) first true 4; simp only [World.size_alloc] at q5; ((with_reducible refine (crash_two HC.out HF.out (r7.move (Kp.alloc _ (.cells #[.bool first, .bool true] 4) _)) (r8.move (Kp.alloc _ (.cells #[.bool first, .bool true] 4) _)) q5).mono ?_); rintro e w6 ⟨B7, f7, B8, f8, rfl, b6, o9, o10⟩; have d6 := below_alloc (below_then (below_alloc d5 (.cells #[.bool first, .bool true] 4)) b6) (.cells #[.slice B7 C.secs.length f7, .slice B8 C.waits.length f8, .int .i64 C.cap] 30); have x6 := ((x5.alloc (.cells #[.bool first, .bool true] 4)).keep b6).alloc (.cells #[.slice B7 C.secs.length f7, .slice B8 C.waits.length f8, .int .i64 C.cap] 30); have z6 := Bx.new w6 [.slice B7 C.secs.length f7, .slice B8 C.waits.length f8, .int .i64 C.cap] 30; have r9 := o9.rdS.move (Kp.alloc w6 (.cells #[.slice B7 C.secs.length f7, .slice B8 C.waits.length f8, .int .i64 C.cap] 30) _); have r3 := ((r3.move (Kp.alloc _ (.cells #[.bool first, .bool true] 4) _)).below b6).move (Kp.alloc w6 (.cells #[.slice B7 C.secs.length f7, .slice B8 C.waits.length f8, .int .i64 C.cap] 30) _); have q6 := h3.below d6; have q7 := h4.below d6; obtain ⟨ad, v, rfl, hc, A', c', hv, hr3⟩ := r3.at1 rfl k hk; obtain ⟨ad2, v2, rfl, hc2, A'', c'', hv2, hr9⟩ := r9.at1 rfl k hkc; simp only [List.cons.injEq, and_true] at hv hv2; subst hv; subst hv2; have k8 := x6.three; have k9 := z6.three; clear k1 k3 k4 k5 k6 k7))
        | (go_at_call 12; ((with_reducible refine (same_bytes _ _ _ _ _ _ C.secs[k] b _ hr9 q7).mono ?_); rintro e w' ⟨rfl, rfl⟩; rw [HS'.out])))
    go_ret
    exact ⟨rfl, d6⟩
end
end Go.Proofs.Ytfmmbkggamojkaa
