/- HostTells: the walk. No condition but that the arguments read. -/
import Derived.Test.YtfmmbkggamojkaaW4
import Derived.Test.YtfmmbkggamojkaaW3
set_option linter.unusedVariables false
set_option linter.unusedSimpArgs false
namespace Go.Proofs.Ytfmmbkggamojkaa
open Go.RowKit

/-- A state in a variable. -/
structure Sv (W : World) (g : Nat) (T : TypeId) (B1 : Option Addr) (f1 : Nat) (B2 : Option Addr) (f2 : Nat) (Y : St3) : Prop where
  box : Bx W g [.slice B1 Y.secs.length f1, .slice B2 Y.waits.length f2, .int .i64 Y.cap] T
  rs : Rs W (fun _ _ => True) B1 f1 B2 f2 Y
theorem Sv.below {W W' : World} {g : Nat} {T : TypeId} {B1 : Option Addr} {f1 : Nat} {B2 : Option Addr} {f2 : Nat} {Y : St3} (h : Sv W g T B1 f1 B2 f2 Y) (b : Below W.heap.size W W') : Sv W' g T B1 f1 B2 f2 Y := ⟨h.box.keep b, h.rs.below b⟩
theorem Sv.mk' {w W : World} {T : TypeId} {B1 : Option Addr} {f1 : Nat} {B2 : Option Addr} {f2 : Nat} {Y : St3} (h : Rs W (Gz w) B1 f1 B2 f2 Y) : Sv (W.alloc (.cells #[.slice B1 Y.secs.length f1, .slice B2 Y.waits.length f2, .int .i64 Y.cap] T)) W.heap.size T B1 f1 B2 f2 Y := ⟨Bx.new W _ _, (h.mono fun _ _ _ => trivial).alloc _⟩
section
variable {S1 S2 S3 : FP} {A1 A2 A3 : Option Addr} {c1 c2 c3 : Nat} {w : World} {s r : St3} {err : Int}
theorem resize_g {n : Int} (hr : resizeR s n = (r, err)) (hn : InK .i64 n) (h : Rs w S1 A1 c1 A2 c2 s) :
    Calls Try.prog 22 #[.agg #[.slice A1 s.secs.length c1, .slice A2 s.waits.length c2, .int .i64 s.cap], .int .i64 n] w (RetG r err w) := (resize_to hr hn h.secs h.waits).mono fun e w' h => h.g
theorem flush_g (hr : flushR s = r) (he : err3 (ok3 s) = err) (h : Rs w S1 A1 c1 A2 c2 s) :
    Calls Try.prog 21 #[.agg #[.slice A1 s.secs.length c1, .slice A2 s.waits.length c2, .int .i64 s.cap]] w (RetG r err w) := (flush_to hr he h.secs h.waits).mono fun e w' h => h.g
theorem rresize_g {n : Int} (hr : resizeR s n = (r, err)) (hn : InK .i64 n) (h1 : Rd w S1 A1 c1 s.secs) (h2 : Rd w S2 A2 c2 s.waits) :
    Calls Try.prog 23 #[.agg #[.slice A1 s.secs.length c1, .slice A2 s.waits.length c2, .int .i64 s.cap], .int .i64 n] w (RetG r err w) := by
  have h := (rresize_any s n hn S1 S2 A1 A2 c1 c2 w h1 h2).mono fun e w' h => h.g
  rw [hr] at h
  exact h
theorem rflush_g (hr : flushR s = r) (he : err3 (ok3 s) = err) (h1 : Rd w S1 A1 c1 s.secs) (h2 : Rd w S2 A2 c2 s.waits) :
    Calls Try.prog 24 #[.agg #[.slice A1 s.secs.length c1, .slice A2 s.waits.length c2, .int .i64 s.cap]] w (RetG r err w) := by
  subst hr
  subst he
  exact (rflush_any s S1 S2 A1 A2 c1 c2 w h1 h2).mono fun e w' h => h.g
theorem read_g {at_ : Int} {xs : List UInt8} (hr : readR s at_ = (xs, err)) (ha : InK .i64 at_) (h : Rs w S1 A1 c1 A2 c2 s) :
    Calls Try.prog 25 #[.agg #[.slice A1 s.secs.length c1, .slice A2 s.waits.length c2, .int .i64 s.cap], .int .i64 at_] w fun e w' => ∃ A c, e = .returned (.tuple #[.slice A xs.length c, .int .i64 err]) ∧ Below w.heap.size w w' ∧ Rd w' (fun _ _ => True) A c xs :=
  (read_to hr ha h.secs h.waits).mono fun e w' ⟨v, he, b, o⟩ => by
    obtain ⟨A, c, rfl, r⟩ := o.rd
    exact ⟨A, c, he, b, r.mono fun _ _ _ => trivial⟩
theorem rread_g {at_ : Int} {xs : List UInt8} (hr : readR s at_ = (xs, err)) (h1 : Rd w S1 A1 c1 s.secs) (h2 : Rd w S2 A2 c2 s.waits) :
    Calls Try.prog 26 #[.agg #[.slice A1 s.secs.length c1, .slice A2 s.waits.length c2, .int .i64 s.cap], .int .i64 at_] w fun e w' => ∃ A c, e = .returned (.tuple #[.slice A xs.length c, .int .i64 err]) ∧ Below w.heap.size w w' ∧ Rd w' (fun _ _ => True) A c xs := by
  have h := (rread_any s at_ S1 S2 A1 A2 c1 c2 w h1 h2).mono fun e w' (h : ReadR (readR s at_) w e w') => (show ∃ A c, e = .returned (.tuple #[.slice A (readR s at_).1.length c, .int .i64 (readR s at_).2]) ∧ Below w.heap.size w w' ∧ Rd w' (fun _ _ => True) A c (readR s at_).1 from by
    obtain ⟨A, c, he, b, r⟩ := h
    exact ⟨A, c, he, b, r.mono fun _ _ _ => trivial⟩)
  rw [hr] at h
  exact h
theorem rlength_g {n : Int} (hr : (if ok3 s then size3 s else 0) = n) (he : err3 (ok3 s) = err) (h1 : Rd w S1 A1 c1 s.secs) (h2 : Rd w S2 A2 c2 s.waits) :
    Calls Try.prog 28 #[.agg #[.slice A1 s.secs.length c1, .slice A2 s.waits.length c2, .int .i64 s.cap]] w fun e w' => e = .returned (.tuple #[.int .i64 n, .int .i64 err]) ∧ Below w.heap.size w w' := by
  subst hr
  subst he
  exact rlength_any s S1 S2 A1 A2 c1 c2 w h1 h2
theorem check_g (he : err3 (ok3 s) = err) (h : Rs w S1 A1 c1 A2 c2 s) :
    Calls Try.prog 13 #[.agg #[.slice A1 s.secs.length c1, .slice A2 s.waits.length c2, .int .i64 s.cap]] w fun e w' => e = .returned (.int .i64 err) ∧ Below w.heap.size w w' := by
  subst he
  exact check_any s S1 S1 A1 A2 c1 c2 w h.secs h.waits
theorem rcheck_g (he : err3 (ok3 s) = err) (h1 : Rd w S1 A1 c1 s.secs) (h2 : Rd w S2 A2 c2 s.waits) :
    Calls Try.prog 29 #[.agg #[.slice A1 s.secs.length c1, .slice A2 s.waits.length c2, .int .i64 s.cap]] w fun e w' => e = .returned (.int .i64 err) ∧ Below w.heap.size w w' := by
  subst he
  exact rcheck_any s S1 S2 A1 A2 c1 c2 w h1 h2
end
theorem same_eq {w : World} {S1 S2 : FP} {A1 A2 : Option Addr} {c1 c2 : Nat} {xs : List UInt8} (h1 : Rd w S1 A1 c1 xs) (h2 : Rd w S2 A2 c2 xs) :
    Calls Try.prog 12 #[.slice A1 xs.length c1, .slice A2 xs.length c2] w fun e w' => e = .returned (.bool true) ∧ w = w' := by
  have h := same_bytes S1 S2 A1 A2 c1 c2 xs xs w h1 h2
  rw [beq_self_eq_true] at h
  exact h
set_option maxRecDepth 100000 in
set_option maxHeartbeats 4000000 in
theorem tells_any {s Y Z F C : St3} {at_ n ln : Int} {data xs : List UInt8} {keep : List Bool} {ey ez ec ex : Int} {S1 S2 S3 S4 : FP} {A1 A2 A3 A4 : Option Addr} {c1 c2 c3 c4 : Nat} {w : World} (HY : Hid (writeR s at_ data = (Y, ey))) (HZ : Hid (resizeR s n = (Z, ez))) (HF : Hid (flushR s = F)) (HC : Hid (crashR s keep = C)) (HE : Hid (err3 (ok3 s) = ec)) (HX : Hid (readR s at_ = (xs, ex))) (HL : Hid ((if ok3 s then size3 s else 0) = ln)) (ha : InK .i64 at_) (hn : InK .i64 n)
    (h1 : Rd w S1 A1 c1 s.secs) (h2 : Rd w S2 A2 c2 s.waits) (h3 : Rd w S3 A3 c3 data) (h4 : Rd w S4 A4 c4 keep) :
    Calls Try.prog 6 #[.agg #[.slice A1 s.secs.length c1, .slice A2 s.waits.length c2, .int .i64 s.cap], .int .i64 at_, .slice A3 data.length c3, .int .i64 n, .slice A4 keep.length c4] w fun e w' => e = .returned (.bool true) ∧ Below w.heap.size w w' := by
  have l1 := h1.len
  have l2 := h2.len
  have l3 := h3.len
  have l4 := h4.len
  have d : Below w.heap.size w (w.alloc (.cells #[.slice A1 s.secs.length c1, .slice A2 s.waits.length c2, .int .i64 s.cap] 25)) := below_alloc (Below.refl _ _) _
  have x := Bx.new w [.slice A1 s.secs.length c1, .slice A2 s.waits.length c2, .int .i64 s.cap] 25
  have kx := x.three
  go_enter Try.func6, Try.ntmps6
  have t1 : (ey != ey) = false := by simp
  have t2 : (ez != ez) = false := by simp
  have t3 : (ec != ec) = false := by simp
  go_wp2_with (first
    | (go_at_call 10; refine (of_g (h1.below d) (h2.below d)).mono ?_; rintro e w2 ⟨A5, c5, A6, c6, rfl, b, ro⟩; replace d := below_then d b; replace x := x.keep b)
    | (go_at_call 14; refine (copy_g (h3.below d)).mono ?_; rintro e w3 ⟨A7, c7, rfl, b, ri⟩; replace ro := ro.below b; replace b := below_alloc b (.cells #[.slice A5 s.secs.length c5, .slice A6 s.waits.length c6, .int .i64 s.cap] 30); replace d := below_then d b; replace x := x.keep b; have y := Bx.new w3 [.slice A5 s.secs.length c5, .slice A6 s.waits.length c6, .int .i64 s.cap] 30; replace ro := ro.alloc (.cells #[.slice A5 s.secs.length c5, .slice A6 s.waits.length c6, .int .i64 s.cap] 30); replace ri := ri.move (Kp.alloc w3 (.cells #[.slice A5 s.secs.length c5, .slice A6 s.waits.length c6, .int .i64 s.cap] 30) _); replace kx := x.three; have ky := y.three)
    | (go_at_call 15; ((with_reducible refine (write_g HY.out ha ro ri).mono ?_); rintro e w4 ⟨B8, f8, B9, f9, rfl, b, rr⟩; replace b := below_alloc b (.cells #[.slice B8 Y.secs.length f8, .slice B9 Y.waits.length f9, .int .i64 Y.cap] 30); replace d := below_then d b; replace x := x.keep b; replace y := y.keep b; replace ro := ro.below b; replace ri := ri.below b; replace kx := x.three; replace ky := y.three; have SA := Sv.mk' (T := 30) rr; clear rr b))
    | (go_at_call 16; ((with_reducible refine (rwrite_g HY.out ha (h1.below d) (h2.below d) (h3.below d)).mono ?_); rintro e w5 ⟨B10, f10, B11, f11, rfl, b, rr⟩; replace b := below_alloc b (.cells #[.slice B10 Y.secs.length f10, .slice B11 Y.waits.length f11, .int .i64 Y.cap] 25); replace d := below_then d b; replace x := x.keep b; replace y := y.keep b; replace ro := ro.below b; replace ri := ri.below b; replace SA := SA.below b; replace kx := x.three; replace ky := y.three; have SB := Sv.mk' (T := 25) rr; clear rr b))
    | (go_at_call 22; ((with_reducible refine (resize_g HZ.out hn ro).mono ?_); rintro e w6 ⟨B12, f12, B13, f13, rfl, b, rr⟩; replace b := below_alloc b (.cells #[.slice B12 Z.secs.length f12, .slice B13 Z.waits.length f13, .int .i64 Z.cap] 30); replace d := below_then d b; replace x := x.keep b; replace y := y.keep b; replace ro := ro.below b; replace ri := ri.below b; replace SA := SA.below b; replace SB := SB.below b; replace kx := x.three; replace ky := y.three; have SC := Sv.mk' (T := 30) rr; clear rr b))
    | (go_at_call 23; ((with_reducible refine (rresize_g HZ.out hn (h1.below d) (h2.below d)).mono ?_); rintro e w7 ⟨B14, f14, B15, f15, rfl, b, rr⟩; replace b := below_alloc b (.cells #[.slice B14 Z.secs.length f14, .slice B15 Z.waits.length f15, .int .i64 Z.cap] 25); replace d := below_then d b; replace x := x.keep b; replace y := y.keep b; replace ro := ro.below b; replace ri := ri.below b; replace SA := SA.below b; replace SB := SB.below b; replace SC := SC.below b; replace kx := x.three; replace ky := y.three; have SD := Sv.mk' (T := 25) rr; clear rr b))
    | (go_at_call 21; ((with_reducible refine (flush_g HF.out HE.out ro).mono ?_); rintro e w8 ⟨B16, f16, B17, f17, rfl, b, rr⟩; replace b := below_alloc b (.cells #[.slice B16 F.secs.length f16, .slice B17 F.waits.length f17, .int .i64 F.cap] 30); replace d := below_then d b; replace x := x.keep b; replace y := y.keep b; replace ro := ro.below b; replace ri := ri.below b; replace SA := SA.below b; replace SB := SB.below b; replace SC := SC.below b; replace SD := SD.below b; replace kx := x.three; replace ky := y.three; have SP := Sv.mk' (T := 30) rr; clear rr b))
    | (go_at_call 24; ((with_reducible refine (rflush_g HF.out HE.out (h1.below d) (h2.below d)).mono ?_); rintro e w9 ⟨B18, f18, B19, f19, rfl, b, rr⟩; replace b := below_alloc b (.cells #[.slice B18 F.secs.length f18, .slice B19 F.waits.length f19, .int .i64 F.cap] 25); replace d := below_then d b; replace x := x.keep b; replace y := y.keep b; replace ro := ro.below b; replace ri := ri.below b; replace SA := SA.below b; replace SB := SB.below b; replace SC := SC.below b; replace SD := SD.below b; replace SP := SP.below b; replace kx := x.three; replace ky := y.three; have SQ := Sv.mk' (T := 25) rr; clear rr b))
    | (go_at_call 9; ((with_reducible refine (crash_g HC.out HE.out ro (h4.below d)).mono ?_); rintro e w10 ⟨B20, f20, B21, f21, rfl, b, rr⟩; replace b := below_alloc b (.cells #[.slice B20 C.secs.length f20, .slice B21 C.waits.length f21, .int .i64 C.cap] 30); replace d := below_then d b; replace x := x.keep b; replace y := y.keep b; replace ro := ro.below b; replace ri := ri.below b; replace SA := SA.below b; replace SB := SB.below b; replace SC := SC.below b; replace SD := SD.below b; replace SP := SP.below b; replace SQ := SQ.below b; replace kx := x.three; replace ky := y.three; have SU := Sv.mk' (T := 30) rr; clear rr b))
    | (go_at_call 17; ((with_reducible refine (rcrash_g HC.out HE.out (h1.below d) (h2.below d) (h4.below d)).mono ?_); rintro e w11 ⟨B22, f22, B23, f23, rfl, b, rr⟩; replace b := below_alloc b (.cells #[.slice B22 C.secs.length f22, .slice B23 C.waits.length f23, .int .i64 C.cap] 25); replace d := below_then d b; replace x := x.keep b; replace y := y.keep b; replace ro := ro.below b; replace ri := ri.below b; replace SA := SA.below b; replace SB := SB.below b; replace SC := SC.below b; replace SD := SD.below b; replace SP := SP.below b; replace SQ := SQ.below b; replace SU := SU.below b; replace kx := x.three; replace ky := y.three; have SV := Sv.mk' (T := 25) rr; clear rr b))
    | (go_at_call 25; ((with_reducible refine (read_g HX.out ha ro).mono ?_); rintro e w12 ⟨A8, c8, rfl, b, rx⟩; replace d := below_then d b; replace x := x.keep b; replace y := y.keep b; replace ro := ro.below b; replace ri := ri.below b; replace SA := SA.below b; replace SB := SB.below b; replace SC := SC.below b; replace SD := SD.below b; replace SP := SP.below b; replace SQ := SQ.below b; replace SU := SU.below b; replace SV := SV.below b; replace kx := x.three; replace ky := y.three; clear b))
    | (go_at_call 26; ((with_reducible refine (rread_g HX.out (h1.below d) (h2.below d)).mono ?_); rintro e w13 ⟨A9, c9, rfl, b, ry⟩; replace d := below_then d b; replace x := x.keep b; replace y := y.keep b; replace ro := ro.below b; replace ri := ri.below b; replace SA := SA.below b; replace SB := SB.below b; replace SC := SC.below b; replace SD := SD.below b; replace SP := SP.below b; replace SQ := SQ.below b; replace SU := SU.below b; replace SV := SV.below b; replace rx := rx.below b; replace kx := x.three; replace ky := y.three; clear b))
    | (go_at_call 27; ((with_reducible refine (length_to HL.out HE.out ro.secs ro.waits).mono ?_); rintro e w14 ⟨rfl, b⟩; replace d := below_then d b; replace x := x.keep b; replace y := y.keep b; replace ro := ro.below b; replace ri := ri.below b; replace SA := SA.below b; replace SB := SB.below b; replace SC := SC.below b; replace SD := SD.below b; replace SP := SP.below b; replace SQ := SQ.below b; replace SU := SU.below b; replace SV := SV.below b; replace rx := rx.below b; replace ry := ry.below b; replace kx := x.three; replace ky := y.three; clear b))
    | (go_at_call 28; ((with_reducible refine (rlength_g HL.out HE.out (h1.below d) (h2.below d)).mono ?_); rintro e w15 ⟨rfl, b⟩; replace d := below_then d b; replace x := x.keep b; replace y := y.keep b; replace ro := ro.below b; replace ri := ri.below b; replace SA := SA.below b; replace SB := SB.below b; replace SC := SC.below b; replace SD := SD.below b; replace SP := SP.below b; replace SQ := SQ.below b; replace SU := SU.below b; replace SV := SV.below b; replace rx := rx.below b; replace ry := ry.below b; replace kx := x.three; replace ky := y.three; have ka := SA.box.three; have kb := SB.box.three; clear b))
    | (go_at_call 20; ((with_reducible refine (alike_g SA.rs SB.rs).mono ?_); rintro e w16 ⟨rfl, b⟩; replace d := below_then d b; replace x := x.keep b; replace y := y.keep b; replace ro := ro.below b; replace ri := ri.below b; replace SA := SA.below b; replace SB := SB.below b; replace SC := SC.below b; replace SD := SD.below b; replace SP := SP.below b; replace SQ := SQ.below b; replace SU := SU.below b; replace SV := SV.below b; replace rx := rx.below b; replace ry := ry.below b; replace kx := x.three; replace ky := y.three; replace ka := SC.box.three; replace kb := SD.box.three; clear b))
    | (go_at_call 20; ((with_reducible refine (alike_g SC.rs SD.rs).mono ?_); rintro e w17 ⟨rfl, b⟩; replace d := below_then d b; replace x := x.keep b; replace y := y.keep b; replace ro := ro.below b; replace ri := ri.below b; replace SA := SA.below b; replace SB := SB.below b; replace SC := SC.below b; replace SD := SD.below b; replace SP := SP.below b; replace SQ := SQ.below b; replace SU := SU.below b; replace SV := SV.below b; replace rx := rx.below b; replace ry := ry.below b; replace kx := x.three; replace ky := y.three; replace ka := SP.box.three; replace kb := SQ.box.three; clear b))
    | (go_at_call 20; ((with_reducible refine (alike_g SP.rs SQ.rs).mono ?_); rintro e w18 ⟨rfl, b⟩; replace d := below_then d b; replace x := x.keep b; replace y := y.keep b; replace ro := ro.below b; replace ri := ri.below b; replace SA := SA.below b; replace SB := SB.below b; replace SC := SC.below b; replace SD := SD.below b; replace SP := SP.below b; replace SQ := SQ.below b; replace SU := SU.below b; replace SV := SV.below b; replace rx := rx.below b; replace ry := ry.below b; replace kx := x.three; replace ky := y.three; replace ka := SU.box.three; replace kb := SV.box.three; clear b))
    | (go_at_call 20; ((with_reducible refine (alike_g SU.rs SV.rs).mono ?_); rintro e w19 ⟨rfl, b⟩; replace d := below_then d b; replace x := x.keep b; replace y := y.keep b; replace ro := ro.below b; replace ri := ri.below b; replace SA := SA.below b; replace SB := SB.below b; replace SC := SC.below b; replace SD := SD.below b; replace SP := SP.below b; replace SQ := SQ.below b; replace SU := SU.below b; replace SV := SV.below b; replace rx := rx.below b; replace ry := ry.below b; replace kx := x.three; replace ky := y.three; clear ka kb SA SB SC SD SP SQ SU SV; clear b))
    | (go_at_call 11; refine (num_any _ _).mono ?_; rintro e w' ⟨rfl, rfl⟩))
  replace d := d.drew
  replace x := x.drew
  replace y := y.drew
  replace ro : Rs _ _ A5 c5 A6 c6 s := ⟨ro.secs.move (Kp.drewN _ 1 _), ro.waits.move (Kp.drewN _ 1 _)⟩
  replace rx := rx.move (Kp.drewN _ 1 _)
  replace ry := ry.move (Kp.drewN _ 1 _)
  have t4 : (ex == ex) = true := by simp
  have t5 : (ln == ln) = true := by simp
  have t6 : (ec == ec) = true := by simp
  go_region_held3 (fun W => (W.cell? ⟨w.heap.size, 0, none⟩ = some (.slice A1 s.secs.length c1) ∧ W.cell? ⟨w.heap.size, 1, none⟩ = some (.slice A2 s.waits.length c2) ∧ W.cell? ⟨w.heap.size, 2, none⟩ = some (.int .i64 s.cap)) ∧ W.cell? ⟨w3.heap.size, 0, none⟩ = some (.slice A5 s.secs.length c5) ∧ W.cell? ⟨w3.heap.size, 1, none⟩ = some (.slice A6 s.waits.length c6) ∧ W.cell? ⟨w3.heap.size, 2, none⟩ = some (.int .i64 s.cap)) (go_keep)
    (first
    | (go_at_call 12; refine (same_eq rx ry).mono ?_; rintro e w' ⟨rfl, rfl⟩)
    | (go_at_call 11; refine (num_any _ _).mono ?_; rintro e w' ⟨rfl, rfl⟩)
    | (go_at_call 13; refine (check_g HE.out ro).mono ?_; rintro e w20 ⟨rfl, b⟩; replace d := below_then d b; replace x := x.keep b; replace y := y.keep b; replace ro := ro.below b; replace rx := rx.below b; replace ry := ry.below b; replace kx := x.three; replace ky := y.three; clear b)
    | (go_at_call 29; refine (rcheck_g HE.out (h1.below d) (h2.below d)).mono ?_; rintro e w21 ⟨rfl, b⟩; replace d := below_then d b; replace x := x.keep b; replace y := y.keep b; replace ro := ro.below b; replace rx := rx.below b; replace ry := ry.below b; replace kx := x.three; replace ky := y.three; clear b)
    | (go_at_call 20; refine (alike_g ro ⟨(h1.below d).mono (S' := fun _ _ => True) (fun _ _ _ => trivial), (h2.below d).mono (fun _ _ _ => trivial)⟩).mono ?_; rintro e w22 ⟨rfl, b⟩; replace d := below_then d b; replace x := x.keep b; replace y := y.keep b; replace ro := ro.below b; replace rx := rx.below b; replace ry := ry.below b; replace kx := x.three; replace ky := y.three; clear b)
    | (go_at_call 8; refine (alive_any _).mono ?_; rintro e w23 ⟨rfl, b⟩; replace d := below_then d b; replace x := x.keep b; replace y := y.keep b; replace ro := ro.below b; replace rx := rx.below b; replace ry := ry.below b; replace kx := x.three; replace ky := y.three; clear b))
  all_goals (go_wp2; go_ret; exact ⟨rfl, d⟩)
end Go.Proofs.Ytfmmbkggamojkaa
