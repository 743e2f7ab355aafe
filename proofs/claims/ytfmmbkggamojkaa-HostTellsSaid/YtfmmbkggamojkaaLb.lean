/- The statements' own example: it is as it says, in whatever memory. No condition. -/
import Derived.Test.YtfmmbkggamojkaaLa
set_option linter.unusedVariables false
set_option linter.unusedSimpArgs false
namespace Go.Proofs.Ytfmmbkggamojkaa
open Go.RowKit

theorem Ow.rdS {α : Type} [Rep α] {w : World} {e : TypeId} {S : FP} {A : Option Addr} {c : Nat} {xs : List α} (o : Ow w e S (.slice A xs.length c) xs) : Rd w S A c xs := by
  obtain ⟨A', c', h, r⟩ := o.rd
  injection h with h1 h2 h3
  subst h1
  subst h3
  exact r
/-- The example's states. -/
def one3 : List UInt8 := 1 :: List.replicate 63 0
def E1 : St3 := ⟨[], [], 4⟩
def E2 : St3 := ⟨[], [⟨2, 2, []⟩], 4⟩
def E3 : St3 := ⟨[zero3, zero3], [], 4⟩
def E4 : St3 := ⟨[zero3, zero3], [⟨1, 1, one3⟩], 4⟩
theorem e_new : newR 4 = (E1, 0) := by rfl
theorem e_resize : resizeR E1 2 = (E2, 0) := by rfl
theorem e_flush : (flushR E2, err3 (ok3 E2)) = (E3, 0) := by rfl
theorem e_write : writeR E3 1 one3 = (E4, 0) := by rfl
theorem e_crash : (crashR E4 [], err3 (ok3 E4)) = (E3, 0) := by rfl
theorem e_read : readR E4 1 = (one3, 0) := by rfl

theorem new_a (w : World) : Calls Try.prog 30 #[.int .i64 4] w (RetSt E1 0 w) := by
  have h := new_any 4 w
  rw [e_new] at h
  exact h
section
variable {S1 S2 S3 : FP} {A1 A2 A3 : Option Addr} {c1 c2 c3 : Nat} {w : World}
theorem resize_a (o1 : Ow w 36 S1 (.slice A1 E1.secs.length c1) E1.secs) (o2 : Ow w 49 S2 (.slice A2 E1.waits.length c2) E1.waits) :
    Calls Try.prog 22 #[.agg #[.slice A1 E1.secs.length c1, .slice A2 E1.waits.length c2, .int .i64 E1.cap], .int .i64 2] w (RetSt E2 0 w) := by
  have h := resize_any E1 2 (show (Lit.int .i64 2).wf = true by decide) S1 S2 A1 A2 c1 c2 w o1.rdS o2.rdS
  rw [e_resize] at h
  exact h
theorem flush_a (o1 : Ow w 36 S1 (.slice A1 E2.secs.length c1) E2.secs) (o2 : Ow w 49 S2 (.slice A2 E2.waits.length c2) E2.waits) :
    Calls Try.prog 21 #[.agg #[.slice A1 E2.secs.length c1, .slice A2 E2.waits.length c2, .int .i64 E2.cap]] w (RetSt E3 0 w) := by
  have h := flush_any E2 S1 S2 A1 A2 c1 c2 w o1.rdS o2.rdS
  have e := e_flush
  simp only [Prod.mk.injEq] at e
  rw [e.1, e.2] at h
  exact h
theorem write_a (o1 : Ow w 36 S1 (.slice A1 E3.secs.length c1) E3.secs) (o2 : Ow w 49 S2 (.slice A2 E3.waits.length c2) E3.waits) (h3 : Rd w S3 A3 c3 one3) :
    Calls Try.prog 15 #[.agg #[.slice A1 E3.secs.length c1, .slice A2 E3.waits.length c2, .int .i64 E3.cap], .int .i64 1, .slice A3 64 c3] w (RetSt E4 0 w) := by
  have h := write_any E3 1 (show (Lit.int .i64 1).wf = true by decide) one3 S1 S2 S3 A1 A2 A3 c1 c2 c3 w o1.rdS o2.rdS h3
  rw [e_write] at h
  exact h
theorem crash_a (o1 : Ow w 36 S1 (.slice A1 E4.secs.length c1) E4.secs) (o2 : Ow w 49 S2 (.slice A2 E4.waits.length c2) E4.waits) :
    Calls Try.prog 9 #[.agg #[.slice A1 E4.secs.length c1, .slice A2 E4.waits.length c2, .int .i64 E4.cap], .slice none 0 0] w (RetSt E3 0 w) := by
  have h := crash_any E4 [] S1 S2 (fun _ _ => False) A1 A2 none c1 c2 0 w o1.rdS o2.rdS (Rd.nil _ _ _ _)
  have e := e_crash
  simp only [Prod.mk.injEq] at e
  rw [e.1, e.2] at h
  exact h
theorem read_a (o1 : Ow w 36 S1 (.slice A1 E4.secs.length c1) E4.secs) (o2 : Ow w 49 S2 (.slice A2 E4.waits.length c2) E4.waits) :
    Calls Try.prog 25 #[.agg #[.slice A1 E4.secs.length c1, .slice A2 E4.waits.length c2, .int .i64 E4.cap], .int .i64 1] w (ReadEnd (one3, 0) w) := by
  have h := read_any E4 1 (show (Lit.int .i64 1).wf = true by decide) S1 S2 A1 A2 c1 c2 w o1.rdS o2.rdS
  rw [e_read] at h
  exact h
end
theorem Ow.old {α : Type} [Rep α] {w : World} {e : TypeId} {S : FP} {v : Value} {xs : List α} (o : Ow w e S v xs) : Ow w e (fun b t => S b t ∧ b < w.heap.size) v xs := o.move fun b t c hs hb => ⟨⟨hs, (Array.getElem?_eq_some_iff.1 hb).1⟩, hb⟩
theorem Bx.rd {w : World} {g : Nat} {e : TypeId} {xs : List UInt8} {n : Nat} (x : Bx w g (bcs xs) e) (hn : xs.length = n) (hm : n ≤ 140737488351232) : Rd w (fun _ _ => True) (some ⟨g, 0, none⟩) n xs := by
  subst hn
  exact (x.ow rfl hm trivial).rdS
theorem Bx.made1 (W : World) (e : TypeId) : Bx (W.alloc (.cells ((madeCells #[.int .u8 0] 64).setIfInBounds 0 (.int .u8 1)) e)) W.heap.size (bcs one3) e := by
  have : (madeCells #[Value.int .u8 0] 64).setIfInBounds 0 (.int .u8 1) = (bcs one3).toArray := by
    apply Array.ext'
    rw [Array.toList_setIfInBounds, made_zero]
    rfl
  rw [this]
  exact Bx.new W _ e
set_option maxHeartbeats 1000000 in
theorem alive_any (w : World) : Calls Try.prog 8 #[] w fun e w' => e = .returned (.bool true) ∧ Below w.heap.size w w' := by
  have hmk : ∀ W : World, (Instr.makeSlice 36 (.int .i64 64) (.int .i64 64)).run Try.prog W = .ok (.slice (some ⟨W.heap.size, 0, none⟩) 64 64) (W.alloc (.cells (madeCells #[.int .u8 0] 64) 5)) := fun W => run_make_row' (P := Try.prog) 36 5 (.int .u8 0) 1 Try.underlying36 info5 rfl .i64 .i64 64 (by decide) (by decide) W
  go_enter Try.func8, Try.ntmps8
  go_wp2_with (first
    | (go_at_call 30; refine (new_a _).mono ?_; rintro e w1 ⟨A1, c1, A2, c2, rfl, b1, o1, o2⟩; have x1 := Bx.new w1 [.slice A1 E1.secs.length c1, .slice A2 E1.waits.length c2, .int .i64 E1.cap] 30; have k1 := x1.three)
    | (go_at_call 22; refine (resize_a (o1.move (Kp.alloc _ _ _)) (o2.move (Kp.alloc _ _ _))).mono ?_; rintro e w2 ⟨A3, c3, A4, c4, rfl, b2, o3, o4⟩; have x2 := x1.keep b2; have k2 := x2.three)
    | (go_at_call 21; refine (flush_a (o3.move (Kp.box3 x2 frS_ne _ _ _)) (o4.move (Kp.box3 x2 frA_ne _ _ _))).mono ?_; rintro e w3 ⟨A5, c5, A6, c6, rfl, b3, o5, o6⟩; have x3 := (((x2.set_ 0 (.slice A3 E2.secs.length c3)).set_ 1 (.slice A4 E2.waits.length c4)).set_ 2 (.int .i64 E2.cap)).keep b3; have k3 := x3.three;
       have m4 := Bx.made (((w3.setCell ⟨w1.heap.size, 0, none⟩ (.slice A5 E3.secs.length c5)).setCell ⟨w1.heap.size, 1, none⟩ (.slice A6 E3.waits.length c6)).setCell ⟨w1.heap.size, 2, none⟩ (.int .i64 E3.cap)) 5; have m5 := Bx.made1 (((w3.setCell ⟨w1.heap.size, 0, none⟩ (.slice A5 E3.secs.length c5)).setCell ⟨w1.heap.size, 1, none⟩ (.slice A6 E3.waits.length c6)).setCell ⟨w1.heap.size, 2, none⟩ (.int .i64 E3.cap)) 5; simp only [World.size_setCell] at m4 m5; have km := m4.cell 0 (by rw [bcs_len]; decide); have kf := m4.frozen 0; have hl3 := x3.lt;
       have x5 := (((x3.set_ 0 (.slice A5 E3.secs.length c5)).set_ 1 (.slice A6 E3.waits.length c6)).set_ 2 (.int .i64 E3.cap)).alloc (.cells ((madeCells #[.int .u8 0] 64).setIfInBounds 0 (.int .u8 1)) 5); have k5 := x5.three)
    | (go_at_call 15; go_loud (refine (write_a ((o5.move (Kp.box3 x3 frS_ne _ _ _)).move (Kp.alloc _ _ _)) ((o6.move (Kp.box3 x3 frA_ne _ _ _)).move (Kp.alloc _ _ _)) (m5.rd (n := 64) rfl (by decide))).mono ?_); rintro e w4 ⟨A7, c7, A8, c8, rfl, b4, o7, o8⟩; have x6 := Bx.new w4 [.slice A7 E4.secs.length c7, .slice A8 E4.waits.length c8, .int .i64 E4.cap] 30; have k6 := x6.three; clear k1 k2 k3 k5 km kf)
    | (go_at_call 9; go_loud (refine (crash_a (o7.move (Kp.alloc _ _ _)) (o8.move (Kp.alloc _ _ _))).mono ?_); rintro e w5 ⟨A9, c9, A10, c10, rfl, b5, o9, o10⟩; have x7 := (x6.keep b5).alloc (.cells #[.slice A9 E3.secs.length c9, .slice A10 E3.waits.length c10, .int .i64 E3.cap] 30); have k7 := x7.three; have x8 := Bx.new w5 [.slice A9 E3.secs.length c9, .slice A10 E3.waits.length c10, .int .i64 E3.cap] 30)
    | (go_at_call 25; go_loud (refine (read_a (((o7.move (Kp.alloc _ _ _)).below b5).move (Kp.alloc _ _ _)) (((o8.move (Kp.alloc _ _ _)).below b5).move (Kp.alloc _ _ _))).mono ?_); rintro e w6 ⟨v, rfl, b6, ov⟩; obtain ⟨A11, c11, rfl, rv⟩ := ov.rd; have k9 := (x8.keep b6).three; obtain ⟨ad, u, rfl, hc, A', c', hv, hr⟩ := ((o9.move (Kp.alloc _ _ _)).below b6).rdS.at1 rfl 1 (by decide); obtain ⟨ad2, u2, rfl, hc2, hv2⟩ := hr.at1 rfl 0 (by decide); obtain ⟨ad3, u3, rfl, hc3, hv3⟩ := rv.at1 rfl 0 (by decide); simp only [Rep.has, List.cons.injEq, and_true] at hv hv2 hv3; subst hv; subst hv2; subst hv3; have hd3 : w6.cell? ad3 = some (.int .u8 1) := hc3; have hd2 : w6.cell? ad2 = some (.int .u8 0) := hc2; have hd1 : w6.cell? ⟨ad.block, ad.off + 1, none⟩ = some (.slice (some ad2) 64 c') := hc; clear hc hc2 hc3; have hE : E3.secs.length = 2 := rfl; have hF : one3.length = 64 := rfl; have hG : (E3.secs[1]'(by decide)).length = 64 := rfl)
    | (go_at_call 11; refine (num_any _ _).mono ?_; rintro e w' ⟨rfl, rfl⟩))
  go_ret
  have hw : w.heap.size ≤ w1.heap.size := b1.size
  have d3 := below_then ((((below_then (below_alloc b1 _) b2).setCell (p := ⟨w1.heap.size, 0, none⟩) hw _).setCell (p := ⟨w1.heap.size, 1, none⟩) hw _).setCell (p := ⟨w1.heap.size, 2, none⟩) hw _) b3
  have d4 := below_then (below_alloc (((d3.setCell (p := ⟨w1.heap.size, 0, none⟩) hw _).setCell (p := ⟨w1.heap.size, 1, none⟩) hw _).setCell (p := ⟨w1.heap.size, 2, none⟩) hw _) _) b4
  exact ⟨rfl, below_then (below_alloc (below_then (below_alloc d4 _) b5) _) b6⟩
end Go.Proofs.Ytfmmbkggamojkaa
