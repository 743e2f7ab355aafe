/- HostKeeps: the walk. No condition but that the arguments read. -/
import Derived.Test.YtfmmbkggamojkaaLb
import Derived.Test.YtfmmbkggamojkaaP4
set_option linter.unusedVariables false
set_option linter.unusedSimpArgs false
namespace Go.Proofs.Ytfmmbkggamojkaa
open Go.RowKit

/-- What the round has found of sector i, k acts looked at. -/
def keptB (s : St3) (i : Nat) (x : List UInt8) (k : Nat) : Bool := ((x == zero3) || (decide (i < s.secs.length) && x == s.secs.getD i [])) || (s.waits.take k).any fun a => decide (a.what = 1) && decide (a.at_ = i) && x == a.data
theorem keptB_all {s : St3} {i : Nat} {x : List UInt8} (h : Kept s i x) : keptB s i x s.waits.length = true := by
  unfold keptB
  rw [List.take_length]
  rcases h with h | ⟨hi, h⟩ | ⟨a, ha, h1, h2, h3⟩
  · simp [h]
  · subst h; simp [hi]
  · have : (s.waits.any fun a => decide (a.what = 1) && decide (a.at_ = i) && x == a.data) = true := List.any_eq_true.2 ⟨a, ha, by simp [h1, h2, h3]⟩
    rw [this, Bool.or_true]
theorem keptB_next {s : St3} {i : Nat} {x : List UInt8} {k : Nat} (h : k < s.waits.length) : keptB s i x (k + 1) = (keptB s i x k || (decide (s.waits[k].what = 1) && decide (s.waits[k].at_ = i) && x == s.waits[k].data)) := by
  unfold keptB
  rw [List.take_succ_eq_append_getElem h, List.any_append]
  simp [Bool.or_assoc]
/-- What stands behind some rounds. -/
def KInv (w w2 w3 : World) (s r : St3) (A1 A2 A6 A7 : Option Addr) (c1 c2 c6 c7 : Nat) (wr : World) : Prop := Bx wr w.heap.size [.slice A1 s.secs.length c1, .slice A2 s.waits.length c2, .int .i64 s.cap] 25 ∧ Bx wr w3.heap.size [.slice A6 r.secs.length c6, .slice A7 r.waits.length c7, .int .i64 r.cap] 30 ∧ Below w.heap.size w wr ∧ Rd wr (FrS w2) A6 c6 r.secs ∧ Rd wr (FrA w2) A7 c7 r.waits
theorem KInv.below {w w2 w3 : World} {s r : St3} {A1 A2 A6 A7 : Option Addr} {c1 c2 c6 c7 : Nat} {wr w' : World} (h : KInv w w2 w3 s r A1 A2 A6 A7 c1 c2 c6 c7 wr) (b : Below wr.heap.size wr w') : KInv w w2 w3 s r A1 A2 A6 A7 c1 c2 c6 c7 w' :=
  ⟨h.1.keep b, h.2.1.keep b, below_then h.2.2.1 b, h.2.2.2.1.below b, h.2.2.2.2.below b⟩
theorem same_zero (S1 : FP) {S2 : FP} (A1 : Option Addr) (ad : Addr) (c1 : Nat) (xs : List UInt8) (w : World) (h1 : Rd w S1 A1 c1 xs) (h2 : Rd w S2 (some ad) 64 zero3) :
    Calls Try.prog 12 #[.slice A1 xs.length c1, .slice (some ad) 64 64] w fun e w' => e = .returned (.bool (xs == zero3)) ∧ w = w' := same_bytes S1 S2 A1 (some ad) c1 64 xs zero3 w h1 h2
set_option maxRecDepth 4000 in
set_option maxHeartbeats 1000000 in
theorem keeps_any (s : St3) (keep : List Bool) (S1 S2 S3 : FP) (A1 A2 A3 : Option Addr) (c1 c2 c3 : Nat) (w : World) (h1 : Rd w S1 A1 c1 s.secs) (h2 : Rd w S2 A2 c2 s.waits) (h3 : Rd w S3 A3 c3 keep) :
    Calls Try.prog 3 #[.agg #[.slice A1 s.secs.length c1, .slice A2 s.waits.length c2, .int .i64 s.cap], .slice A3 keep.length c3] w fun e w' => e = .returned (.bool true) ∧ Below w.heap.size w w' := by
  have l1 := h1.len
  have l2 := h2.len
  have l3 := h3.len
  have b0 : Below w.heap.size w (w.alloc (.cells #[.slice A1 s.secs.length c1, .slice A2 s.waits.length c2, .int .i64 s.cap] 25)) := below_alloc (Below.refl _ _) _
  have x0 := Bx.new w [.slice A1 s.secs.length c1, .slice A2 s.waits.length c2, .int .i64 s.cap] 25
  by_cases hok : ok3 s = true
  · have he : err3 (ok3 s) = 0 := by rw [hok]; rfl
    have hr : crashR s keep = crash3 s keep := by rw [crashR, if_pos hok]
    have HE := Lib.hid he
    have HR := Lib.hid hr
    have HO := Lib.hid hok
    obtain ⟨r, hrr⟩ : ∃ r, r = crash3 s keep := ⟨_, rfl⟩
    have HRR := Lib.hid hrr
    clear hok he hr hrr
    go_enter Try.func3, Try.ntmps3
    go_wp2_with (first
      | (go_at_call 8; refine (alive_any _).mono ?_; rintro e w1 ⟨rfl, b1⟩; have x1 := x0.keep b1; have k1 := x1.three; have d1 := below_then b0 b1)
      | (go_at_call 10; refine (of_any s S1 S2 A1 A2 c1 c2 _ (h1.below d1) (h2.below d1)).mono ?_; rintro e w2 ⟨A4, c4, A5, c5, rfl, b2, o1, o2⟩; have d2 := below_then d1 b2)
      | (go_at_call 9; refine (crash_any s keep (FrS w1) (FrA w1) S3 A4 A5 A3 c4 c5 c3 _ o1.rdS o2.rdS (h3.below d2)).mono ?_; rw [HE.out, HR.out, ← HRR.out]; rintro e w3 ⟨A6, c6, A7, c7, rfl, b3, o3, o4⟩; have d3 := below_then d2 b3; have x3 := ((x1.keep b2).keep b3).alloc (.cells #[.slice A6 r.secs.length c6, .slice A7 r.waits.length c7, .int .i64 r.cap] 30); have y3 := Bx.new w3 [.slice A6 r.secs.length c6, .slice A7 r.waits.length c7, .int .i64 r.cap] 30; have d4 := below_alloc d3 (.cells #[.slice A6 r.secs.length c6, .slice A7 r.waits.length c7, .int .i64 r.cap] 30); have r3 := o3.rdS.move (Kp.alloc w3 (.cells #[.slice A6 r.secs.length c6, .slice A7 r.waits.length c7, .int .i64 r.cap] 30) _); have r4 := o4.rdS.move (Kp.alloc w3 (.cells #[.slice A6 r.secs.length c6, .slice A7 r.waits.length c7, .int .i64 r.cap] 30) _))
      | (go_at_call 11; refine (num_any _ _).mono ?_; rintro e w' ⟨rfl, rfl⟩))
    have st : Hid (Bx _ w.heap.size _ 25 ∧ Bx _ w3.heap.size _ 30 ∧ Below w.heap.size w _ ∧ Rd _ _ A6 c6 r.secs ∧ Rd _ _ A7 c7 r.waits) := ⟨x3, y3, d4, r3, r4⟩
    clear x3 y3 d4 r3 r4 o3 o4 b3 o1 o2 b2 b1 x1 k1 d1 d2 x0 b0
    have hmk : ∀ W : World, (Instr.makeSlice 36 (.int .i64 64) (.int .i64 64)).run Try.prog W = .ok (.slice (some ⟨W.heap.size, 0, none⟩) 64 64) (W.alloc (.cells (madeCells #[.int .u8 0] 64) 5)) := fun W => run_make_row' (P := Try.prog) 36 5 (.int .u8 0) 1 Try.underlying36 info5 rfl .i64 .i64 64 (by decide) (by decide) W
    go_loopw [7, 8, 9, 10] (fun i _ _ _ wr => ∃ k : Nat, k ≤ r.secs.length ∧ i = .int .i64 k ∧ Hid (KInv w w2 w3 s r A1 A2 A6 A7 c1 c2 c6 c7 wr)) (fun i _ _ _ _ => r.secs.length - (intOf i).toNat)
    case atStart => exact ⟨0, Nat.zero_le _, rfl, st⟩
    case round =>
      clear st
      obtain ⟨k, hk, rfl, hinv⟩ := hrel
      obtain ⟨x, y, d, rd, rw4⟩ := id hinv.out
      have kx := x.three
      have ky := y.three
      by_cases hlt : k < r.secs.length
      · obtain ⟨ad, v, rfl, hc, A8, c8, hv, hr8⟩ := rd.at1 rfl k hlt
        simp only [List.cons.injEq, and_true] at hv
        subst hv
        have hall : AllKept s r.secs := by rw [HRR.out]; exact crash_kept HO.out keep
        have HKk := Lib.hid (hall k hlt).1
        clear hall
        go_upto_region 10 with fail
        go_cut [9] from 26 to 95 (fun ok wx => ok = .bool (keptB s k r.secs[k] 0) ∧ Hid (KInv w w2 w3 s r A1 A2 (some ad) A7 c1 c2 c6 c7 wx ∧ Rd wx (FrS w2) A8 c8 r.secs[k]))
        case first =>
          have ba := below_alloc (Below.refl _ wr) (.cells (madeCells #[.int .u8 0] 64) 5)
          have mz := (Bx.made wr 5).rd (n := 64) (by simp [zero3]) (by decide)
          have kxa := (x.keep ba).three
          have kya := (y.keep ba).three
          cases e1 : (r.secs[k] == zero3)
          · by_cases e2 : k < s.secs.length
            · obtain ⟨ad5, v5, rfl, hc5, A9, c9, hv5, hr9⟩ := (h1.below (below_then d ba)).at1 rfl k e2
              simp only [List.cons.injEq, and_true] at hv5
              subst hv5
              have hkb : keptB s k r.secs[k] 0 = (r.secs[k] == s.secs[k]) := by simp [keptB, e1, e2]
              have HKB := Lib.hid hkb
              have E1 := Lib.hid e1
              clear hkb e1
              go_wp2_with (first
                | (go_at_call 12; ((with_reducible refine (same_zero (FrS w2) A8 ⟨wr.heap.size, 0, none⟩ c8 r.secs[k] _ (hr8.below ba) mz).mono ?_); rintro e w' ⟨rfl, rfl⟩; rw [E1.out]))
                | (go_at_call 12; ((with_reducible refine (same_bytes (FrS w2) S1 A8 A9 c8 c9 r.secs[k] s.secs[k] _ (hr8.below ba) hr9).mono ?_); rintro e w' ⟨rfl, rfl⟩)))
              go_meet
              case rel => exact ⟨by rw [HKB.out], hinv.out.below ba, hr8.below ba⟩
            · have hkb : keptB s k r.secs[k] 0 = false := by simp [keptB, e1, e2]
              have HKB := Lib.hid hkb
              have E1 := Lib.hid e1
              clear hkb e1
              go_wp2_with (first
                | (go_at_call 12; ((with_reducible refine (same_zero (FrS w2) A8 ⟨wr.heap.size, 0, none⟩ c8 r.secs[k] _ (hr8.below ba) mz).mono ?_); rintro e w' ⟨rfl, rfl⟩; rw [E1.out])))
              go_meet
              case rel => exact ⟨by rw [HKB.out], hinv.out.below ba, hr8.below ba⟩
          · have hkb : keptB s k r.secs[k] 0 = true := by simp [keptB, e1]
            have HKB := Lib.hid hkb
            have E1 := Lib.hid e1
            clear hkb e1
            go_wp2_with (first
              | (go_at_call 12; ((with_reducible refine (same_zero (FrS w2) A8 ⟨wr.heap.size, 0, none⟩ c8 r.secs[k] _ (hr8.below ba) mz).mono ?_); rintro e w' ⟨rfl, rfl⟩; rw [E1.out])))
            go_meet
            case rel => exact ⟨by rw [HKB.out], hinv.out.below ba, hr8.below ba⟩
        case rest =>
          obtain ⟨rfl, hinv2⟩ := hcut
          clear x y d rd rw4 kx ky hinv hc hr8
          obtain ⟨wo, hwo⟩ : ∃ wo : World, wo = wr := ⟨_, rfl⟩
          subst hwo
          obtain ⟨wp, hwp⟩ : ∃ wp : World, wp = wc := ⟨_, rfl⟩
          subst hwp
          go_wp2_with fail
          go_loopg [9, 10] s.waits.length (fun g ok kk wl => ∃ j : Nat, j ≤ s.waits.length ∧ g = s.waits.length - j ∧ kk = .int .i64 j ∧ ok = .bool (keptB s k r.secs[k] j) ∧ Hid (KInv w w2 w3 s r A1 A2 (some ad) A7 c1 c2 c6 c7 wl ∧ Rd wl (FrS w2) A8 c8 r.secs[k]))
          case atStart => exact ⟨0, Nat.zero_le _, rfl, rfl, rfl, hinv2⟩
          case round =>
            clear hinv2
            obtain ⟨j, hj, hgk, rfl, rfl, hinv3⟩ := hrel
            have HG := Lib.hid hgk
            clear hgk
            obtain ⟨⟨x, y, d, rd, rw4⟩, hold⟩ := id hinv3.out
            have kx := x.three
            have ky := y.three
            by_cases hjl : j < s.waits.length
            · obtain ⟨ad2, A', c', rfl, hr, i1, i2, q0, q1, q2⟩ := acts_at h2 j hjl
              have hq := acts_keep d ⟨q0, q1, q2⟩
              clear q0 q1 q2
              have hkn := keptB_next (s := s) (i := k) (x := r.secs[k]) hjl
              cases e0 : keptB s k r.secs[k] j
              · rw [e0, Bool.false_or] at hkn
                cases e1 : decide (s.waits[j].what = 1)
                · have t1 : (s.waits[j].what == 1) = false := by simpa using e1
                  rw [e1] at hkn
                  have HKN := Lib.hid hkn
                  clear hkn e1 e0
                  go_wp2_with fail
                  go_roundg (s.waits.length - (j + 1))
                  case measure => have := HG.out; omega
                  case rel => exact ⟨j + 1, by omega, rfl, by go_num, by rw [HKN.out]; rfl, hinv3⟩
                · cases e2 : decide (s.waits[j].at_ = (k : Int))
                  · have t1 : (s.waits[j].what == 1) = true := by simpa using e1
                    have t2 : (s.waits[j].at_ == (k : Int)) = false := by simpa using e2
                    rw [e1, e2] at hkn
                    have HKN := Lib.hid hkn
                    clear hkn e1 e2 e0
                    go_wp2_with fail
                    go_roundg (s.waits.length - (j + 1))
                    case measure => have := HG.out; omega
                    case rel => exact ⟨j + 1, by omega, rfl, by go_num, by rw [HKN.out]; rfl, hinv3⟩
                  · have t1 : (s.waits[j].what == 1) = true := by simpa using e1
                    have t2 : (s.waits[j].at_ == (k : Int)) = true := by simpa using e2
                    rw [e1, e2, Bool.true_and, Bool.true_and] at hkn
                    have HKN := Lib.hid hkn
                    clear hkn e1 e2 e0
                    go_wp2_with (first
                      | (go_at_call 12; ((with_reducible refine (same_bytes (FrS w2) S2 A8 A' c8 c' r.secs[k] s.waits[j].data _ hold (hr.below d)).mono ?_); rintro e w' ⟨rfl, rfl⟩)))
                    go_roundg (s.waits.length - (j + 1))
                    case measure => have := HG.out; omega
                    case rel => exact ⟨j + 1, by omega, rfl, by go_num, by rw [HKN.out], hinv3⟩
              · rw [e0, Bool.true_or] at hkn
                have HKN := Lib.hid hkn
                clear hkn e0
                go_wp2_with fail
                go_roundg (s.waits.length - (j + 1))
                case measure => have := HG.out; omega
                case rel => exact ⟨j + 1, by omega, rfl, by go_num, by rw [HKN.out], hinv3⟩
            · have hje : j = s.waits.length := by omega
              have hkt : keptB s k r.secs[k] j = true := by rw [hje]; exact keptB_all HKk.out
              clear hje
              have hlr := rd.len
              go_wp2_with fail
              exact ⟨⟨k + 1, hlt, by go_num, hinv3.out.1⟩, by simp [intOf]; omega⟩
      · have hz : err3 (ok3 r) = 0 := by rw [HRR.out, crash_ok HO.out]; rfl
        have HZ := Lib.hid hz
        clear hz
        go_wp2_with (first
          | (go_at_call 13; refine (check_any r (FrS w2) (FrA w2) A6 A7 c6 c7 _ rd rw4).mono ?_; rintro e w5 ⟨rfl, b5⟩; rw [HZ.out])
          | (go_at_call 11; refine (num_any _ _).mono ?_; rintro e w' ⟨rfl, rfl⟩))
        go_ret
        exact ⟨rfl, below_then d b5⟩
  · have hok' : ok3 s = false := by simpa using hok
    have he : err3 (ok3 s) = 9 := by rw [hok']; rfl
    have HE := Lib.hid he
    clear hok hok' he
    go_enter Try.func3, Try.ntmps3
    go_wp2_with (first
      | (go_at_call 8; refine (alive_any _).mono ?_; rintro e w1 ⟨rfl, b1⟩; have x1 := x0.keep b1; have k1 := x1.three; have d1 := below_then b0 b1)
      | (go_at_call 10; refine (of_any s S1 S2 A1 A2 c1 c2 _ (h1.below d1) (h2.below d1)).mono ?_; rintro e w2 ⟨A4, c4, A5, c5, rfl, b2, o1, o2⟩; have d2 := below_then d1 b2)
      | (go_at_call 9; refine (crash_any s keep (FrS w1) (FrA w1) S3 A4 A5 A3 c4 c5 c3 _ o1.rdS o2.rdS (h3.below d2)).mono ?_; rw [HE.out]; rintro e w3 ⟨A6, c6, A7, c7, rfl, b3, o3, o4⟩; have d3 := below_then d2 b3)
      | (go_at_call 11; refine (num_any _ _).mono ?_; rintro e w' ⟨rfl, rfl⟩))
    go_ret
    exact ⟨rfl, below_alloc d3 _⟩
end Go.Proofs.Ytfmmbkggamojkaa
