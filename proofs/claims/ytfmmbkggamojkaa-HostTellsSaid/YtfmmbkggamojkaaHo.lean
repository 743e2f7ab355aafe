/- Layer 3, a sector is read: the walk. No condition but that the state reads. -/
import Derived.Test.YtfmmbkggamojkaaHn
set_option linter.unusedVariables false
set_option linter.unusedSimpArgs false
namespace Go.Proofs.Ytfmmbkggamojkaa
open Go.RowKit

/-- What stands behind k acts of a read. -/
def ReadInv (w : World) (B : Nat) (st : Bool × List UInt8) (b : Value) (wr : World) : Prop := b = .bool st.1 ∧ Bx wr B (bcs st.2) 5 ∧ st.2.length = 64 ∧ Below w.heap.size w wr
set_option maxHeartbeats 2000000 in
theorem read_any (s : St3) (at_ : Int) (ha : InK .i64 at_) (S1 S2 : FP) (A1 A2 : Option Addr) (c1 c2 : Nat) (w : World) (h1 : Rd w S1 A1 c1 s.secs) (h2 : Rd w S2 A2 c2 s.waits) :
    Calls Try.prog 25 #[.agg #[.slice A1 s.secs.length c1, .slice A2 s.waits.length c2, .int .i64 s.cap], .int .i64 at_] w (ReadEnd (readR s at_) w) := by
  obtain ⟨secs, waits, cap⟩ := s
  dsimp only at h1 h2 ⊢
  have l1 := h1.len
  have l2 := h2.len
  have b0 : Below w.heap.size w (w.alloc (.cells #[.slice A1 secs.length c1, .slice A2 waits.length c2, .int .i64 cap] 30)) := below_alloc (Below.refl _ _) _
  have x0 := (Bx.new w [.slice A1 secs.length c1, .slice A2 waits.length c2, .int .i64 cap] 30)
  by_cases hok : ok3 ⟨secs, waits, cap⟩ = true
  · have he : err3 (ok3 ⟨secs, waits, cap⟩) = 0 := by rw [hok]; rfl
    have HE := Lib.hid he
    by_cases t1 : at_ < 0
    · have hr : readR ⟨secs, waits, cap⟩ at_ = ([], 4) := by rw [readR, if_pos hok, if_pos (.inl t1)]
      rw [hr]
      clear hr he hok
      go_enter Try.func25, Try.ntmps25
      go_wp2_with
        (go_at_call 13; refine (check_any ⟨secs, waits, cap⟩ S1 S2 A1 A2 c1 c2 _ (h1.below b0) (h2.below b0)).mono ?_; rintro e w1 ⟨rfl, hb1⟩; rw [HE.out]; have x1 := x0.keep hb1; have k2 := x1.three; have hz1 := hb1.size; simp only [World.size_alloc] at hz1; have b1 := below_then b0 hb1)
      go_ret2
      exact ⟨.slice none 0 0, rfl, b1, .nil_⟩
    by_cases t2 : size3 ⟨secs, waits, cap⟩ ≤ at_
    · have hr : readR ⟨secs, waits, cap⟩ at_ = ([], 4) := by rw [readR, if_pos hok, if_pos (.inr t2)]
      rw [hr]
      have t2' : decide (size3 ⟨secs, waits, cap⟩ ≤ at_) = true := decide_eq_true t2
      clear hr he hok
      go_enter Try.func25, Try.ntmps25
      go_wp2_with (first
        |
        (go_at_call 13; refine (check_any ⟨secs, waits, cap⟩ S1 S2 A1 A2 c1 c2 _ (h1.below b0) (h2.below b0)).mono ?_; rintro e w1 ⟨rfl, hb1⟩; rw [HE.out]; have x1 := x0.keep hb1; have k2 := x1.three; have hz1 := hb1.size; simp only [World.size_alloc] at hz1; have b1 := below_then b0 hb1)
        |
        (go_at_call 39; refine (size_any ⟨secs, waits, cap⟩ S1 S2 A1 A2 c1 c2 _ (h1.below b1) (h2.below b1)).mono ?_; rintro e w2 ⟨rfl, hb2⟩; have x2 := x1.keep hb2; have k4 := x2.three; have hz2 := hb2.size; have b2 := below_then b1 hb2)
        )
      go_ret2
      exact ⟨.slice none 0 0, rfl, b2, .nil_⟩
    have t12 : ¬ (at_ < 0 ∨ size3 ⟨secs, waits, cap⟩ ≤ at_) := fun h => by rcases h with h | h; exact t1 h; exact t2 h
    have t2' : decide (size3 ⟨secs, waits, cap⟩ ≤ at_) = false := decide_eq_false t2
    obtain ⟨k0, rfl⟩ := Int.eq_ofNat_of_zero_le (show 0 ≤ at_ by omega)
    have hr : readR ⟨secs, waits, cap⟩ k0 = ((readF secs k0 waits).2, 0) := by rw [readR, if_pos hok, if_neg t12]; rfl
    rw [hr]
    have HK := Lib.hid ((ok3_iff _).1 hok)
    have hu := Try.underlying36
    have hsz : (Try.prog.info? 5).map (·.size) = some 1 := by kernel_rfl
    have HN := Lib.hid t12
    have hmk : ∀ W : World, (Instr.makeSlice 36 (.int .i64 64) (.int .i64 64)).run Try.prog W = .ok (.slice (some ⟨W.heap.size, 0, none⟩) 64 64) (W.alloc (.cells (madeCells #[.int .u8 0] 64) 5)) := fun W => run_make_row' (P := Try.prog) 36 5 (.int .u8 0) 1 Try.underlying36 info5 rfl .i64 .i64 64 (by decide) (by decide) W
    clear hr he hok t12
    have xm := fun W => Bx.made W 5
    by_cases hin : k0 < secs.length
    · have hi0 : read0 secs k0 = (true, secs[k0]) := by unfold read0; rw [dif_pos hin]
      have hl64 : secs[k0].length = 64 := HK.out.2.2.2.1 _ (List.getElem_mem _)
      have HI := Lib.hid hi0
      clear hi0
      obtain ⟨ad, v, rfl, hc, A', c', hv, hr⟩ := h1.at1 rfl k0 hin
      simp only [List.cons.injEq, and_true] at hv
      subst hv
      rw [hl64] at hc
      have xw := (World.block_lt_of_cell? w _ hc)
      go_enter Try.func25, Try.ntmps25
      go_wp2_with (first
        |
        (go_at_call 13; refine (check_any ⟨secs, waits, cap⟩ S1 S2 (some ad) A2 c1 c2 _ (h1.below b0) (h2.below b0)).mono ?_; rintro e w1 ⟨rfl, hb1⟩; rw [HE.out]; have x1 := x0.keep hb1; have k2 := x1.three; have hz1 := hb1.size; simp only [World.size_alloc] at hz1; have b1 := below_then b0 hb1)
        | (go_at_call 39; refine (size_any ⟨secs, waits, cap⟩ S1 S2 (some ad) A2 c1 c2 _ (h1.below b1) (h2.below b1)).mono ?_; rintro e w2 ⟨rfl, hb2⟩; have x2 := x1.keep hb2; have k4 := x2.three; have hz2 := hb2.size; have b2 := below_then b1 hb2; have hc2 := (b2.cell xw).trans hc; have hr2 := hr.below b2; have x3 := (x2.alloc (.cells (madeCells #[.int .u8 0] 64) 5)); have k3 := x3.three; have m0 := xm w2; have b3 := below_alloc b2 (.cells (madeCells #[.int .u8 0] 64) 5); have hc3 := (b3.cell xw).trans hc; have hr3 := hr.below b3)
        | (refine wl_copy_row rfl (.tmp 32) (.tmp 37) 36 5 rfl hu hsz A' w2.heap.size 64 64 c' zero3 secs[k0] rfl rfl m0 (by simp [zero3]) hl64 hr3 (Below.refl w2.heap.size _) (Nat.le_refl _) ?_; intro w4 m4 b4'; have x4 : Bx w4 w.heap.size _ _ := ⟨(b4'.block _ (by omega)).trans x3.blk⟩; have k5 := x4.three; have b4 := b3.trans (b4'.mono (by omega))))
      have st : Hid (ReadInv w w2.heap.size (readF secs k0 (waits.take 0)) (.bool true) w4) := by
        show ReadInv _ _ (read0 secs k0) _ _
        rw [HI.out]
        exact ⟨rfl, m4, hl64, b4⟩
      clear m4 b4 x4 k5 b4' x3 k3 m0 b3 hc3 hr3 x2 k4 hc2 hr2 x1 k2 hb1 hb2 hc
      go_loopw [8, 10, 11, 42] (fun b _ _ i wr => ∃ k : Nat, k ≤ waits.length ∧ i = .int .i64 k ∧ ReadInv w w2.heap.size (readF secs k0 (waits.take k)) b wr) (fun _ _ _ i _ => waits.length - (intOf i).toNat)
      case atStart => exact ⟨0, Nat.zero_le _, rfl, st⟩
      case round =>
        clear st
        obtain ⟨k, hk, rfl, hinv⟩ := hrel
        by_cases hlt : k < waits.length
        ·
          obtain ⟨rfl, m, hl, hb⟩ := hinv
          have hn := readF_next secs k0 waits k hlt
          obtain ⟨ad2, A3, c3, rfl, hr3, i1, i2, q0, q1, q2⟩ := acts_at (h2.below hb) k hlt
          generalize readF secs k0 (waits.take k) = sx at hn m hl
          obtain ⟨b, xs⟩ := sx
          dsimp only at m hl hn
          rcases (may3_iff cap waits[k]).1 (HK.out.2.2.2.2.2 _ (List.getElem_mem _)) with ⟨e1, e2, e3, e4⟩ | ⟨e1, e2, e3, e4⟩
          · rw [e1] at q0
            rw [e4] at q2
            have ba := below_alloc (Below.refl _ wr) (.cells #[.int .i64 1, .int .i64 waits[k].at_, .slice A3 64 c3] 49)
            have mz := m.lt
            by_cases hj : waits[k].at_ = k0
            · have hj' : (waits[k].at_ == (k0 : Int)) = true := by rw [hj]; simp
              cases b
              ·
                have HX := Lib.hid (show readF secs k0 (waits.take (k + 1)) = (false, xs) by rw [hn]; unfold readStep; simp [e1, hj])
                clear hn
                clear e1 e4 hj
                go_wp2
                go_roundw
                case rel => exact ⟨k + 1, by omega, by go_num, by rw [HX.out]; exact ⟨rfl, m.keep ba, hl, below_then hb ba⟩⟩
                case measure => simp [intOf]; omega
              ·
                have HX := Lib.hid (show readF secs k0 (waits.take (k + 1)) = (true, waits[k].data) by rw [hn]; unfold readStep; simp [e1, hj])
                clear hn
                have E4 := Lib.hid e4
                clear e1 e4 hj
                go_wp2_with (refine wl_copy_row rfl (.tmp 70) (.tmp 72) 36 5 rfl hu hsz A3 w2.heap.size 64 64 c3 xs waits[k].data rfl rfl (m.keep ba) hl E4.out (hr3.below ba) (below_then hb ba) (by omega) ?_; intro w4 m4 b4)
                go_roundw
                case rel => exact ⟨k + 1, by omega, by go_num, by rw [HX.out]; exact ⟨rfl, m4, E4.out, b4⟩⟩
                case measure => simp [intOf]; omega
            · have hj' : (waits[k].at_ == (k0 : Int)) = false := by simpa using hj
              have HX := Lib.hid (show readF secs k0 (waits.take (k + 1)) = (b, xs) by rw [hn]; unfold readStep; simp [e1, hj])
              clear hn
              have HJ := Lib.hid hj
              clear e1 e4 hj
              go_wp2
              go_roundw
              case rel => exact ⟨k + 1, by omega, by go_num, by rw [HX.out]; exact ⟨rfl, m.keep ba, hl, below_then hb ba⟩⟩
              case measure => simp [intOf]; omega
          · rw [e1] at q0
            have ba := below_alloc (Below.refl _ wr) (.cells #[.int .i64 2, .int .i64 waits[k].at_, .slice A3 waits[k].data.length c3] 49)
            have ma := m.keep ba
            have hcl := hcl_row ma hl
            have hz := hl
            by_cases hj : (k0 : Int) < waits[k].at_
            · cases b
              ·
                have HX := Lib.hid (show readF secs k0 (waits.take (k + 1)) = (true, zero3) by rw [hn]; unfold readStep; simp [e1, hj])
                clear hn
                clear e1 e4
                go_wp2
                go_roundw
                case rel => exact ⟨k + 1, by omega, by go_num, by rw [HX.out]; exact ⟨rfl, ma.wipe hl, by simp [zero3], below_wipe (by omega) _ _ _ (below_then hb ba)⟩⟩
                case measure => simp [intOf]; omega
              ·
                have HX := Lib.hid (show readF secs k0 (waits.take (k + 1)) = (true, xs) by rw [hn]; unfold readStep; simp [e1, hj])
                clear hn
                clear e1 e4
                go_wp2
                go_roundw
                case rel => exact ⟨k + 1, by omega, by go_num, by rw [HX.out]; exact ⟨rfl, ma, hl, below_then hb ba⟩⟩
                case measure => simp [intOf]; omega
            ·
              have HX := Lib.hid (show readF secs k0 (waits.take (k + 1)) = (false, zero3) by rw [hn]; unfold readStep; simp [e1, hj])
              clear hn
              clear e1 e4
              go_wp2
              go_roundw
              case rel => exact ⟨k + 1, by omega, by go_num, by rw [HX.out]; exact ⟨rfl, ma.wipe hl, by simp [zero3], below_wipe (by omega) _ _ _ (below_then hb ba)⟩⟩
              case measure => simp [intOf]; omega
        · obtain ⟨rfl, m, hl, hb⟩ := hinv
          rw [List.take_of_length_le (by omega)] at m hl
          go_wp2
          go_ret2
          exact ⟨_, rfl, hb, m.ow hl (by omega) ⟨by omega, rfl⟩⟩
    · have hi0 : read0 secs k0 = (false, zero3) := by unfold read0; rw [dif_neg hin]
      have HI := Lib.hid hi0
      clear hi0
      go_enter Try.func25, Try.ntmps25
      go_wp2_with (first
        |
        (go_at_call 13; refine (check_any ⟨secs, waits, cap⟩ S1 S2 A1 A2 c1 c2 _ (h1.below b0) (h2.below b0)).mono ?_; rintro e w1 ⟨rfl, hb1⟩; rw [HE.out]; have x1 := x0.keep hb1; have k2 := x1.three; have hz1 := hb1.size; simp only [World.size_alloc] at hz1; have b1 := below_then b0 hb1)
        | (go_at_call 39; refine (size_any ⟨secs, waits, cap⟩ S1 S2 A1 A2 c1 c2 _ (h1.below b1) (h2.below b1)).mono ?_; rintro e w2 ⟨rfl, hb2⟩; have x2 := x1.keep hb2; have k4 := x2.three; have hz2 := hb2.size; have b2 := below_then b1 hb2; have x3 := (x2.alloc (.cells (madeCells #[.int .u8 0] 64) 5)); have k3 := x3.three; have m0 := xm w2; have b3 := below_alloc b2 (.cells (madeCells #[.int .u8 0] 64) 5)))
      have st : Hid (ReadInv w w2.heap.size (readF secs k0 (waits.take 0)) (.bool false) (w2.alloc (.cells (madeCells #[.int .u8 0] 64) 5))) := by
        show ReadInv _ _ (read0 secs k0) _ _
        rw [HI.out]
        exact ⟨rfl, m0, by simp [zero3], b3⟩
      clear x3 k3 m0 b3 x2 k4 x1 k2 hb1 hb2
      go_loopw [8, 10, 11, 42] (fun b _ _ i wr => ∃ k : Nat, k ≤ waits.length ∧ i = .int .i64 k ∧ ReadInv w w2.heap.size (readF secs k0 (waits.take k)) b wr) (fun _ _ _ i _ => waits.length - (intOf i).toNat)
      case atStart => exact ⟨0, Nat.zero_le _, rfl, st⟩
      case round =>
        clear st
        obtain ⟨k, hk, rfl, hinv⟩ := hrel
        by_cases hlt : k < waits.length
        ·
          obtain ⟨rfl, m, hl, hb⟩ := hinv
          have hn := readF_next secs k0 waits k hlt
          obtain ⟨ad2, A3, c3, rfl, hr3, i1, i2, q0, q1, q2⟩ := acts_at (h2.below hb) k hlt
          generalize readF secs k0 (waits.take k) = sx at hn m hl
          obtain ⟨b, xs⟩ := sx
          dsimp only at m hl hn
          rcases (may3_iff cap waits[k]).1 (HK.out.2.2.2.2.2 _ (List.getElem_mem _)) with ⟨e1, e2, e3, e4⟩ | ⟨e1, e2, e3, e4⟩
          · rw [e1] at q0
            rw [e4] at q2
            have ba := below_alloc (Below.refl _ wr) (.cells #[.int .i64 1, .int .i64 waits[k].at_, .slice A3 64 c3] 49)
            have mz := m.lt
            by_cases hj : waits[k].at_ = k0
            · have hj' : (waits[k].at_ == (k0 : Int)) = true := by rw [hj]; simp
              cases b
              ·
                have HX := Lib.hid (show readF secs k0 (waits.take (k + 1)) = (false, xs) by rw [hn]; unfold readStep; simp [e1, hj])
                clear hn
                clear e1 e4 hj
                go_wp2
                go_roundw
                case rel => exact ⟨k + 1, by omega, by go_num, by rw [HX.out]; exact ⟨rfl, m.keep ba, hl, below_then hb ba⟩⟩
                case measure => simp [intOf]; omega
              ·
                have HX := Lib.hid (show readF secs k0 (waits.take (k + 1)) = (true, waits[k].data) by rw [hn]; unfold readStep; simp [e1, hj])
                clear hn
                have E4 := Lib.hid e4
                clear e1 e4 hj
                go_wp2_with (refine wl_copy_row rfl (.tmp 70) (.tmp 72) 36 5 rfl hu hsz A3 w2.heap.size 64 64 c3 xs waits[k].data rfl rfl (m.keep ba) hl E4.out (hr3.below ba) (below_then hb ba) (by omega) ?_; intro w4 m4 b4)
                go_roundw
                case rel => exact ⟨k + 1, by omega, by go_num, by rw [HX.out]; exact ⟨rfl, m4, E4.out, b4⟩⟩
                case measure => simp [intOf]; omega
            · have hj' : (waits[k].at_ == (k0 : Int)) = false := by simpa using hj
              have HX := Lib.hid (show readF secs k0 (waits.take (k + 1)) = (b, xs) by rw [hn]; unfold readStep; simp [e1, hj])
              clear hn
              have HJ := Lib.hid hj
              clear e1 e4 hj
              go_wp2
              go_roundw
              case rel => exact ⟨k + 1, by omega, by go_num, by rw [HX.out]; exact ⟨rfl, m.keep ba, hl, below_then hb ba⟩⟩
              case measure => simp [intOf]; omega
          · rw [e1] at q0
            have ba := below_alloc (Below.refl _ wr) (.cells #[.int .i64 2, .int .i64 waits[k].at_, .slice A3 waits[k].data.length c3] 49)
            have ma := m.keep ba
            have hcl := hcl_row ma hl
            have hz := hl
            by_cases hj : (k0 : Int) < waits[k].at_
            · cases b
              ·
                have HX := Lib.hid (show readF secs k0 (waits.take (k + 1)) = (true, zero3) by rw [hn]; unfold readStep; simp [e1, hj])
                clear hn
                clear e1 e4
                go_wp2
                go_roundw
                case rel => exact ⟨k + 1, by omega, by go_num, by rw [HX.out]; exact ⟨rfl, ma.wipe hl, by simp [zero3], below_wipe (by omega) _ _ _ (below_then hb ba)⟩⟩
                case measure => simp [intOf]; omega
              ·
                have HX := Lib.hid (show readF secs k0 (waits.take (k + 1)) = (true, xs) by rw [hn]; unfold readStep; simp [e1, hj])
                clear hn
                clear e1 e4
                go_wp2
                go_roundw
                case rel => exact ⟨k + 1, by omega, by go_num, by rw [HX.out]; exact ⟨rfl, ma, hl, below_then hb ba⟩⟩
                case measure => simp [intOf]; omega
            ·
              have HX := Lib.hid (show readF secs k0 (waits.take (k + 1)) = (false, zero3) by rw [hn]; unfold readStep; simp [e1, hj])
              clear hn
              clear e1 e4
              go_wp2
              go_roundw
              case rel => exact ⟨k + 1, by omega, by go_num, by rw [HX.out]; exact ⟨rfl, ma.wipe hl, by simp [zero3], below_wipe (by omega) _ _ _ (below_then hb ba)⟩⟩
              case measure => simp [intOf]; omega
        · obtain ⟨rfl, m, hl, hb⟩ := hinv
          rw [List.take_of_length_le (by omega)] at m hl
          go_wp2
          go_ret2
          exact ⟨_, rfl, hb, m.ow hl (by omega) ⟨by omega, rfl⟩⟩
  · have hok' : ok3 ⟨secs, waits, cap⟩ = false := by simpa using hok
    have he : err3 (ok3 ⟨secs, waits, cap⟩) = 9 := by rw [hok']; rfl
    have hr : readR ⟨secs, waits, cap⟩ at_ = ([], 9) := by rw [readR, if_neg hok]
    rw [hr]
    have HE := Lib.hid he
    clear hok hok' hr he
    go_enter Try.func25, Try.ntmps25
    go_wp2_with
      (go_at_call 13; refine (check_any ⟨secs, waits, cap⟩ S1 S2 A1 A2 c1 c2 _ (h1.below b0) (h2.below b0)).mono ?_; rintro e w1 ⟨rfl, hb1⟩; rw [HE.out]; have x1 := x0.keep hb1; have k2 := x1.three; have hz1 := hb1.size; simp only [World.size_alloc] at hz1; have b1 := below_then b0 hb1)
    go_ret2
    exact ⟨.slice none 0 0, rfl, b1, .nil_⟩
end Go.Proofs.Ytfmmbkggamojkaa
