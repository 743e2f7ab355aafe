/- What the statements share: are octets one, copies, things written over. No condition but that the slices read. -/
import Derived.Test.YtfmmbkggamojkaaL0
import Derived.Test.YtfmmbkggamojkaaProg
import Derived.Lib.SliceRun
import Derived.Deep.QuietTactic
import Derived.BigQuiet
import Derived.Lib.Hide
set_option linter.unusedVariables false
set_option linter.unusedSimpArgs false
namespace Go.Proofs.Ytfmmbkggamojkaa
open Go.RowKit

theorem infoB : (Try.prog.info? 5).map (fun i => (i.zero, i.size, i.bytes)) = some (some (.int .u8 0), 1, 1) := by kernel_rfl
theorem infoL : (Try.prog.info? 36).map (fun i => (i.zero, i.size, i.bytes)) = some (some (.slice none 0 0), 1, 24) := by kernel_rfl

/-- Fresh octets. -/
abbrev FrB (w : World) : FP := fun b t => w.heap.size ≤ b ∧ t = (5, 0, 0)
set_option maxHeartbeats 400000 in
theorem same_bytes (S1 S2 : FP) (A1 A2 : Option Addr) (c1 c2 : Nat) (xs ys : List UInt8) (w : World) (h1 : Rd w S1 A1 c1 xs) (h2 : Rd w S2 A2 c2 ys) :
    Calls Try.prog 12 #[.slice A1 xs.length c1, .slice A2 ys.length c2] w fun e w' => e = .returned (.bool (xs == ys)) ∧ w = w' := by
  have k1 := run_str (P := Try.prog) h1 36 5 9 Try.underlying36 Try.underlying5 Try.underlying9
  have k2 := run_str (P := Try.prog) h2 36 5 9 Try.underlying36 Try.underlying5 Try.underlying9
  go_enter Try.func12, Try.ntmps12
  go_wp2
  go_ret
  exact ⟨by simp, rfl⟩

set_option maxHeartbeats 400000 in
theorem copy_bytes (S : FP) (A : Option Addr) (c : Nat) (xs : List UInt8) (w : World) (h : Rd w S A c xs) :
    Calls Try.prog 14 #[.slice A xs.length c] w fun e w' => ∃ v, e = .returned v ∧ Below w.heap.size w w' ∧ (∀ g, v.ownBlock = some g → w.heap.size ≤ g) ∧ Ow w' 5 (FrB w) v xs := by
  have hu := Try.underlying36
  go_enter Try.func14, Try.ntmps14
  go_wp2_with (at_builtin; refine wl_app (v := .slice none 0 0) (xs := []) (S := fun _ _ => False) rfl (.tmp 4) (.tmp 5) _ _ rfl hu infoB rfl _ _ rfl rfl .nil_ h (fun _ _ _ e => by cases e) (by simpa using h.room) ?_; intro v' w' hg hat hn)
  go_ret
  have hfr : ∀ g, v'.ownBlock = some g → w.heap.size ≤ g := fun g hg' => by
    rcases hat with h | h
    · rw [h] at hg'; cases hg'
    · rw [h] at hg'; simp at hg'; omega
  exact ⟨v', rfl, below_app (Below.refl _ _) hg (fun g e => by cases e), hfr, (hn (fun _ _ => True) (fun _ _ _ _ => trivial) (fun _ _ _ _ => trivial) trivial).flat fun g hg' => ⟨hfr g hg', rfl⟩⟩
/-- Fresh lists of octets. -/
abbrev FrL (w : World) : FP := fun b t => w.heap.size ≤ b ∧ (t = (36, 0, 0) ∨ t = (5, 0, 0))
set_option maxHeartbeats 400000 in
theorem copy_list (S : FP) (A : Option Addr) (c : Nat) (xs : List (List UInt8)) (w : World) (h : Rd w S A c xs) :
    Calls Try.prog 33 #[.slice A xs.length c] w fun e w' => ∃ v, e = .returned v ∧ Below w.heap.size w w' ∧ Ow w' 36 (FrL w) v xs := by
  have hu := Try.underlying22
  have hl := h.len
  go_enter Try.func33, Try.ntmps33
  go_wp2
  go_loopw [3, 4] (fun v i wr => ∃ k : Nat, k ≤ xs.length ∧ i = .int .i64 k ∧ Ow wr 36 (FrL w) v (xs.take k) ∧ Below w.heap.size w wr) (fun _ i _ => xs.length - (intOf i).toNat)
  case atStart => exact ⟨0, Nat.zero_le _, rfl, .nil_, Below.refl _ _⟩
  case round =>
    obtain ⟨k, hk, rfl, hv, hb⟩ := hrel
    by_cases hlt : k < xs.length
    · obtain ⟨ad, v0, rfl, hc, A', c', hv0, hr⟩ := (h.below hb).at1 rfl k hlt
      simp only [List.cons.injEq, and_true] at hv0
      subst hv0
      go_wp2_with (first
        | (go_at_call 14; refine (copy_bytes S A' c' xs[k] _ hr).mono ?_; rintro e w' ⟨v1, rfl, hb1, hf1, ho1⟩; obtain ⟨A2, c2, rfl, hr2⟩ := ho1.rd)
        | (at_builtin; refine wl_app1 (x := xs[k]) (cs := [.slice A2 xs[k].length c2]) rfl (.tmp 11) (.tmp 17) _ _ rfl hu infoL rfl rfl rfl (by simp) (hv.below hb1) ⟨A2, c2, rfl, hr2⟩ (fun b t hs e => by have := hv.lt b e; have := hs.1; omega) (h.room.mono (by rw [List.length_take]; omega) (Nat.le_refl _)) ?_; intro v2 w2 hg hat hn))
      have hb2 := below_app (below_then hb hb1) hg (fun g hg' => (hv.at_S g hg').1)
      have hs1 := hb1.size
      have hs0 := hb.size
      have ho2 := hn (FrL w) (fun b t h _ => h) (fun b t h _ => ⟨by have := h.1; omega, .inr h.2⟩) (fun b h => ⟨by omega, .inl rfl⟩)
      clear hn hg hat ho1 hv hc hr
      go_roundw
      case rel => exact ⟨k + 1, by omega, by go_num, by rw [List.take_succ_eq_append_getElem hlt]; exact ho2, hb2⟩
      case measure => simp [intOf]; omega
    · go_wp2
      go_ret
      rw [List.take_of_length_le (by omega)] at hv
      exact ⟨_, rfl, hb, hv⟩
theorem str_at {S : FP} {A : Option Addr} {c : Nat} {xs : List UInt8} {w : World} (h : Rd w S A c xs) : ∀ n, (convert 36 9 (.slice A xs.length c)).run Try.prog (w.drewN n) = .ok (.string ⟨xs.toArray⟩) (w.drewN n) := fun n =>
  run_str (P := Try.prog) (h.move (Kp.drewN w n S)) 36 5 9 Try.underlying36 Try.underlying5 Try.underlying9
set_option maxHeartbeats 400000 in
theorem same_list (S1 S2 : FP) (A1 A2 : Option Addr) (c1 c2 : Nat) (xs ys : List (List UInt8)) (w : World) (h1 : Rd w S1 A1 c1 xs) (h2 : Rd w S2 A2 c2 ys) :
    Calls Try.prog 45 #[.slice A1 xs.length c1, .slice A2 ys.length c2] w fun e w' => e = .returned (.bool (xs == ys)) ∧ ∃ n, w' = w.drewN n := by
  have l1 := h1.len
  have l2 := h2.len
  by_cases hlen : xs.length = ys.length
  · have e0 : ((xs.length : Int) != ys.length) = false := by rw [hlen]; simp
    go_enter Try.func45, Try.ntmps45
    have HL := Lib.hid hlen
    clear hlen
    go_wp2
    go_loopw [5] (fun i wr => ∃ k m : Nat, k ≤ xs.length ∧ i = .int .i64 k ∧ Hid (xs.take k = ys.take k) ∧ wr = w.drewN m) (fun i _ => xs.length - (intOf i).toNat)
    case atStart => exact ⟨0, 0, Nat.zero_le _, rfl, rfl, rfl⟩
    case round =>
      obtain ⟨k, m, hk, rfl, hall, rfl⟩ := hrel
      by_cases hlt : k < xs.length
      · have hlt2 : k < ys.length := by have := HL.out; omega
        obtain ⟨ad, v0, rfl, hc, A', c', hv0, hr⟩ := h1.at1 rfl k hlt
        obtain ⟨ad2, v2, rfl, hc2, A2', c2', hv2, hr2⟩ := h2.at1 rfl k hlt2
        simp only [List.cons.injEq, and_true] at hv0 hv2
        subst hv0
        subst hv2
        have k1 := str_at hr
        have k2 := str_at hr2
        by_cases he : xs[k] = ys[k]
        · have he' : (!(xs[k] == ys[k])) = false := by rw [he]; simp
          have HE := Lib.hid he
          clear he
          go_wp2
          go_quiet (fail)
          go_wp2
          go_roundw
          case rel => exact ⟨k + 1, _, by omega, by go_num, by show _ = _; rw [List.take_succ_eq_append_getElem hlt, List.take_succ_eq_append_getElem hlt2, hall.out, HE.out], by first | rfl | exact World.drewN_drewN ..⟩
          case measure => simp [intOf]; omega
        · have he' : (!(xs[k] == ys[k])) = true := by simp [he]
          have HE := Lib.hid he
          clear he
          go_wp2
          go_quiet (fail)
          go_wp2
          go_ret
          refine ⟨?_, _, World.drewN_drewN ..⟩
          have : (xs == ys) = false := by
            rw [beq_eq_false_iff_ne]
            intro e
            subst e
            exact HE.out rfl
          rw [this]
          rfl
      · have hlt2 : ¬ k < ys.length := by have := HL.out; omega
        go_wp2
        go_ret
        refine ⟨?_, _, rfl⟩
        have := hall.out
        rw [List.take_of_length_le (by omega), List.take_of_length_le (by omega)] at this
        rw [this]
        simp
  · have e0 : ((xs.length : Int) != ys.length) = true := by simp; omega
    have HL := Lib.hid hlen
    clear hlen
    go_enter Try.func45, Try.ntmps45
    go_wp2
    go_ret
    refine ⟨?_, 0, rfl⟩
    have : (xs == ys) = false := by
      rw [beq_eq_false_iff_ne]
      intro e
      subst e
      exact HL.out rfl
    rw [this]
    rfl
end Go.Proofs.Ytfmmbkggamojkaa
