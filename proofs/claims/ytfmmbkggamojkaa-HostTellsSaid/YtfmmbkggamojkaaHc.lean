/- Layer 3, 'may a state be', of the program: what it answers is the page's word. No condition but that the state reads. -/
import Derived.Test.YtfmmbkggamojkaaHb
set_option linter.unusedVariables false
set_option linter.unusedSimpArgs false
namespace Go.Proofs.Ytfmmbkggamojkaa
open Go.RowKit

set_option maxHeartbeats 400000 in
theorem not_may (A : Option Addr) (c : Nat) (a : Act3) (cap : Int) (B : Nat) (w : World) (hB : B < w.heap.size) (hc : w.cell? ⟨B, 2, none⟩ = some (.int .i64 cap)) :
    Calls Try.prog 37 #[.agg #[.int .i64 a.what, .int .i64 a.at_, .slice A a.data.length c], .pointer (some ⟨B, 0, none⟩)] w fun e w' => e = .returned (.bool (!may3 cap a)) ∧ Below w.heap.size w w' := by
  have hne : B ≠ w.heap.size := by omega
  go_enter Try.func37, Try.ntmps37
  go_wp2_with (go_at_call 38; refine (may_any _ _ a cap _).mono ?_; rintro e w' ⟨rfl, hb⟩)
  go_ret
  exact ⟨rfl, below_then ((Below.refl _ _).alloc (Nat.le_refl _) _) hb⟩

/-- An act's cells. -/
theorem act_cells {w : World} {S : FP} {a : Act3} {cs : List Value} (h : Rep.has w S a cs) : ∃ A c, cs = [.int .i64 a.what, .int .i64 a.at_, .slice A a.data.length c] ∧ Rd w S A c a.data ∧ InK .i64 a.what ∧ InK .i64 a.at_ := by
  obtain ⟨c1, c2, rfl, ⟨h1, i1⟩, c3, c4, rfl, ⟨h3, i3⟩, A, c, h4, hr⟩ := h
  subst h1; subst h3; subst h4
  exact ⟨A, c, rfl, hr, i1, i3⟩
theorem acts_at {w : World} {S : FP} {A : Option Addr} {c : Nat} {xs : List Act3} (h : Rd w S A c xs) (j : Nat) (hj : j < xs.length) : ∃ ad A' c', A = some ad ∧ Rd w S A' c' xs[j].data ∧ InK .i64 xs[j].what ∧ InK .i64 xs[j].at_ ∧
    w.cell? (ad.add (j * 3)) = some (.int .i64 xs[j].what) ∧ w.cell? ⟨(ad.add (j * 3)).block, (ad.add (j * 3)).off + 1, none⟩ = some (.int .i64 xs[j].at_) ∧ w.cell? ⟨(ad.add (j * 3)).block, (ad.add (j * 3)).off + 2, none⟩ = some (.slice A' xs[j].data.length c') := by
  obtain ⟨ad, cs, e, hh, h0, hk⟩ := h.atk j hj
  obtain ⟨A', c', rfl, hr, i1, i2⟩ := act_cells hh
  exact ⟨ad, A', c', e, hr, i1, i2, h0 _ rfl, hk 1 _ rfl, hk 2 _ rfl⟩

theorem acts_atI {w : World} {S I : FP} {A : Option Addr} {c : Nat} {xs : List Act3} (h : RdI w S I A c xs) (j : Nat) (hj : j < xs.length) : ∃ ad A' c', A = some ad ∧ Rd w I A' c' xs[j].data ∧ InK .i64 xs[j].what ∧ InK .i64 xs[j].at_ ∧
    w.cell? (ad.add (j * 3)) = some (.int .i64 xs[j].what) ∧ w.cell? ⟨(ad.add (j * 3)).block, (ad.add (j * 3)).off + 1, none⟩ = some (.int .i64 xs[j].at_) ∧ w.cell? ⟨(ad.add (j * 3)).block, (ad.add (j * 3)).off + 2, none⟩ = some (.slice A' xs[j].data.length c') := by
  obtain ⟨ad, cs, e, hh, h0, hk⟩ := h.atk j hj
  obtain ⟨A', c', rfl, hr, i1, i2⟩ := act_cells hh
  exact ⟨ad, A', c', e, hr, i1, i2, h0 _ rfl, hk 1 _ rfl, hk 2 _ rfl⟩

set_option maxHeartbeats 400000 in
theorem index_acts (S : FP) (A : Option Addr) (c : Nat) (xs : List Act3) (cap : Int) (B : Nat) (w : World) (h : Rd w S A c xs) (hB : B < w.heap.size) (hcp : w.cell? ⟨B, 2, none⟩ = some (.int .i64 cap)) :
    Calls Try.prog 50 #[.slice A xs.length c, .func (.func 37) #[] #[.pointer (some ⟨B, 0, none⟩)]] w (Found (xs.any fun a => !may3 cap a) w) := by
  have hl := h.len
  go_enter Try.func50, Try.ntmps50
  go_wp2
  go_loopw [5, 8] (fun _ i wr => ∃ k : Nat, k ≤ xs.length ∧ i = .int .i64 k ∧ Hid (((xs.take k).any fun a => !may3 cap a) = false) ∧ Below w.heap.size w wr) (fun _ i _ => xs.length - (intOf i).toNat)
  case atStart => exact ⟨0, Nat.zero_le _, rfl, rfl, Below.refl _ _⟩
  case round =>
    obtain ⟨k, hk, rfl, hall, hb⟩ := hrel
    by_cases hlt : k < xs.length
    · obtain ⟨ad, A', c', rfl, hr, i1, i2, x0, x1, x2⟩ := acts_at (h.below hb) k hlt
      have hcp' := (hb.cell (p := ⟨B, 2, none⟩) hB).trans hcp
      have hBw := hb.size
      by_cases hp : may3 cap xs[k] = true
      · go_wp2_with (go_at_call 37; refine (not_may _ _ xs[k] cap B _ (by omega) hcp').mono ?_; rintro e w' ⟨rfl, hb2⟩)
        go_roundw
        case rel => exact ⟨k + 1, by omega, by go_num, none_next hlt hall (by simp [hp]), below_then hb hb2⟩
        case measure => simp [intOf]; omega
      · have hp : may3 cap xs[k] = false := by simpa using hp
        go_wp2_with (go_at_call 37; refine (not_may _ _ xs[k] cap B _ (by omega) hcp').mono ?_; rintro e w' ⟨rfl, hb2⟩)
        go_ret
        exact ⟨k, rfl, by rw [any_hit hlt (by simp [hp])]; simp, below_then hb hb2⟩
    · go_wp2
      go_ret
      have hall := hall.out
      rw [List.take_of_length_le (by omega)] at hall
      exact ⟨-1, rfl, by rw [hall]; rfl, hb⟩

set_option maxHeartbeats 400000 in
theorem contains_acts (S : FP) (A : Option Addr) (c : Nat) (xs : List Act3) (cap : Int) (B : Nat) (w : World) (h : Rd w S A c xs) (hB : B < w.heap.size) (hcp : w.cell? ⟨B, 2, none⟩ = some (.int .i64 cap)) :
    Calls Try.prog 36 #[.slice A xs.length c, .func (.func 37) #[] #[.pointer (some ⟨B, 0, none⟩)]] w fun e w' => e = .returned (.bool (xs.any fun a => !may3 cap a)) ∧ Below w.heap.size w w' := by
  go_enter Try.func36, Try.ntmps36
  go_wp2_with (go_at_call 50; refine (index_acts S A c xs cap B _ h hB hcp).mono ?_; rintro e w' ⟨r, rfl, hr, hb⟩; (have HR := Lib.hid hr; clear hr))
  go_ret
  exact ⟨congrArg (fun b => Ending.returned (.bool b)) HR.out, hb⟩

/-- The state's error. -/
def err3 (b : Bool) : Int := if b then 0 else 9

theorem err_eq {b : Bool} {n : Int} (h : err3 b = n) : Ending.returned (.int .i64 n) = Ending.returned (.int .i64 (err3 b)) := by rw [h]

set_option maxHeartbeats 1000000 in
theorem check_any (s : St3) (S1 S2 : FP) (A1 A2 : Option Addr) (c1 c2 : Nat) (w : World) (h1 : Rd w S1 A1 c1 s.secs) (h2 : Rd w S2 A2 c2 s.waits) :
    Calls Try.prog 13 #[.agg #[.slice A1 s.secs.length c1, .slice A2 s.waits.length c2, .int .i64 s.cap]] w fun e w' => e = .returned (.int .i64 (err3 (ok3 s))) ∧ Below w.heap.size w w' := by
  obtain ⟨secs, waits, cap⟩ := s
  dsimp only at h1 h2 ⊢
  have l1 := h1.len
  have l2 := h2.len
  by_cases t1 : cap < 1
  · have hfin : Hid (err3 (ok3 ⟨secs, waits, cap⟩) = 9) := by show err3 (ok3 _) = 9; simp [err3, ok3]; omega
    go_enter Try.func13, Try.ntmps13
    go_wp2_with (first
      | (go_at_call 35; refine (contains_list S1 A1 c1 secs _ (h1.alloc _)).mono ?_; rintro e w' ⟨rfl, hb⟩; (have hcs := bcell hb); (have hsz := hb.size); (have hb0 := below_then ((Below.refl _ w).alloc (Nat.le_refl _) _) hb); simp only [World.size_alloc] at hsz)
      | (go_at_call 36; refine (contains_acts S2 A2 c2 waits cap w.heap.size _ (h2.below hb0) (by omega) (by rw [hcs.1 _ _ (by simp)]; simp)).mono ?_; rintro e w' ⟨rfl, hb2⟩))
    go_ret
    exact ⟨err_eq hfin.out, (Below.refl _ _).alloc (Nat.le_refl _) _⟩
  by_cases t2 : 65536 < cap
  · have hfin : Hid (err3 (ok3 ⟨secs, waits, cap⟩) = 9) := by show err3 (ok3 _) = 9; simp [err3, ok3]; omega
    go_enter Try.func13, Try.ntmps13
    go_wp2_with (first
      | (go_at_call 35; refine (contains_list S1 A1 c1 secs _ (h1.alloc _)).mono ?_; rintro e w' ⟨rfl, hb⟩; (have hcs := bcell hb); (have hsz := hb.size); (have hb0 := below_then ((Below.refl _ w).alloc (Nat.le_refl _) _) hb); simp only [World.size_alloc] at hsz)
      | (go_at_call 36; refine (contains_acts S2 A2 c2 waits cap w.heap.size _ (h2.below hb0) (by omega) (by rw [hcs.1 _ _ (by simp)]; simp)).mono ?_; rintro e w' ⟨rfl, hb2⟩))
    go_ret
    exact ⟨err_eq hfin.out, (Below.refl _ _).alloc (Nat.le_refl _) _⟩
  by_cases t3 : cap < (secs.length : Int)
  · have hfin : Hid (err3 (ok3 ⟨secs, waits, cap⟩) = 9) := by show err3 (ok3 _) = 9; simp [err3, ok3]; omega
    go_enter Try.func13, Try.ntmps13
    go_wp2_with (first
      | (go_at_call 35; refine (contains_list S1 A1 c1 secs _ (h1.alloc _)).mono ?_; rintro e w' ⟨rfl, hb⟩; (have hcs := bcell hb); (have hsz := hb.size); (have hb0 := below_then ((Below.refl _ w).alloc (Nat.le_refl _) _) hb); simp only [World.size_alloc] at hsz)
      | (go_at_call 36; refine (contains_acts S2 A2 c2 waits cap w.heap.size _ (h2.below hb0) (by omega) (by rw [hcs.1 _ _ (by simp)]; simp)).mono ?_; rintro e w' ⟨rfl, hb2⟩))
    go_ret
    exact ⟨err_eq hfin.out, (Below.refl _ _).alloc (Nat.le_refl _) _⟩
  by_cases t4 : secs.any odd3 = true
  · have hfin : Hid (err3 (ok3 ⟨secs, waits, cap⟩) = 9) := by show err3 (ok3 _) = 9; simp only [err3, ok3, t4]; simp
    go_enter Try.func13, Try.ntmps13
    go_wp2_with (first
      | (go_at_call 35; refine (contains_list S1 A1 c1 secs _ (h1.alloc _)).mono ?_; rintro e w' ⟨rfl, hb⟩; (have hcs := bcell hb); (have hsz := hb.size); (have hb0 := below_then ((Below.refl _ w).alloc (Nat.le_refl _) _) hb); simp only [World.size_alloc] at hsz)
      | (go_at_call 36; refine (contains_acts S2 A2 c2 waits cap w.heap.size _ (h2.below hb0) (by omega) (by rw [hcs.1 _ _ (by simp)]; simp)).mono ?_; rintro e w' ⟨rfl, hb2⟩))
    go_ret
    exact ⟨err_eq hfin.out, hb0⟩
  have t4 : secs.any odd3 = false := by simpa using t4
  by_cases t5 : 4096 < waits.length
  · have hfin : Hid (err3 (ok3 ⟨secs, waits, cap⟩) = 9) := by show err3 (ok3 _) = 9; simp [err3, ok3]; omega
    go_enter Try.func13, Try.ntmps13
    go_wp2_with (first
      | (go_at_call 35; refine (contains_list S1 A1 c1 secs _ (h1.alloc _)).mono ?_; rintro e w' ⟨rfl, hb⟩; (have hcs := bcell hb); (have hsz := hb.size); (have hb0 := below_then ((Below.refl _ w).alloc (Nat.le_refl _) _) hb); simp only [World.size_alloc] at hsz)
      | (go_at_call 36; refine (contains_acts S2 A2 c2 waits cap w.heap.size _ (h2.below hb0) (by omega) (by rw [hcs.1 _ _ (by simp)]; simp)).mono ?_; rintro e w' ⟨rfl, hb2⟩))
    go_ret
    exact ⟨err_eq hfin.out, hb0⟩
  by_cases t6 : (waits.any fun a => !may3 cap a) = true
  · have hfin : Hid (err3 (ok3 ⟨secs, waits, cap⟩) = 9) := by show err3 (ok3 _) = 9; simp only [err3, ok3, t6]; simp
    go_enter Try.func13, Try.ntmps13
    go_wp2_with (first
      | (go_at_call 35; refine (contains_list S1 A1 c1 secs _ (h1.alloc _)).mono ?_; rintro e w' ⟨rfl, hb⟩; (have hcs := bcell hb); (have hsz := hb.size); (have hb0 := below_then ((Below.refl _ w).alloc (Nat.le_refl _) _) hb); simp only [World.size_alloc] at hsz)
      | (go_at_call 36; refine (contains_acts S2 A2 c2 waits cap w.heap.size _ (h2.below hb0) (by omega) (by rw [hcs.1 _ _ (by simp)]; simp)).mono ?_; rintro e w' ⟨rfl, hb2⟩))
    go_ret
    exact ⟨err_eq hfin.out, below_then hb0 hb2⟩
  have t6 : (waits.any fun a => !may3 cap a) = false := by simpa using t6
  · have hfin : Hid (err3 (ok3 ⟨secs, waits, cap⟩) = 0) := by show err3 (ok3 _) = 0; simp only [err3, ok3, t6, t4]; simp; omega
    go_enter Try.func13, Try.ntmps13
    go_wp2_with (first
      | (go_at_call 35; refine (contains_list S1 A1 c1 secs _ (h1.alloc _)).mono ?_; rintro e w' ⟨rfl, hb⟩; (have hcs := bcell hb); (have hsz := hb.size); (have hb0 := below_then ((Below.refl _ w).alloc (Nat.le_refl _) _) hb); simp only [World.size_alloc] at hsz)
      | (go_at_call 36; refine (contains_acts S2 A2 c2 waits cap w.heap.size _ (h2.below hb0) (by omega) (by rw [hcs.1 _ _ (by simp)]; simp)).mono ?_; rintro e w' ⟨rfl, hb2⟩))
    go_ret
    exact ⟨err_eq hfin.out, below_then hb0 hb2⟩
end Go.Proofs.Ytfmmbkggamojkaa
