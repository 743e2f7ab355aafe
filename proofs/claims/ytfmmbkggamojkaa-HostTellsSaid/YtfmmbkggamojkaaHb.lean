/- Layer 3, 'may a state be', of the program: what it answers is the page's word. No condition but that the state reads. -/
import Derived.Test.YtfmmbkggamojkaaHa
import Derived.Lib.Hide
set_option linter.unusedVariables false
set_option linter.unusedSimpArgs false
namespace Go.Proofs.Ytfmmbkggamojkaa
open Go.RowKit

set_option maxHeartbeats 400000 in
theorem odd_any (A : Option Addr) (c : Nat) (b : List UInt8) (w : World) : Calls Try.prog 34 #[.slice A b.length c] w fun e w' => e = .returned (.bool (odd3 b)) ∧ w = w' := by
  unfold odd3
  go_enter Try.func34, Try.ntmps34
  by_cases h : b.length = 64
  · have h' : ((b.length : Int) != 64) = false := by rw [h]; rfl
    go_wp2
    go_ret
    exact ⟨by simp [h], rfl⟩
  · have h' : ((b.length : Int) != 64) = true := by simp; omega
    go_wp2
    go_ret
    exact ⟨by simp [h], rfl⟩

set_option maxHeartbeats 400000 in
theorem may_any (A : Option Addr) (c : Nat) (a : Act3) (cap : Int) (w : World) : Calls Try.prog 38 #[.agg #[.int .i64 a.what, .int .i64 a.at_, .slice A a.data.length c], .int .i64 cap] w fun e w' => e = .returned (.bool (may3 cap a)) ∧ Below w.heap.size w w' := by
  obtain ⟨what, at_, data⟩ := a
  unfold may3
  dsimp only
  by_cases h1 : what = 1
  · subst h1
    by_cases h2 : 0 ≤ at_ <;> by_cases h3 : at_ < cap <;> by_cases h4 : data.length = 64
    all_goals
      have h4' : ((data.length : Int) == 64) = decide (data.length = 64) := by by_cases h : data.length = 64 <;> simp [h]; try omega
      first | rw [decide_eq_true h4] at h4' | rw [decide_eq_false h4] at h4'
      go_enter Try.func38, Try.ntmps38
      go_wp2
      go_ret
      exact ⟨by simp [h2, h3, h4], (Below.refl _ _).alloc (Nat.le_refl _) _⟩
  · by_cases h1' : what = 2
    · subst h1'
      by_cases h2 : 0 ≤ at_ <;> by_cases h3 : at_ ≤ cap <;> by_cases h4 : data.length = 0
      all_goals
        have h4' : ((data.length : Int) == 0) = decide (data.length = 0) := by by_cases h : data.length = 0 <;> simp [h]
        first | rw [decide_eq_true h4] at h4' | rw [decide_eq_false h4] at h4'
        go_enter Try.func38, Try.ntmps38
        go_wp2
        go_ret
        exact ⟨by simp [h2, h3, h4], (Below.refl _ _).alloc (Nat.le_refl _) _⟩
    · have e1 : (what == 1) = false := by simp [h1]
      have e2 : (what == 2) = false := by simp [h1']
      go_enter Try.func38, Try.ntmps38
      go_wp2
      go_ret
      exact ⟨by simp [h1, h1'], (Below.refl _ _).alloc (Nat.le_refl _) _⟩

theorem any_hit {α : Type} {p : α → Bool} {xs : List α} {k : Nat} (hk : k < xs.length) (h : p xs[k] = true) : xs.any p = true := List.any_eq_true.2 ⟨xs[k], List.getElem_mem hk, h⟩
theorem none_next {α : Type} {p : α → Bool} {xs : List α} {k : Nat} (hk : k < xs.length) (h : ((xs.take k).any p) = false) (h' : p xs[k] = false) : ((xs.take (k + 1)).any p) = false := by
  rw [List.take_succ_eq_append_getElem hk, List.any_append, h]
  simp [h']

def Found (b : Bool) (w : World) (e : Ending) (w' : World) : Prop := ∃ r : Int, e = .returned (.int .i64 r) ∧ decide (0 ≤ r) = b ∧ Below w.heap.size w w'

set_option maxHeartbeats 400000 in
theorem index_list (S : FP) (A : Option Addr) (c : Nat) (xs : List (List UInt8)) (w : World) (h : Rd w S A c xs) :
    Calls Try.prog 49 #[.slice A xs.length c, .func (.func 34) #[] #[]] w (Found (xs.any odd3) w) := by
  have hl := h.len
  go_enter Try.func49, Try.ntmps49
  go_wp2
  go_loop [5, 8] (fun _ i => ∃ k : Nat, k ≤ xs.length ∧ i = .int .i64 k ∧ Hid (((xs.take k).any odd3) = false)) (fun _ i => xs.length - (intOf i).toNat)
  case atStart => exact ⟨0, Nat.zero_le _, rfl, rfl⟩
  case round =>
    obtain ⟨k, hk, rfl, hall⟩ := hrel
    by_cases hlt : k < xs.length
    · obtain ⟨ad, v, rfl, hc, A', c', hv, hr⟩ := h.at1 rfl k hlt
      simp only [List.cons.injEq, and_true] at hv
      subst hv
      by_cases hp : odd3 xs[k] = true
      · go_wp2_with (go_at_call 34; refine (odd_any _ _ xs[k] _).mono ?_; rintro e w' ⟨rfl, rfl⟩)
        go_ret
        exact ⟨k, rfl, by rw [any_hit hlt hp]; simp, Below.refl _ _⟩
      · have hp : odd3 xs[k] = false := by simpa using hp
        go_wp2_with (go_at_call 34; refine (odd_any _ _ xs[k] _).mono ?_; rintro e w' ⟨rfl, rfl⟩)
        go_round
        case rel => exact ⟨k + 1, by omega, by go_num, none_next hlt hall hp⟩
        case measure => simp [intOf]; omega
    · go_wp2
      go_ret
      have hall := hall.out
      rw [List.take_of_length_le (by omega)] at hall
      exact ⟨-1, rfl, by rw [hall]; rfl, Below.refl _ _⟩

set_option maxHeartbeats 400000 in
theorem contains_list (S : FP) (A : Option Addr) (c : Nat) (xs : List (List UInt8)) (w : World) (h : Rd w S A c xs) :
    Calls Try.prog 35 #[.slice A xs.length c, .func (.func 34) #[] #[]] w fun e w' => e = .returned (.bool (xs.any odd3)) ∧ Below w.heap.size w w' := by
  go_enter Try.func35, Try.ntmps35
  go_wp2_with (go_at_call 49; refine (index_list S A c xs _ h).mono ?_; rintro e w' ⟨r, rfl, hr, hb⟩; (have HR := Lib.hid hr; clear hr))
  go_ret
  exact ⟨congrArg (fun b => Ending.returned (.bool b)) HR.out, hb⟩
end Go.Proofs.Ytfmmbkggamojkaa
