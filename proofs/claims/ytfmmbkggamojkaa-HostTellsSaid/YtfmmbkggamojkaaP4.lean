/- Layer 3 in plain words: what a crash keeps. No program in it. -/
import Derived.Test.YtfmmbkggamojkaaP3
set_option linter.unusedVariables false
namespace Go.Proofs.Ytfmmbkggamojkaa
open Go.RowKit

/-- What is allowed to stand at sector i. -/
def Kept (s : St3) (i : Nat) (x : List UInt8) : Prop := x = zero3 ∨ (∃ h : i < s.secs.length, x = s.secs[i]) ∨ ∃ a ∈ s.waits, a.what = 1 ∧ a.at_ = i ∧ x = a.data
def AllKept (s : St3) (l : List (List UInt8)) : Prop := ∀ i (h : i < l.length), Kept s i l[i] ∧ l[i].length = 64
theorem do3_kept {s : St3} {l : List (List UInt8)} {a : Act3} (hl : AllKept s l) (ha : a ∈ s.waits) (hm : may3 s.cap a = true) : AllKept s (do3 l a) := by
  intro i h
  rcases (may3_iff s.cap a).1 hm with ⟨h1, h2, h3, h4⟩ | ⟨h1, h2, h3, h4⟩
  · have e : do3 l a = l.set a.at_.toNat a.data := by unfold do3; rw [if_neg (by omega)]
    have h' : i < l.length := by rw [e, List.length_set] at h; exact h
    by_cases hi : a.at_.toNat = i
    · have : (do3 l a)[i] = a.data := by simp only [e]; subst hi; simp
      rw [this]
      exact ⟨.inr (.inr ⟨a, ha, h1, by omega, rfl⟩), h4⟩
    · have : (do3 l a)[i] = l[i] := by simp only [e]; rw [List.getElem_set_ne hi]
      rw [this]
      exact hl i h'
  · have e : do3 l a = l.take a.at_.toNat ++ List.replicate (a.at_.toNat - l.length) zero3 := by unfold do3; rw [if_pos h1]
    by_cases hi : i < (l.take a.at_.toNat).length
    · have : (do3 l a)[i] = l[i]'(by rw [List.length_take] at hi; omega) := by simp only [e]; rw [List.getElem_append_left hi, List.getElem_take]
      rw [this]
      exact hl i _
    · have : (do3 l a)[i] = zero3 := by simp only [e]; rw [List.getElem_append_right (by omega), List.getElem_replicate]
      rw [this]
      exact ⟨.inl rfl, by simp [zero3]⟩
theorem run3_kept {s : St3} (hs : ok3 s = true) (keep : List Bool) : ∀ k, k ≤ s.waits.length → AllKept s (run3 s.secs (s.waits.take k) keep) := by
  have hk := (ok3_iff s).1 hs
  intro k
  induction k with
  | zero => intro _ i h; exact ⟨.inr (.inl ⟨h, rfl⟩), hk.2.2.2.1 _ (List.getElem_mem h)⟩
  | succ k ih =>
    intro hkl
    rw [run3_next s.secs s.waits keep k (by omega)]
    split
    · exact do3_kept (ih (by omega)) (List.getElem_mem _) (hk.2.2.2.2.2 _ (List.getElem_mem _))
    · exact ih (by omega)
theorem crash_kept {s : St3} (hs : ok3 s = true) (keep : List Bool) : AllKept s (crash3 s keep).secs := by
  have := run3_kept hs keep s.waits.length (Nat.le_refl _)
  rw [List.take_length] at this
  exact this
/-- What a crash leaves may be. -/
theorem crash_ok {s : St3} (hs : ok3 s = true) (keep : List Bool) : ok3 (crash3 s keep) = true := by
  have hk := (ok3_iff s).1 hs
  refine (ok3_iff _).2 ⟨hk.1, hk.2.1, ?_, fun b hb => ?_, by simp [crash3], by simp [crash3]⟩
  · have := run3_len (keep := keep) hk.2.2.1 s.waits hk.2.2.2.2.2 s.waits.length (Nat.le_refl _)
    rw [List.take_length] at this
    exact this
  · obtain ⟨i, hi, rfl⟩ := List.mem_iff_getElem.1 hb
    exact (crash_kept hs keep i hi).2
end Go.Proofs.Ytfmmbkggamojkaa
