/- Layer 3 in plain words: all that waits, done; what is read is what is there then. No program in it. -/
import Derived.Test.YtfmmbkggamojkaaHo
import Derived.Test.YtfmmbkggamojkaaP4
set_option linter.unusedVariables false
namespace Go.Proofs.Ytfmmbkggamojkaa
open Go.RowKit

/-- All acts, done. -/
def all3 (l : List (List UInt8)) (ws : List Act3) : List (List UInt8) := ws.foldl do3 l
theorem run3_all (l : List (List UInt8)) (ws : List Act3) : ∀ n, ws.length ≤ n → run3 l ws (List.replicate n true) = all3 l ws := by
  intro n hn
  suffices h : ∀ k, k ≤ ws.length → run3 l (ws.take k) (List.replicate n true) = all3 l (ws.take k) by
    have := h ws.length (Nat.le_refl _)
    rwa [List.take_length] at this
  intro k
  induction k with
  | zero => intro _; rfl
  | succ k ih =>
    intro hk
    have e : (List.replicate n true).getD k false = true := by rw [List.getD_eq_getElem?_getD, List.getElem?_replicate, if_pos (by omega)]; rfl
    rw [run3_next l ws _ k (by omega), e, if_pos rfl, ih (by omega)]
    show _ = (ws.take (k + 1)).foldl do3 l
    rw [List.take_succ_eq_append_getElem (by omega : k < ws.length), List.foldl_append]
    rfl
theorem flush_secs {s : St3} (h : ok3 s = true) : flushR s = ⟨all3 s.secs s.waits, [], s.cap⟩ := by
  rw [flushR, crashR, if_pos h, crash3, run3_all _ _ _ (Nat.le_refl _)]
theorem do3_length (l : List (List UInt8)) (a : Act3) (cap : Int) (h : may3 cap a = true) : ((do3 l a).length : Int) = if a.what = 2 then a.at_ else (l.length : Int) := by
  rcases (may3_iff cap a).1 h with ⟨h1, h2, h3, h4⟩ | ⟨h1, h2, h3, h4⟩
  · rw [if_neg (by omega)]
    unfold do3
    rw [if_neg (by omega), List.length_set]
  · rw [if_pos h1]
    unfold do3
    rw [if_pos h1, List.length_append, List.length_take, List.length_replicate]
    omega
theorem all3_length (cap : Int) (ws : List Act3) : ∀ (l : List (List UInt8)), (∀ a ∈ ws, may3 cap a = true) → ((all3 l ws).length : Int) = len3 l.length ws := by
  induction ws with
  | nil => intro l _; rfl
  | cons a ws ih =>
    intro l h
    show ((all3 (do3 l a) ws).length : Int) = len3 (if a.what = 2 then a.at_ else (l.length : Int)) ws
    rw [ih (do3 l a) (fun b hb => h b (List.mem_cons_of_mem _ hb)), do3_length l a cap (h a (List.mem_cons_self ..))]
theorem readStep_do (l : List (List UInt8)) (k : Nat) (a : Act3) (cap : Int) (h : may3 cap a = true) : readStep k (read0 l k) a = read0 (do3 l a) k := by
  rcases (may3_iff cap a).1 h with ⟨h1, h2, h3, h4⟩ | ⟨h1, h2, h3, h4⟩
  · have e : do3 l a = l.set a.at_.toNat a.data := by unfold do3; rw [if_neg (by omega)]
    rw [readStep, if_neg (by omega), e]
    unfold read0
    by_cases hk : k < l.length
    · rw [dif_pos hk, dif_pos (by rw [List.length_set]; exact hk)]
      by_cases ha : a.at_ = (k : Int)
      · rw [if_pos ⟨ha, rfl⟩]
        have : a.at_.toNat = k := by omega
        subst this
        simp
      · rw [if_neg (fun h => ha h.1), List.getElem_set_ne (by omega)]
    · rw [dif_neg hk, dif_neg (by rw [List.length_set]; exact hk), if_neg (by simp)]
  · have e : do3 l a = l.take a.at_.toNat ++ List.replicate (a.at_.toNat - l.length) zero3 := by unfold do3; rw [if_pos h1]
    have hl : (do3 l a).length = a.at_.toNat := by rw [e, List.length_append, List.length_take, List.length_replicate]; omega
    rw [readStep, if_pos h1]
    unfold read0
    by_cases hk : k < a.at_.toNat
    · have hk' : k < (do3 l a).length := by rw [hl]; exact hk
      rw [dif_pos hk']
      by_cases h0 : k < l.length
      · rw [dif_pos h0, if_pos ⟨by omega, rfl⟩]
        have : (do3 l a)[k]'(by rw [hl]; exact hk) = l[k] := by simp only [e]; rw [List.getElem_append_left (by rw [List.length_take]; omega), List.getElem_take]
        rw [this, decide_eq_true (by omega)]
      · rw [dif_neg h0, if_neg (by simp)]
        have : (do3 l a)[k]'(by rw [hl]; exact hk) = zero3 := by simp only [e]; rw [List.getElem_append_right (by rw [List.length_take]; omega), List.getElem_replicate]
        rw [this, decide_eq_true (by omega)]
    · have hk' : ¬ k < (do3 l a).length := by rw [hl]; exact hk
      rw [dif_neg hk', if_neg (by omega), decide_eq_false (by omega)]
theorem readF_all (cap : Int) (k : Nat) (ws : List Act3) : ∀ (l : List (List UInt8)), (∀ a ∈ ws, may3 cap a = true) → readF l k ws = read0 (all3 l ws) k := by
  suffices h : ∀ (l : List (List UInt8)), (∀ a ∈ ws, may3 cap a = true) → ws.foldl (readStep k) (read0 l k) = read0 (all3 l ws) k from h
  induction ws with
  | nil => intro l _; rfl
  | cons a ws ih =>
    intro l h
    show ws.foldl (readStep k) (readStep k (read0 l k) a) = read0 (all3 (do3 l a) ws) k
    rw [readStep_do l k a cap (h a (List.mem_cons_self ..)), ih _ (fun b hb => h b (List.mem_cons_of_mem _ hb))]
theorem size_all {s : St3} (h : ok3 s = true) : size3 s = ((all3 s.secs s.waits).length : Int) := (all3_length s.cap s.waits s.secs ((ok3_iff s).1 h).2.2.2.2.2).symm
theorem read_all {s : St3} (h : ok3 s = true) (k : Nat) (hk : k < (all3 s.secs s.waits).length) : readR s k = ((all3 s.secs s.waits)[k], 0) := by
  have hs := size_all h
  rw [readR, if_pos h, if_neg (by omega), show ((k : Int)).toNat = k from rfl, readF_all s.cap k s.waits s.secs ((ok3_iff s).1 h).2.2.2.2.2, read0, dif_pos hk]
theorem read_out {s : St3} (h : ok3 s = true) (at_ : Int) (hk : at_ < 0 ∨ ((all3 s.secs s.waits).length : Int) ≤ at_) : readR s at_ = ([], 4) := by
  have hs := size_all h
  rw [readR, if_pos h, if_pos (by omega)]
/-- A length more. -/
theorem resize_ok {s A : St3} {n : Int} {e : Int} (h : resizeR s n = (A, e)) : (e ≠ 0 ∧ A = St3.zero) ∨ (e = 0 ∧ ok3 s = true ∧ 0 ≤ n ∧ n ≤ s.cap ∧ A = ⟨s.secs, s.waits ++ [⟨2, n, []⟩], s.cap⟩ ∧ ok3 A = true) := by
  unfold resizeR at h
  by_cases h1 : ok3 s = true
  · rw [if_pos h1] at h
    have hk := (ok3_iff s).1 h1
    by_cases h2 : n < 0
    · rw [if_pos h2] at h; cases h; exact .inl ⟨by decide, rfl⟩
    · rw [if_neg h2] at h
      by_cases h3 : s.cap < n ∨ s.waits.length = 4096
      · rw [if_pos h3] at h; cases h; exact .inl ⟨by decide, rfl⟩
      · rw [if_neg h3] at h
        cases h
        refine .inr ⟨rfl, h1, by omega, by omega, rfl, (ok3_iff _).2 ⟨hk.1, hk.2.1, hk.2.2.1, hk.2.2.2.1, ?_, fun a ha => ?_⟩⟩
        · simp; omega
        · rcases List.mem_append.1 ha with ha | ha
          · exact hk.2.2.2.2.2 a ha
          · simp only [List.mem_singleton] at ha
            subst ha
            have n0 : 0 ≤ n := by omega
            have n1 : n ≤ s.cap := by omega
            exact (may3_iff _ _).2 (.inr ⟨rfl, n0, n1, rfl⟩)
  · rw [if_neg h1] at h; cases h; exact .inl ⟨by decide, rfl⟩
/-- A write more. -/
theorem write_ok {s A : St3} {at_ : Int} {d : List UInt8} {e : Int} (h : writeR s at_ d = (A, e)) : (e ≠ 0 ∧ A = St3.zero) ∨ (e = 0 ∧ ok3 s = true ∧ 0 ≤ at_ ∧ at_ < size3 s ∧ d.length = 64 ∧ A = ⟨s.secs, s.waits ++ [⟨1, at_, d⟩], s.cap⟩ ∧ ok3 A = true) := by
  unfold writeR at h
  by_cases h1 : ok3 s = true
  · rw [if_pos h1] at h
    have hk := (ok3_iff s).1 h1
    by_cases h2 : at_ < 0 ∨ size3 s ≤ at_
    · rw [if_pos h2] at h; cases h; exact .inl ⟨by decide, rfl⟩
    · rw [if_neg h2] at h
      by_cases h3 : d.length ≠ 64
      · rw [if_pos h3] at h; cases h; exact .inl ⟨by decide, rfl⟩
      · rw [if_neg h3] at h
        by_cases h4 : s.waits.length = 4096
        · rw [if_pos h4] at h; cases h; exact .inl ⟨by decide, rfl⟩
        · rw [if_neg h4] at h
          cases h
          have hc : size3 s ≤ s.cap := by
            rw [size_all h1]
            have := run3_len (keep := List.replicate s.waits.length true) hk.2.2.1 s.waits hk.2.2.2.2.2 s.waits.length (Nat.le_refl _)
            rwa [List.take_length, run3_all _ _ _ (Nat.le_refl _)] at this
          refine .inr ⟨rfl, h1, by omega, by omega, by omega, rfl, (ok3_iff _).2 ⟨hk.1, hk.2.1, hk.2.2.1, hk.2.2.2.1, ?_, fun a ha => ?_⟩⟩
          · simp; omega
          · rcases List.mem_append.1 ha with ha | ha
            · exact hk.2.2.2.2.2 a ha
            · simp only [List.mem_singleton] at ha
              subst ha
              have n0 : 0 ≤ at_ := by omega
              have n1 : at_ < s.cap := by omega
              have n2 : d.length = 64 := by omega
              exact (may3_iff _ _).2 (.inl ⟨rfl, n0, n1, n2⟩)
  · rw [if_neg h1] at h; cases h; exact .inl ⟨by decide, rfl⟩
end Go.Proofs.Ytfmmbkggamojkaa
