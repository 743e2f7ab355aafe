/- Layer 3, the library's Repeat of one true. No condition but that the count fits. -/
import Derived.Test.YtfmmbkggamojkaaHi
import Derived.WalkLawsBesides
import Derived.WalkSpells
import Derived.Laws.CopyOwn
set_option linter.unusedVariables false
set_option linter.unusedSimpArgs false
namespace Go.Proofs.Ytfmmbkggamojkaa
open Go.RowKit

theorem and_one32 : bits .and .u64 1 4294967295 = 1 := by rw [and_low32 1 (by omega) (by omega)]; rfl
theorem and_zero32 : bits .and .u64 0 4294967295 = 0 := by rw [and_low32 0 (by omega) (by omega)]; rfl
theorem and_n32 (n : Nat) (h : n ≤ 140737488351232) : bits .and .u64 (n : Int) 4294967295 = (n : Int) % 4294967296 := and_low32 n (by omega) (by omega)
theorem wrap_u64_of {x : Int} (h0 : 0 ≤ x) (h1 : x ≤ 140737488351232) : IntKind.u64.wrap x = x := by
  simp only [IntKind.wrap, IntKind.signed, IntKind.bits]
  simp
  omega
set_option maxHeartbeats 1000000 in
theorem mul64_one (n : Nat) (w : World) (h : n ≤ 140737488351232) : Calls Try.prog 54 #[.int .u64 1, .int .u64 n] w fun e w' => e = .returned (.tuple #[.int .u64 0, .int .u64 n]) ∧ w = w' := by
  have a1 := and_one32
  have a2 := and_n32 n h
  have a3 := and_zero32
  have r0 : 0 ≤ (n : Int) % 4294967296 := by omega
  have r1 : (n : Int) % 4294967296 ≤ 4294967295 := by omega
  have r2 : 0 ≤ (n : Int) / 4294967296 := by omega
  have r3 : (n : Int) / 4294967296 ≤ 32768 := by omega
  generalize hy0 : (n : Int) % 4294967296 = y0 at a2 r0 r1
  go_enter Try.func54, Try.ntmps54
  go_wp2
  go_ret2
  refine ⟨?_, rfl⟩
  simp
  have e0 : y0 / 4294967296 = 0 := by omega
  rw [e0, a3, wrap_u64_of (x := 0 + (n : Int) / 4294967296) (by omega) (by omega), wrap_u64_of (by omega) (by omega)]
  omega

set_option maxHeartbeats 1000000 in
theorem mul_one64 (n : Nat) (w : World) (h : n ≤ 140737488351232) : Calls Try.prog 52 #[.int .u64 1, .int .u64 n] w fun e w' => e = .returned (.tuple #[.int .u64 0, .int .u64 n]) ∧ w = w' := by
  go_enter Try.func52, Try.ntmps52
  go_wp2_with (go_at_call 54; refine (mul64_one n _ h).mono ?_; rintro e w' ⟨rfl, rfl⟩)
  go_ret2
  exact ⟨rfl, rfl⟩

/-- So many trues, then falses. -/
def trues (m n : Nat) : List Value := List.replicate m (.bool true) ++ List.replicate (n - m) (.bool false)
theorem trues_len (m n : Nat) (h : m ≤ n) : (trues m n).length = n := by simp [trues]; omega
theorem trues_splice (m n k : Nat) (h : m + k ≤ n) : splice (trues m n) m (List.replicate k (.bool true)) = trues (m + k) n := by
  unfold splice trues
  have e1 : (List.replicate m (Value.bool true) ++ List.replicate (n - m) (Value.bool false)).take m = List.replicate m (.bool true) := by rw [List.take_append_of_le_length (by simp)]; simp
  have e2 : (List.replicate m (Value.bool true) ++ List.replicate (n - m) (Value.bool false)).drop (m + (List.replicate k (Value.bool true)).length) = List.replicate (n - (m + k)) (Value.bool false) := by
    rw [List.length_replicate, List.drop_append, List.drop_eq_nil_of_le (by simp), List.nil_append, List.length_replicate, List.drop_replicate]
    congr 1
    omega
  rw [e1, e2, ← List.append_assoc, List.replicate_append_replicate]
theorem trues_at (m n j : Nat) (h : j < m) : (trues m n)[j]? = some (.bool true) := by
  unfold trues
  rw [List.getElem?_append_left (by simpa using h), List.getElem?_replicate, if_pos h]

theorem rep_at {k j : Nat} {v : Value} (h : (List.replicate k (Value.bool true))[j]? = some v) : j < k ∧ v = .bool true := by
  rw [List.getElem?_replicate] at h
  split at h
  · rename_i hj; exact ⟨hj, by cases h; rfl⟩
  · cases h
theorem src_one {W : World} {g0 k : Nat} (hc : W.cell? ⟨g0, 0, none⟩ = some (.bool true)) (hk : k ≤ 1) : ∀ j v, (List.replicate k (Value.bool true))[j]? = some v → W.cell? ((⟨g0, 0, none⟩ : Addr).add j) = some v := fun j v h => by
  obtain ⟨h1, rfl⟩ := rep_at h
  obtain rfl : j = 0 := by omega
  exact hc
theorem src_trues {W : World} {g m n k : Nat} (hb : W.heap[g]? = some (.cells (trues m n).toArray 4 (0, 0))) (hk : k ≤ m) : ∀ j v, (List.replicate k (Value.bool true))[j]? = some v → W.cell? ((⟨g, 0, none⟩ : Addr).add j) = some v := fun j v h => by
  obtain ⟨h1, rfl⟩ := rep_at h
  rw [add_eq' _ rfl, cell_of_row W g _ _ _ _ hb]
  simpa using trues_at m n j (by omega)
theorem rep_one (k : Nat) : ∀ v ∈ List.replicate k (Value.bool true), v.oneCell' = true := fun v hv => by rw [List.eq_of_mem_replicate hv]; rfl

set_option maxHeartbeats 300000 in
theorem repeat_true (n : Nat) (g0 : Nat) (w : World) (h : n ≤ 140737488351232) (hc : w.cell? ⟨g0, 0, none⟩ = some (.bool true)) : Calls Try.prog 46 #[.slice (some ⟨g0, 0, none⟩) 1 1, .int .i64 n] w fun e w' => ∃ c, e = .returned (.slice (some ⟨w.heap.size, 0, none⟩) n c) ∧ Below w.heap.size w w' ∧ n ≤ c ∧ w'.heap[w.heap.size]? = some (.cells (trues n n).toArray 4 (0, 0)) := by
  have hg0 := World.block_lt_of_cell? w _ hc
  have hmk : ∀ W : World, (Instr.makeSlice 26 (.int .i64 n) (.int .i64 n)).run Try.prog W = .ok (.slice (some ⟨W.heap.size, 0, none⟩) n n) (W.alloc (.cells (madeCells #[.bool false] n) 4)) := fun W => run_make_row' (P := Try.prog) 26 4 (.bool false) 1 Try.underlying26 (by kernel_rfl) rfl .i64 .i64 n (by omega) (by omega) W
  go_enter Try.func46, Try.ntmps46
  have hm : (w.alloc (.cells (madeCells #[.bool false] n) 4)).heap[w.heap.size]? = some (.cells (trues 0 n).toArray 4 (0, 0)) := by
    rw [heap_alloc_new]
    congr 2
    apply Array.ext'
    apply List.ext_getElem
    · simp [trues, size_madeCells]
    · intro i h1 h2
      simp [trues, madeCells, Nat.mod_one]
  have hsz : (Try.prog.info? 4).map (·.size) = some 1 := by kernel_rfl
  have hu := Try.underlying26
  have bA := below_alloc (Below.refl _ w) (.cells (madeCells #[.bool false] n) 4)
  have hcA : (w.alloc (.cells (madeCells #[.bool false] n) 4)).cell? ⟨g0, 0, none⟩ = some (.bool true) := (bA.cell hg0).trans hc
  have HM := Lib.hid hm
  clear hm
  go_wp2_with (first
    | (go_at_call 52; refine (mul_one64 n _ h).mono ?_; rintro e w' ⟨rfl, rfl⟩)
    | (refine wpList_copy_splice rfl (.tmp 31) (.tmp 32) 26 26 rfl 4 hu hsz _ _ _ _ _ _ rfl rfl w.heap.size 0 (trues 0 n) 4 HM.out (List.replicate (Nat.min 1 n) (.bool true)) (by simp) (fun _ => ⟨rfl, _, rfl, src_one hcA (Nat.min_le_left _ _)⟩) (by rw [List.length_replicate, trues_len 0 n (Nat.zero_le _), Nat.zero_add]; exact Nat.min_le_right _ _) (rep_one _) w.heap.size w bA (Nat.le_refl _) ?_; intro w2 hg2 hb2; rw [List.length_replicate]))
  have hg3 : w2.heap[w.heap.size]? = some (.cells (trues (Nat.min 1 n) n).toArray 4 (0, 0)) := by
    have := trues_splice 0 n (Nat.min 1 n) (by rw [Nat.zero_add]; exact Nat.min_le_right _ _)
    rw [Nat.zero_add] at this
    rw [← this]
    exact hg2.out
  have HG := Lib.hid hg3
  clear hg2 hg3 hcA HM
  go_loopw [8] (fun i wr => ∃ m : Nat, m ≤ n ∧ (n = 0 ∨ 0 < m) ∧ i = .int .i64 m ∧ Hid (wr.heap[w.heap.size]? = some (.cells (trues m n).toArray 4 (0, 0))) ∧ Below w.heap.size w wr) (fun i _ => n - (intOf i).toNat)
  case atStart => exact ⟨Nat.min 1 n, Nat.min_le_right _ _, by rcases Nat.eq_zero_or_pos n with h | h; exact .inl h; exact .inr (by show 0 < min 1 n; omega), rfl, HG, hb2⟩
  case round =>
    obtain ⟨m, hm, h0, rfl, hg, hb⟩ := hrel
    by_cases hlt : m < n
    · have h0' : 0 < m := by omega
      clear h0
      have e1 : Nat.min m (n - m) = min m (n - m) := rfl
      go_wp2
      have hgd : wr.drew.heap[w.heap.size]? = some (.cells (trues m n).toArray 4 (0, 0)) := hg.out
      have HGD := Lib.hid hgd
      clear hgd
      go_region_law (go_loud (refine step_copy_splice (w := wr.drew) rfl (.tmp 41) (.tmp 44) 26 26 rfl 4 hu hsz (if n = m then some ⟨w.heap.size, 0, none⟩ else some ⟨w.heap.size, m, none⟩) (some ⟨w.heap.size, 0, none⟩) (n - m) (n - m) m n (by simp [Act.put, Act.eval]) (by simp [Act.put, Act.eval]) w.heap.size m (trues m n) 4 HGD.out (List.replicate (Nat.min m (n - m)) (.bool true)) (by simp) (fun _ => ⟨if_neg (show ¬ n = m by omega), _, rfl, src_trues (W := wr.drew) HGD.out (Nat.min_le_left _ _)⟩) (by rw [List.length_replicate, trues_len m n hm]; have h9 : Nat.min m (n - m) ≤ n - m := Nat.min_le_right _ _; omega) (rep_one _) w.heap.size w hb.drew (Nat.le_refl _) ?_); intro w4 hg4 hb4; rw [List.length_replicate])
      have h9 : Nat.min m (n - m) ≤ n - m := Nat.min_le_right _ _
      have h8 : 0 < Nat.min m (n - m) := by show 0 < min m (n - m); omega
      obtain ⟨q, hq⟩ : ∃ q, q = Nat.min m (n - m) := ⟨_, rfl⟩
      have hg5 : w4.heap[w.heap.size]? = some (.cells (trues (m + q) n).toArray 4 (0, 0)) := by rw [hq, ← trues_splice m n (Nat.min m (n - m)) (by omega)]; exact hg4.out
      have HG5 := Lib.hid hg5
      rw [← hq] at h9 h8 ⊢
      have hw : IntKind.i64.wrap ((m : Int) + (q : Int)) = (m : Int) + q := IntWalk.i64_in _ (by omega)
      have HQ := Lib.hid hq
      clear hg5 hg4 hq
      all_goals
        go_wp2
        go_roundw
        case rel =>
          exact ⟨m + q, by omega, .inr (by omega), by omega, HG5⟩
        case measure => simp [intOf]; omega
    · have : m = n := by omega
      subst this
      go_wp2
      go_ret
      exact ⟨_, rfl, hb, Nat.le_refl _, hg.out⟩
end Go.Proofs.Ytfmmbkggamojkaa
