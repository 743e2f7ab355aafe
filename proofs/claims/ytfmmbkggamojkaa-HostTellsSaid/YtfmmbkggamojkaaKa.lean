/- The page's layer 3: may a state be; octets in memory of their own. No condition but that the state reads. -/
import Derived.Test.YtfmmbkggamojkaaLb
import Derived.Test.YtfmmbkggamojkaaP5
set_option linter.unusedVariables false
set_option linter.unusedSimpArgs false
namespace Go.Proofs.Ytfmmbkggamojkaa
open Go.RowKit

set_option maxHeartbeats 400000 in
theorem copied_any (S : FP) (A : Option Addr) (c : Nat) (xs : List UInt8) (w : World) (h : Rd w S A c xs) :
    Calls Try.prog 43 #[.slice A xs.length c] w fun e w' => ∃ v, e = .returned v ∧ Below w.heap.size w w' ∧ (∀ g, v.ownBlock = some g → w.heap.size ≤ g) ∧ Ow w' 5 (FrB w) v xs := by
  have hu := Try.underlying36
  go_enter Try.func43, Try.ntmps43
  go_wp2_with (at_builtin; refine wl_app (v := .slice none 0 0) (xs := []) (S := fun _ _ => False) rfl (.tmp 4) (.tmp 5) _ _ rfl hu infoB rfl _ _ rfl rfl .nil_ h (fun _ _ _ e => by cases e) (by simpa using h.room) ?_; intro v' w' hg hat hn)
  go_ret
  have hfr : ∀ g, v'.ownBlock = some g → w.heap.size ≤ g := fun g hg' => by
    rcases hat with h | h
    · rw [h] at hg'; cases hg'
    · rw [h] at hg'; simp at hg'; omega
  exact ⟨v', rfl, below_app (Below.refl _ _) hg (fun g e => by cases e), hfr, (hn (fun _ _ => True) (fun _ _ _ _ => trivial) (fun _ _ _ _ => trivial) trivial).flat fun g hg' => ⟨hfr g hg', rfl⟩⟩
theorem infoR : (Try.prog.info? 39).map (fun i => (i.zero, i.size, i.bytes)) = some (some (.agg #[.int .i64 0, .int .i64 0, .slice none 0 0]), 3, 40) := by kernel_rfl
theorem ok3_head {s : St3} (h : s.cap < 1 ∨ 65536 < s.cap ∨ s.cap < s.secs.length ∨ 4096 < s.waits.length) : ok3 s = false := by
  cases e : ok3 s
  · rfl
  · have := (ok3_iff s).1 e; omega
theorem ok3_sec {s : St3} {k : Nat} (hk : k < s.secs.length) (h : s.secs[k].length ≠ 64) : ok3 s = false := by
  cases e : ok3 s
  · rfl
  · exact absurd (((ok3_iff s).1 e).2.2.2.1 _ (List.getElem_mem hk)) h
theorem ok3_act {s : St3} {k : Nat} (hk : k < s.waits.length) (h : may3 s.cap s.waits[k] = false) : ok3 s = false := by
  cases e : ok3 s
  · rfl
  · have := ((ok3_iff s).1 e).2.2.2.2.2 _ (List.getElem_mem hk); rw [h] at this; cases this
theorem ok3_yes {s : St3} (h0 : ¬ s.cap < 1) (h1 : ¬ 65536 < s.cap) (h2 : ¬ s.cap < s.secs.length) (h3 : ¬ 4096 < s.waits.length) (h4 : ∀ k (h : k < s.secs.length), s.secs[k].length = 64) (h5 : ∀ k (h : k < s.waits.length), may3 s.cap s.waits[k] = true) : ok3 s = true := by
  refine (ok3_iff s).2 ⟨by omega, by omega, by omega, fun b hb => ?_, by omega, fun a ha => ?_⟩
  · obtain ⟨k, hk, rfl⟩ := List.mem_iff_getElem.1 hb; exact h4 k hk
  · obtain ⟨k, hk, rfl⟩ := List.mem_iff_getElem.1 ha; exact h5 k hk
/-- The two tests of an act, as the page makes them. -/
def wr3 (cap : Int) (a : Act3) : Bool := decide (a.what = 1) && decide (0 ≤ a.at_) && decide (a.at_ < cap) && decide (a.data.length = 64)
def ln3 (cap : Int) (a : Act3) : Bool := decide (a.what = 2) && decide (0 ≤ a.at_) && decide (a.at_ ≤ cap) && decide (a.data.length = 0)
theorem may3_eq (cap : Int) (a : Act3) : may3 cap a = (wr3 cap a || ln3 cap a) := rfl
/-- All rounds before k passed. -/
def Pass {α : Type} (p : α → Prop) (l : List α) (k : Nat) : Prop := ∀ j (h : j < l.length), j < k → p l[j]
theorem Pass.next {α : Type} {p : α → Prop} {l : List α} {k : Nat} (h : Pass p l k) (hk : k < l.length) (hp : p l[k]) : Pass p l (k + 1) := fun j hj hjk => by
  by_cases e : j = k
  · subst e; exact hp
  · exact h j hj (by omega)
set_option maxRecDepth 100000 in
set_option maxHeartbeats 2000000 in
theorem rcheck_any (s : St3) (S1 S2 : FP) (A1 A2 : Option Addr) (c1 c2 : Nat) (w : World) (h1 : Rd w S1 A1 c1 s.secs) (h2 : Rd w S2 A2 c2 s.waits) :
    Calls Try.prog 29 #[.agg #[.slice A1 s.secs.length c1, .slice A2 s.waits.length c2, .int .i64 s.cap]] w fun e w' => e = .returned (.int .i64 (err3 (ok3 s))) ∧ Below w.heap.size w w' := by
  have l1 := h1.len
  have l2 := h2.len
  have b0 : Below w.heap.size w (w.alloc (.cells #[.slice A1 s.secs.length c1, .slice A2 s.waits.length c2, .int .i64 s.cap] 25)) := below_alloc (Below.refl _ _) _
  have x0 := Bx.new w [.slice A1 s.secs.length c1, .slice A2 s.waits.length c2, .int .i64 s.cap] 25
  by_cases t1 : s.cap < 1
  · go_enter Try.func29, Try.ntmps29
    go_wp2
    go_ret
    exact ⟨by rw [show ok3 s = false from ok3_head (.inl t1)]; rfl, by first | exact b | exact b0⟩
  by_cases t2 : 65536 < s.cap
  · go_enter Try.func29, Try.ntmps29
    go_wp2
    go_ret
    exact ⟨by rw [show ok3 s = false from ok3_head (.inr (.inl t2))]; rfl, by first | exact b | exact b0⟩
  by_cases t3 : s.cap < s.secs.length
  · go_enter Try.func29, Try.ntmps29
    go_wp2
    go_ret
    exact ⟨by rw [show ok3 s = false from ok3_head (.inr (.inr (.inl t3)))]; rfl, by first | exact b | exact b0⟩
  by_cases t4 : 4096 < s.waits.length
  · go_enter Try.func29, Try.ntmps29
    go_wp2
    go_ret
    exact ⟨by rw [show ok3 s = false from ok3_head (.inr (.inr (.inr t4)))]; rfl, by first | exact b | exact b0⟩
  go_enter Try.func29, Try.ntmps29
  go_wp2
  go_loopw [3] (fun i wr => ∃ k : Nat, k ≤ s.secs.length ∧ i = .int .i64 k ∧ Hid (Pass (fun b => b.length = 64) s.secs k) ∧ Bx wr w.heap.size [.slice A1 s.secs.length c1, .slice A2 s.waits.length c2, .int .i64 s.cap] 25 ∧ Below w.heap.size w wr) (fun i _ => s.secs.length - (intOf i).toNat)
  case atStart => exact ⟨0, Nat.zero_le _, rfl, fun j h hj => by omega, x0, b0⟩
  case round =>
    clear x0 b0
    obtain ⟨k, hk, rfl, hp, x, b⟩ := hrel
    have kx := x.three
    by_cases hlt : k < s.secs.length
    · obtain ⟨ad, v, rfl, hc, A8, c8, hv, hr8⟩ := (h1.below b).at1 rfl k hlt
      simp only [List.cons.injEq, and_true] at hv
      subst hv
      by_cases t5 : s.secs[k].length = 64
      · have t5' : ((s.secs[k].length : Int) != 64) = false := by rw [t5]; rfl
        have T5 := Lib.hid t5
        clear t5
        go_wp2
        go_roundw
        case rel => exact ⟨k + 1, hlt, by go_num, hp.out.next hlt T5.out, x, b⟩
        case measure => simp [intOf]; omega
      · have t5' : ((s.secs[k].length : Int) != 64) = true := by simp; omega
        have T5 := Lib.hid t5
        clear t5
        go_wp2
        go_ret
        exact ⟨by rw [show ok3 s = false from ok3_sec hlt T5.out]; rfl, by first | exact b | exact b0⟩
    · have hp' : Hid (∀ j (h : j < s.secs.length), s.secs[j].length = 64) := fun j h => hp.out j h (by omega)
      clear hp
      go_wp2
      go_loopw [4, 5, 6, 7] (fun i _ _ _ wr => ∃ k : Nat, k ≤ s.waits.length ∧ i = .int .i64 k ∧ Hid (Pass (fun a => may3 s.cap a = true) s.waits k) ∧ Bx wr w.heap.size [.slice A1 s.secs.length c1, .slice A2 s.waits.length c2, .int .i64 s.cap] 25 ∧ Below w.heap.size w wr) (fun i _ _ _ _ => s.waits.length - (intOf i).toNat)
      case atStart => exact ⟨0, Nat.zero_le _, rfl, fun j h hj => by omega, x, b⟩
      case round =>
        clear x b kx hlt hk
        obtain ⟨k, hk, rfl, hp, x, b⟩ := hrel
        have kx := x.three
        by_cases hlt : k < s.waits.length
        · obtain ⟨ad2, A', c', rfl, hr, i1, i2, q0, q1, q2⟩ := acts_at h2 k hlt
          have hq := acts_keep b ⟨q0, q1, q2⟩
          clear q0 q1 q2 hr
          obtain ⟨a, ha⟩ : ∃ a, a = s.waits[k] := ⟨_, rfl⟩
          have HA := Lib.hid ha
          rw [← ha] at hq i1 i2
          clear ha
          have x' := x.alloc (.cells #[.int .i64 a.what, .int .i64 a.at_, .slice A' a.data.length c'] 39)
          have kx' := x'.three
          have b' := below_alloc b (.cells #[.int .i64 a.what, .int .i64 a.at_, .slice A' a.data.length c'] 39)
          have fin : ∀ (r1 r2 : Bool), wr3 s.cap a = r1 → ln3 s.cap a = r2 → may3 s.cap s.waits[k] = (r1 || r2) := fun r1 r2 e1 e2 => by rw [← HA.out, may3_eq, e1, e2]
          have FIN := Lib.hid fin
          clear fin
          by_cases t6 : a.what = 1
          · by_cases t7 : 0 ≤ a.at_ <;> by_cases t8 : a.at_ < s.cap <;> by_cases t9 : a.data.length = 64
            all_goals (try (exfalso; omega))
            all_goals
              have hm := FIN.out (decide (0 ≤ a.at_) && decide (a.at_ < s.cap) && decide (a.data.length = 64)) false (by simp [wr3, t6]) (by simp [ln3, t6])
              have g6 : (a.what == 1) = true := by simp [t6]
              have g7 : (a.what == 2) = false := by simp [t6]
              have g9 : ((a.data.length : Int) == 64) = decide (a.data.length = 64) := by by_cases h : a.data.length = 64 <;> simp [h]; try omega
              first | rw [decide_eq_true t9] at g9 hm | rw [decide_eq_false t9] at g9 hm
              first | rw [decide_eq_true t8] at hm | rw [decide_eq_false t8] at hm
              first | rw [decide_eq_true t7] at hm | rw [decide_eq_false t7] at hm
              simp only [Bool.and_true, Bool.and_false, Bool.or_false] at hm
              have HM := Lib.hid hm
              clear hm t6 t9 FIN
              go_wp2
              first
                | (go_ret; exact ⟨by rw [show ok3 s = false from ok3_act hlt HM.out]; rfl, b'⟩)
                | (go_roundw
                   case rel => exact ⟨k + 1, hlt, by go_num, hp.out.next hlt HM.out, x', b'⟩
                   case measure => simp [intOf]; omega)
          · by_cases t6' : a.what = 2
            · by_cases t7 : 0 ≤ a.at_ <;> by_cases t8 : a.at_ ≤ s.cap <;> by_cases t9 : a.data.length = 0
              all_goals (try (exfalso; omega))
              all_goals
                have hm := FIN.out false (decide (0 ≤ a.at_) && decide (a.at_ ≤ s.cap) && decide (a.data.length = 0)) (by simp [wr3, t6]) (by simp [ln3, t6'])
                have g6 : (a.what == 1) = false := by simp [t6]
                have g7 : (a.what == 2) = true := by simp [t6']
                have g9 : ((a.data.length : Int) == 0) = decide (a.data.length = 0) := by by_cases h : a.data.length = 0 <;> simp [h]; try omega
                first | rw [decide_eq_true t9] at g9 hm | rw [decide_eq_false t9] at g9 hm
                first | rw [decide_eq_true t8] at hm | rw [decide_eq_false t8] at hm
                first | rw [decide_eq_true t7] at hm | rw [decide_eq_false t7] at hm
                simp only [Bool.and_true, Bool.and_false, Bool.false_or] at hm
                have HM := Lib.hid hm
                clear hm t6 t6' t9 FIN
                go_wp2
                first
                  | (go_ret; exact ⟨by rw [show ok3 s = false from ok3_act hlt HM.out]; rfl, b'⟩)
                  | (go_roundw
                     case rel => exact ⟨k + 1, hlt, by go_num, hp.out.next hlt HM.out, x', b'⟩
                     case measure => simp [intOf]; omega)
            · have hm := FIN.out false false (by simp [wr3, t6]) (by simp [ln3, t6'])
              have g6 : (a.what == 1) = false := by simp [t6]
              have g7 : (a.what == 2) = false := by simp [t6']
              have HM := Lib.hid hm
              clear hm t6 t6' FIN
              go_wp2
              go_ret
              exact ⟨by rw [show ok3 s = false from ok3_act hlt HM.out]; rfl, b'⟩
        · have hok := ok3_yes (s := s) (by omega) (by omega) (by omega) (by omega) hp'.out (fun j h => hp.out j h (by omega))
          have HOK := Lib.hid hok
          clear hok
          go_wp2
          go_ret
          exact ⟨by rw [HOK.out]; rfl, b⟩
end Go.Proofs.Ytfmmbkggamojkaa
