/- What is written over: octets, lists of them: nothing else turns. No condition but that they read, in memory that may be written. -/
import Derived.Test.YtfmmbkggamojkaaPl
import Derived.OpenShut
set_option linter.unusedVariables false
set_option linter.unusedSimpArgs false
namespace Go.Proofs.Ytfmmbkggamojkaa
open Go.RowKit

abbrev tU : BT := (5, 0, 0)
def IsByte (v : Option Value) : Prop := ∃ x : Int, 0 ≤ x ∧ x ≤ 255 ∧ v = some (.int .u8 x)
/-- So many octets may be written at a slice value. -/
structure Rb (w : World) (S : FP) (A : Option Addr) (n c : Nat) : Prop where
  cap : n ≤ c
  len : n ≤ 140737488351232
  cells : 0 < n → ∃ (ad : Addr) (cur : Array Value) (t : BT), A = some ad ∧ ad.spot = none ∧ w.heap[ad.block]? = some (.cells cur t.1 t.2) ∧ t.2 = (0, 0) ∧ S ad.block t ∧ ∀ j, j < n → IsByte cur[ad.off + j]?
/-- Octets within S are others; all else stays. -/
structure SpW (S : FP) (w w' : World) : Prop where
  os : w'.os = w.os
  tape : w'.tape = w.tape
  output : w'.output = w.output
  size : w'.heap.size = w.heap.size
  block : ∀ b : Nat, w'.heap[b]? = w.heap[b]? ∨ ∃ (c c' : Array Value) (t : BT), w.heap[b]? = some (.cells c t.1 t.2) ∧ w'.heap[b]? = some (.cells c' t.1 t.2) ∧ S b t ∧ ∀ j : Nat, (IsByte c[j]? → IsByte c'[j]?) ∧ (¬ IsByte c[j]? → c'[j]? = c[j]?)
theorem SpW.refl (S : FP) (w : World) : SpW S w w := ⟨rfl, rfl, rfl, rfl, fun _ => .inl rfl⟩
theorem SpW.trans {S : FP} {w w1 w2 : World} (h : SpW S w w1) (k : SpW S w1 w2) : SpW S w w2 :=
  ⟨k.os.trans h.os, k.tape.trans h.tape, k.output.trans h.output, k.size.trans h.size, fun b => by
    rcases h.block b with e | ⟨c, c', t, e1, e2, hs, hj⟩
    · rcases k.block b with e' | ⟨d, d', t', f1, f2, hs', hj'⟩
      · exact .inl (e'.trans e)
      · exact .inr ⟨d, d', t', by rw [← e]; exact f1, f2, hs', hj'⟩
    · rcases k.block b with e' | ⟨d, d', t', f1, f2, hs', hj'⟩
      · exact .inr ⟨c, c', t, e1, e'.trans e2, hs, hj⟩
      · rw [e2] at f1
        injection f1 with f1
        injection f1 with f1 f3 f4
        subst f1
        refine .inr ⟨c, d', t, e1, by rw [f2, f3, f4], hs, fun j => ⟨fun h => (hj' j).1 ((hj j).1 h), fun h => ?_⟩⟩
        have e5 := (hj j).2 h
        rw [(hj' j).2 (by rw [e5]; exact h), e5]⟩
theorem SpW.mono {S S' : FP} {w w1 : World} (h : SpW S w w1) (hS : ∀ b t, S b t → S' b t) : SpW S' w w1 :=
  ⟨h.os, h.tape, h.output, h.size, fun b => (h.block b).imp id fun ⟨c, c', t, e1, e2, hs, hj⟩ => ⟨c, c', t, e1, e2, hS _ _ hs, hj⟩⟩
theorem SpW.kp {S T : FP} {w w1 : World} (h : SpW S w w1) (hT : ∀ b t, T b t → ¬ S b t) : Kp w w1 T T := fun b t c hs hb => by
  refine ⟨hs, ?_⟩
  rcases h.block b with e | ⟨d, d', t', e1, e2, hs', hj⟩
  · rw [e]; exact hb
  · rw [e1] at hb
    injection hb with hb
    injection hb with _ h2 h3
    have : t' = t := by cases t; cases t'; simp_all
    subst this
    exact absurd hs' (hT b t' hs)
theorem SpW.below {S : FP} {w0 w w1 : World} {B : Nat} (hb : Below B w0 w) (h : SpW S w w1) (hS : ∀ b t, S b t → B ≤ b) : Below B w0 w1 :=
  ⟨h.os.trans hb.os, h.tape.trans hb.tape, h.output.trans hb.output, by rw [h.size]; exact hb.size, fun b hlt => by
    rcases h.block b with e | ⟨d, d', t, e1, e2, hs', hj⟩
    · rw [e]; exact hb.block b hlt
    · have := hS b t hs'; omega⟩
theorem Rb.move {S S2 : FP} {w w1 : World} {A : Option Addr} {n c : Nat} (h : Rb w S A n c) (k : SpW S2 w w1) : Rb w1 S A n c :=
  ⟨h.cap, h.len, fun hn => by
    obtain ⟨ad, cur, t, e, hs, hb, ht, hS, hj⟩ := h.cells hn
    rcases k.block ad.block with e1 | ⟨d, d', t', e1, e2, _, hj'⟩
    · exact ⟨ad, cur, t, e, hs, e1.trans hb, ht, hS, hj⟩
    · rw [e1] at hb
      injection hb with hb
      injection hb with hb h2 h3
      subst hb
      refine ⟨ad, d', t, e, hs, by rw [e2, h2, h3], ht, hS, fun j hjn => (hj' _).1 (hj j hjn)⟩⟩
theorem Rd.rb {w : World} {S : FP} {A : Option Addr} {c : Nat} {xs : List UInt8} (h : Rd w S A c xs) (hS : ∀ b t, S b t → t.2 = (0, 0)) : Rb w S A xs.length c :=
  ⟨h.cap, h.len, fun hn => by
    obtain ⟨ad, cur, t, e, hs, hb, hs2, hc⟩ := h.cells (by intro e; rw [e] at hn; simp at hn)
    refine ⟨ad, cur, t, e, hs, hb, hS _ _ hs2, hs2, fun j hj => ?_⟩
    have h1 : ((cur.toList.drop (ad.off + j * Rep.size UInt8)).take (Rep.size UInt8)) = [.int .u8 (xs[j].toNat : Int)] := hc j hj
    have e1 : ad.off + j * Rep.size UInt8 = ad.off + j := by show ad.off + j * 1 = _; omega
    rw [e1] at h1
    have h2 := congrArg (·[0]?) h1
    simp only [List.getElem?_cons_zero, List.getElem?_take, List.getElem?_drop, Nat.add_zero] at h2
    rw [if_pos (show 0 < Rep.size UInt8 by decide)] at h2
    rw [← Array.getElem?_toList]
    exact ⟨_, by omega, by have := xs[j].toNat_lt; omega, h2⟩⟩
/-- One octet. -/
theorem SpW.set {S : FP} {w : World} {ad : Addr} {n c j : Nat} {y : Int} (h : Rb w S (some ad) n c) (hj : j < n) (h0 : 0 ≤ y) (h1 : y ≤ 255) : SpW S w (w.setCell (ad.add j) (.int .u8 y)) := by
  obtain ⟨ad', cur, t, e, hs, hb, ht, hS, hc⟩ := h.cells (by omega)
  cases e
  rw [add_eq' ad hs]
  refine ⟨rfl, rfl, rfl, by simp, fun b => ?_⟩
  by_cases hbb : b = ad.block
  · subst hbb
    refine .inr ⟨cur, cur.setIfInBounds (ad.off + j) (.int .u8 y), t, hb, by simp [World.setCell, Array.getElem?_modify, hb], hS, fun i => ⟨fun hi => ?_, fun hi => ?_⟩⟩
    · rw [Array.getElem?_setIfInBounds]
      split
      · rename_i e
        subst e
        obtain ⟨x, _, _, hx⟩ := hi
        have hlt := (Array.getElem?_eq_some_iff.1 hx).1
        rw [if_pos hlt]
        exact ⟨y, h0, h1, rfl⟩
      · exact hi
    · rw [Array.getElem?_setIfInBounds]
      split
      · rename_i e
        subst e
        exact absurd (hc j hj) hi
      · rfl
  · exact .inl (Below.heap_setCell w _ _ b hbb)
theorem Rb.at_ {S : FP} {w : World} {A : Option Addr} {n c j : Nat} (h : Rb w S A n c) (hj : j < n) : ∃ ad x, A = some ad ∧ 0 ≤ x ∧ x ≤ 255 ∧ w.cell? (ad.add j) = some (.int .u8 x) ∧ w.frozen? (ad.add j) = false := by
  obtain ⟨ad, cur, t, e, hs, hb, ht, hS, hc⟩ := h.cells (by omega)
  obtain ⟨x, h0, h1, hx⟩ := hc j hj
  refine ⟨ad, x, e, h0, h1, ?_, ?_⟩
  · rw [add_eq' ad hs, cell_of_row w ad.block _ cur t.1 t.2 hb]; exact hx
  · rw [add_eq' ad hs]; simp [World.frozen?, hb, ht]
set_option maxHeartbeats 400000 in
theorem spoil_any (S : FP) (A : Option Addr) (n c : Nat) (w : World) (h : Rb w S A n c) :
    Calls Try.prog 18 #[.slice A n c] w fun e w' => e = .returned (.tuple #[]) ∧ SpW S w w' := by
  have l := h.len
  go_enter Try.func18, Try.ntmps18
  go_wp2
  go_loopw [2] (fun i wr => ∃ k : Nat, k ≤ n ∧ i = .int .i64 k ∧ Hid (SpW S w wr)) (fun i _ => n - (intOf i).toNat)
  case atStart => exact ⟨0, Nat.zero_le _, rfl, SpW.refl S w⟩
  case round =>
    obtain ⟨k, hk, rfl, hsp⟩ := hrel
    by_cases hlt : k < n
    · obtain ⟨ad, x, rfl, h0, h1, hc, hf⟩ := (h.move hsp.out).at_ hlt
      go_wp2
      go_roundw
      case rel => exact ⟨k + 1, by omega, by go_num, hsp.out.trans (SpW.set (h.move hsp.out) hlt (bounds_u8 (wf_bits ..)).1 (bounds_u8 (wf_bits ..)).2)⟩
      case measure => simp [intOf]; omega
    · go_wp2
      go_end0
      exact ⟨rfl, hsp.out⟩
/-- So many slices of octets that may be written. -/
structure Rl (w : World) (S : FP) (A : Option Addr) (n c : Nat) : Prop where
  cap : n ≤ c
  len : n ≤ 140737488351232
  cells : 0 < n → ∃ (ad : Addr) (cur : Array Value) (t : BT), A = some ad ∧ ad.spot = none ∧ w.heap[ad.block]? = some (.cells cur t.1 t.2) ∧ ∀ j, j < n → ∃ A' m c', cur[ad.off + j]? = some (.slice A' m c') ∧ Rb w S A' m c'
theorem no_byte {A : Option Addr} {n c : Nat} : ¬ IsByte (some (.slice A n c)) := fun ⟨x, _, _, h⟩ => by cases h
theorem Rl.move {S S2 : FP} {w w1 : World} {A : Option Addr} {n c : Nat} (h : Rl w S A n c) (k : SpW S2 w w1) : Rl w1 S A n c :=
  ⟨h.cap, h.len, fun hn => by
    obtain ⟨ad, cur, t, e, hs, hb, hj⟩ := h.cells hn
    rcases k.block ad.block with e1 | ⟨d, d', t', e1, e2, _, hj'⟩
    · exact ⟨ad, cur, t, e, hs, e1.trans hb, fun j hjn => by obtain ⟨A', m, c', h1, h2⟩ := hj j hjn; exact ⟨A', m, c', h1, h2.move k⟩⟩
    · rw [e1] at hb
      injection hb with hb
      injection hb with hb h2 h3
      subst hb
      refine ⟨ad, d', t, e, hs, by rw [e2, h2, h3], fun j hjn => ?_⟩
      obtain ⟨A', m, c', h1, h2⟩ := hj j hjn
      exact ⟨A', m, c', by rw [(hj' _).2 (by rw [h1]; exact no_byte), h1], h2.move k⟩⟩
theorem Rl.at_ {S : FP} {w : World} {A : Option Addr} {n c j : Nat} (h : Rl w S A n c) (hj : j < n) : ∃ ad A' m c', A = some ad ∧ w.cell? (ad.add j) = some (.slice A' m c') ∧ Rb w S A' m c' := by
  obtain ⟨ad, cur, t, e, hs, hb, hc⟩ := h.cells (by omega)
  obtain ⟨A', m, c', h1, h2⟩ := hc j hj
  refine ⟨ad, A', m, c', e, ?_, h2⟩
  rw [add_eq' ad hs, cell_of_row w ad.block _ cur t.1 t.2 hb]; exact h1
theorem Rd.rl {w : World} {S : FP} {A : Option Addr} {c : Nat} {xs : List (List UInt8)} (h : Rd w S A c xs) (hS : ∀ b t, S b t → t.2 = (0, 0)) : Rl w S A xs.length c :=
  ⟨h.cap, h.len, fun hn => by
    obtain ⟨ad, cur, t, e, hs, hb, hs2, hc⟩ := h.cells (by intro e; rw [e] at hn; simp at hn)
    refine ⟨ad, cur, t, e, hs, hb, fun j hj => ?_⟩
    obtain ⟨A', c', h1, h3⟩ := hc j hj
    have e1 : ad.off + j * Rep.size (List UInt8) = ad.off + j := by show ad.off + j * 1 = _; omega
    rw [e1] at h1
    have h2 := congrArg (·[0]?) h1
    simp only [List.getElem?_cons_zero, List.getElem?_take, List.getElem?_drop, Nat.add_zero] at h2
    rw [if_pos (show 0 < Rep.size (List UInt8) by decide)] at h2
    rw [← Array.getElem?_toList]
    exact ⟨A', _, c', h2, h3.rb hS⟩⟩
set_option maxHeartbeats 400000 in
theorem spoil_list (S : FP) (A : Option Addr) (n c : Nat) (w : World) (h : Rl w S A n c) :
    Calls Try.prog 19 #[.slice A n c] w fun e w' => e = .returned (.tuple #[]) ∧ SpW S w w' := by
  have l := h.len
  go_enter Try.func19, Try.ntmps19
  go_wp2
  go_loopw [2] (fun i wr => ∃ k : Nat, k ≤ n ∧ i = .int .i64 k ∧ Hid (SpW S w wr)) (fun i _ => n - (intOf i).toNat)
  case atStart => exact ⟨0, Nat.zero_le _, rfl, SpW.refl S w⟩
  case round =>
    obtain ⟨k, hk, rfl, hsp⟩ := hrel
    by_cases hlt : k < n
    · obtain ⟨ad, A', m, c', rfl, hc, hr⟩ := (h.move hsp.out).at_ hlt
      go_wp2_with (go_at_call 18; refine (spoil_any S A' m c' _ hr).mono ?_; rintro e w' ⟨rfl, hs2⟩; have HS2 := Lib.hid hs2; clear hs2)
      go_roundw
      case rel => exact ⟨k + 1, by omega, by go_num, hsp.out.trans HS2.out⟩
      case measure => simp [intOf]; omega
    · go_wp2
      go_end0
      exact ⟨rfl, hsp.out⟩
end Go.Proofs.Ytfmmbkggamojkaa
