/- Layer 3 in plain words: states of a host, what may be, what acts do. No program in it. -/
import Derived.Test.YtfmmbkggamojkaaL0
set_option linter.unusedVariables false
namespace Go.Proofs.Ytfmmbkggamojkaa
open Go.RowKit

/-- An act, as the page and the program have it. -/
structure Act3 where
  what : Int
  at_ : Int
  data : List UInt8
deriving DecidableEq
instance : Rep Act3 := Rep.iso (β := Act3) (fun a => (a.what, a.at_, a.data)) 40 (by decide)
/-- A state. -/
structure St3 where
  secs : List (List UInt8)
  waits : List Act3
  cap : Int
def St3.zero : St3 := ⟨[], [], 0⟩

def odd3 (b : List UInt8) : Bool := !decide (b.length = 64)
def may3 (cap : Int) (a : Act3) : Bool := (decide (a.what = 1) && decide (0 ≤ a.at_) && decide (a.at_ < cap) && decide (a.data.length = 64)) || (decide (a.what = 2) && decide (0 ≤ a.at_) && decide (a.at_ ≤ cap) && decide (a.data.length = 0))
/-- May a state be? -/
def ok3 (s : St3) : Bool := decide (1 ≤ s.cap) && decide (s.cap ≤ 65536) && decide ((s.secs.length : Int) ≤ s.cap) && !(s.secs.any odd3) && decide (s.waits.length ≤ 4096) && !(s.waits.any fun a => !may3 s.cap a)
/-- The length, behind some acts. -/
def len3 (n : Int) (l : List Act3) : Int := l.foldl (fun n a => if a.what = 2 then a.at_ else n) n
def size3 (s : St3) : Int := len3 s.secs.length s.waits
def zero3 : List UInt8 := List.replicate 64 0
/-- What an act makes of the sectors. -/
def do3 (l : List (List UInt8)) (a : Act3) : List (List UInt8) :=
  if a.what = 2 then l.take a.at_.toNat ++ List.replicate (a.at_.toNat - l.length) zero3 else l.set a.at_.toNat a.data
/-- Those of the acts that are kept, done. -/
def run3 (l : List (List UInt8)) (ws : List Act3) (keep : List Bool) : List (List UInt8) := (ws.zipIdx).foldl (fun l p => if keep.getD p.2 false then do3 l p.1 else l) l
def crash3 (s : St3) (keep : List Bool) : St3 := ⟨run3 s.secs s.waits keep, [], s.cap⟩
theorem len3_next (n : Int) (ws : List Act3) (k : Nat) (h : k < ws.length) : len3 n (ws.take (k + 1)) = if ws[k].what = 2 then ws[k].at_ else len3 n (ws.take k) := by
  rw [List.take_succ_eq_append_getElem h, len3, List.foldl_append]
  rfl
theorem run3_next (l : List (List UInt8)) (ws : List Act3) (keep : List Bool) (k : Nat) (h : k < ws.length) : run3 l (ws.take (k + 1)) keep = if keep.getD k false then do3 (run3 l (ws.take k) keep) ws[k] else run3 l (ws.take k) keep := by
  rw [List.take_succ_eq_append_getElem h, run3, List.zipIdx_append, List.foldl_append]
  simp [run3, Nat.min_eq_left (Nat.le_of_lt h)]
theorem ok3_iff (s : St3) : ok3 s = true ↔ 1 ≤ s.cap ∧ s.cap ≤ 65536 ∧ (s.secs.length : Int) ≤ s.cap ∧ (∀ b ∈ s.secs, b.length = 64) ∧ s.waits.length ≤ 4096 ∧ ∀ a ∈ s.waits, may3 s.cap a = true := by
  simp only [ok3, Bool.and_eq_true, decide_eq_true_eq, Bool.not_eq_true', List.any_eq_false, odd3]
  constructor
  · rintro ⟨⟨⟨⟨⟨h1, h2⟩, h3⟩, h4⟩, h5⟩, h6⟩
    exact ⟨h1, h2, h3, fun b hb => by simpa using h4 b hb, h5, fun a ha => by simpa using h6 a ha⟩
  · rintro ⟨h1, h2, h3, h4, h5, h6⟩
    exact ⟨⟨⟨⟨⟨h1, h2⟩, h3⟩, fun b hb => by simpa using h4 b hb⟩, h5⟩, fun a ha => by simpa using h6 a ha⟩
theorem may3_iff (cap : Int) (a : Act3) : may3 cap a = true ↔ (a.what = 1 ∧ 0 ≤ a.at_ ∧ a.at_ < cap ∧ a.data.length = 64) ∨ (a.what = 2 ∧ 0 ≤ a.at_ ∧ a.at_ ≤ cap ∧ a.data.length = 0) := by
  simp [may3, and_assoc]
theorem do3_len {cap : Int} {l : List (List UInt8)} {a : Act3} (hl : (l.length : Int) ≤ cap) (ha : may3 cap a = true) : ((do3 l a).length : Int) ≤ cap := by
  rcases (may3_iff cap a).1 ha with ⟨h1, h2, h3, h4⟩ | ⟨h1, h2, h3, h4⟩
  · unfold do3; rw [if_neg (by omega), List.length_set]; exact hl
  · unfold do3; rw [if_pos h1, List.length_append, List.length_take, List.length_replicate]; omega
theorem run3_len {cap : Int} {l : List (List UInt8)} {keep : List Bool} (hl : (l.length : Int) ≤ cap) (ws : List Act3) (hw : ∀ a ∈ ws, may3 cap a = true) : ∀ k, k ≤ ws.length → ((run3 l (ws.take k) keep).length : Int) ≤ cap := by
  intro k
  induction k with
  | zero => intro _; simpa [run3] using hl
  | succ k ih =>
    intro hk
    rw [run3_next l ws keep k (by omega)]
    split
    · exact do3_len (ih (by omega)) (hw _ (List.getElem_mem _))
    · exact ih (by omega)
/-- What a crash answers. -/
def crashR (s : St3) (keep : List Bool) : St3 := if ok3 s then crash3 s keep else St3.zero
end Go.Proofs.Ytfmmbkggamojkaa
