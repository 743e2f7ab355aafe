/- Layer 3, what an act does to a state of one's own. The state may be; the act may wait. -/
import Derived.Test.YtfmmbkggamojkaaHf
import Derived.RegionTactic
import Derived.Deep.QuietTactic
import Derived.BigQuiet
import Derived.BigRegion
import Derived.StillTailTactics
set_option linter.unusedVariables false
set_option linter.unusedSimpArgs false
namespace Go.Proofs.Ytfmmbkggamojkaa
open Go.RowKit

/-- Sectors from block B0 on. -/
abbrev FrL3 (B0 : Nat) : FP := fun b t => B0 ≤ b ∧ (t = tL ∨ t = tB)
/-- What 'do' leaves. -/
def Did (B0 B : Nat) (V : Value) (cap : Int) (l : List (List UInt8)) (w : World) (e : Ending) (w' : World) : Prop := e = .returned (.tuple #[]) ∧ ∃ A c, Bx w' B [.slice A l.length c, V, .int .i64 cap] 30 ∧ Ow w' 36 (FrL3 B0) (.slice A l.length c) l ∧
  Below B0 w w' ∧ ∀ S : FP, (∀ b t, S b t → b ≠ B ∧ (t ≠ tL ∨ b < B0)) → Kp w w' S S

theorem keep_l {B0 B : Nat} {w W : World} (hb : Below w.heap.size w W) {g i : Nat} {e : TypeId} {cap : Nat} {F : Nat → FP} {l : List (List UInt8)} {u : Value} (og : OwG w 36 g cap F l) (hg : B0 ≤ g) : ∀ S : FP, (∀ b t, S b t → b ≠ B ∧ (t ≠ tL ∨ b < B0)) → Kp w (W.setCell ⟨g, i, none⟩ u) S S := fun S hS =>
  (Kp.below hb S).trans (Kp.otherRow (og.below hb) fun b t h => by rcases (hS b t h).2 with h | h; exact .inr h; exact .inl (by omega))
theorem did_write (B0 B : Nat) (V : Value) (cap : Int) (l : List (List UInt8)) (A3 : Option Addr) (c c3 g k : Nat) (data : List UInt8) (w W : World) (hb : Below w.heap.size w W) (hB : B0 ≤ B) (hB0 : B0 ≤ w.heap.size) (x : Bx w B [.slice (some ⟨g, 0, none⟩) l.length c, V, .int .i64 cap] 30)
    (hg : B0 ≤ g) (og : OwG w 36 g c (fun _ => FrL3 B0) l) (h3 : Rd w (fun b t => B0 ≤ b ∧ t = tB) A3 c3 data) (hk : k < l.length) : Did B0 B V cap (l.set k data) w (.returned (.tuple #[])) (W.setCell ⟨g, k, none⟩ (.slice A3 data.length c3)) := by
  have hne : B ≠ g := fun e => og.ne_ (b := B) (t := (30, 0, 0)) x.blk (by decide) e
  have h1 := (og.below hb).put k hk 0 (by decide) (.slice A3 data.length c3) data (FrL3 B0) (fun cs hcs => by
    have hl := Rep.len hcs
    obtain ⟨u, rfl⟩ := List.length_eq_one_iff.1 hl
    exact ⟨A3, c3, rfl, (h3.below hb).move fun b t c hs hb2 => ⟨⟨⟨hs.1, .inr hs.2⟩, (og.below hb).ne_ hb2 (by rw [hs.2]; decide)⟩, hb2⟩⟩)
  rw [show k * Rep.size (List UInt8) + 0 = k from by show k * 1 + 0 = k; omega] at h1
  refine ⟨rfl, _, c, by rw [List.length_set]; exact (x.keep hb).far (p := ⟨g, k, none⟩) hne _, by rw [List.length_set]; have := h1.ow (S := FrL3 B0) ⟨hg, .inl rfl⟩ (fun j b t _ h => by split at h <;> exact h); rw [List.length_set] at this; exact this, (hb.mono hB0).setCell hg _, keep_l (e := 0) hb og hg⟩
set_option maxHeartbeats 1000000 in
theorem do_write (B0 B : Nat) (V : Value) (cap : Int) (l : List (List UInt8)) (A A3 : Option Addr) (c c3 : Nat) (a : Act3) (w : World) (hB : B0 ≤ B) (hB0 : B0 ≤ w.heap.size) (x : Bx w B [.slice A l.length c, V, .int .i64 cap] 30) (o : Ow w 36 (FrL3 B0) (.slice A l.length c) l)
    (h3 : Rd w (fun b t => B0 ≤ b ∧ t = tB) A3 c3 a.data) (hw : a.what ≠ 2) (h0 : 0 ≤ a.at_) :
    Calls Try.prog 32 #[.pointer (some ⟨B, 0, none⟩), .agg #[.int .i64 a.what, .int .i64 a.at_, .slice A3 a.data.length c3]] w (Did B0 B V cap (do3 l a) w) := by
  obtain ⟨what, at_, data⟩ := a
  dsimp only at h3 hw h0 ⊢
  obtain ⟨k, rfl⟩ := Int.eq_ofNat_of_zero_le h0
  have e1 : (what == 2) = false := by simpa using hw
  have hd : do3 l ⟨what, k, data⟩ = l.set k data := by unfold do3; rw [if_neg hw]; rfl
  clear hw
  have hxl := x.lt
  have xc := x.three
  have hne : B ≠ w.heap.size := by omega
  rw [hd]
  by_cases hlt : k < l.length
  · obtain ⟨g, cap', hv, hg, og⟩ := o.form (by intro e; subst e; simp at hlt)
    injection hv with hv1 hv2 hv3
    subst hv1
    subst hv3
    obtain ⟨cs, hcs, hcell, hfr⟩ := og.at_ k hlt
    obtain ⟨A', c', rfl, hr⟩ := hcs
    have q0 := hcell 0 _ rfl
    rw [show k * Rep.size (List UInt8) + 0 = k from by show k * 1 + 0 = k; omega] at q0
    have q1 := hfr k
    have hgl := og.lt
    have hng : g ≠ w.heap.size := by omega
    go_enter Try.func32, Try.ntmps32
    go_wp2
    go_quiet (fail)
    go_wp2
    go_region
    all_goals
      go_wp2
      go_end0
      exact did_write B0 B V cap l A3 c c3 g k data w _ (by repeat (first | exact Below.refl _ _ | apply below_drewN | apply Below.drew | apply below_alloc)) hB hB0 x hg.1 og h3 hlt
  · have hd2 : l.set k data = l := List.set_eq_of_length_le (by omega)
    rw [hd2]
    go_enter Try.func32, Try.ntmps32
    go_wp2
    go_quiet (fail)
    go_wp2
    go_end0
    have hb : Below w.heap.size w ((w.alloc (.cells #[.int .i64 what, .int .i64 k, .slice A3 data.length c3] 49)).drewN nq) := below_drewN (below_alloc (Below.refl _ _) _) _
    exact ⟨rfl, A, c, x.keep hb, o.below hb, hb.mono hB0, fun S _ => Kp.below hb S⟩
end Go.Proofs.Ytfmmbkggamojkaa
