/- Layer 3, an act more waits. No condition but that the state reads. -/
import Derived.Test.YtfmmbkggamojkaaHd
set_option linter.unusedVariables false
set_option linter.unusedSimpArgs false
namespace Go.Proofs.Ytfmmbkggamojkaa
open Go.RowKit

theorem frA_ne {w : World} {g : Nat} : ∀ b u, FrA w b u → b ≠ g ∨ u ≠ (30, 0, 0) := fun b u h => .inr (by rcases h.2 with h | h <;> (rw [h]; decide))
theorem frS_ne {w : World} {g : Nat} : ∀ b u, FrS w b u → b ≠ g ∨ u ≠ (30, 0, 0) := fun b u h => .inr (by rcases h.2 with h | h <;> (rw [h]; decide))
theorem act_mk {w : World} {S : FP} {what at_ : Int} {data : List UInt8} {A : Option Addr} {c : Nat} (i1 : InK .i64 what) (i2 : InK .i64 at_) (h : Rd w S A c data) : Rep.has w S (Act3.mk what at_ data) [.int .i64 what, .int .i64 at_, .slice A data.length c] :=
  ⟨[.int .i64 what], [.int .i64 at_, .slice A data.length c], rfl, ⟨rfl, i1⟩, [.int .i64 at_], [.slice A data.length c], rfl, ⟨rfl, i2⟩, A, c, rfl, h⟩
theorem ap_fresh {α : Type} [Rep α] {w W : World} {e : TypeId} {S : FP} {v : Value} {xs : List α} {T : BT → Prop} (o : Ow w e (fun b t => W.heap.size ≤ b ∧ T t) v xs) (h : ∀ b t, S b t → b < W.heap.size) : ∀ b t, S b t → v.ownBlock ≠ some b := fun b t hs e => by
  have := (o.at_S b e).1
  have := h b t hs
  omega
theorem box_app {α : Type} [Rep α] {w W : World} {e : TypeId} {v : Value} {xs : List α} {T : BT → Prop} {g : Nat} (o : Ow w e (fun b t => W.heap.size ≤ b ∧ T t) v xs) (hg : g < w.heap.size) (h : g < W.heap.size) : some g ≠ v.ownBlock := fun e => by
  have := (o.at_S g e.symm).1
  omega
/-- An append to a row of one's own leaves what is of another kind. -/
theorem Kp.app' {α : Type} [Rep α] {w w' : World} {e : TypeId} {S S' : FP} {v : Value} {xs : List α} (o : Ow w e S' v xs) (hg : w.grownBy w' v.ownBlock) (hS : ∀ b t, S b t → t ≠ (e, 0, 0) ∨ v.ownBlock ≠ some b) : Kp w w' S S := fun b t c hs hb =>
  ⟨hs, by
    rw [hg.block b (Array.getElem?_eq_some_iff.1 hb).1 ?_]
    · exact hb
    · intro e1
      rcases hS b t hs with h | h
      · cases o with
        | nil_ => simp [Value.ownBlock] at e1
        | row_ g cap cur xs hb2 _ _ _ _ _ _ =>
          have : b = g := by simpa [Value.ownBlock] using e1
          subst this
          rw [hb] at hb2
          injection hb2 with hb2
          injection hb2 with _ h2 h3
          exact h (by cases t; simp_all)
      · exact h e1.symm⟩
/-- A state comes back; what its last act bears lies in S3. -/
def Waited (s : St3) (S3 : FP) (w : World) (e : Ending) (w' : World) : Prop := ∃ A1 c1 A2 c2, e = .returned (.agg #[.slice A1 s.secs.length c1, .slice A2 s.waits.length c2, .int .i64 s.cap]) ∧ Below w.heap.size w w' ∧
  Ow w' 36 (FrS w) (.slice A1 s.secs.length c1) s.secs ∧ Ow w' 49 (fun b t => FrA w b t ∨ S3 b t) (.slice A2 s.waits.length c2) s.waits
set_option maxHeartbeats 1000000 in
theorem wait_any (s : St3) (S1 S2 S3 : FP) (A1 A2 A3 : Option Addr) (c1 c2 c3 : Nat) (a : Act3) (w : World) (h1 : Rd w S1 A1 c1 s.secs) (h2 : Rd w S2 A2 c2 s.waits) (h3 : Rd w S3 A3 c3 a.data) (i1 : InK .i64 a.what) (i2 : InK .i64 a.at_)
    (hS1 : Hid (∀ b t, S1 b t → b < w.heap.size)) (hS2 : Hid (∀ b t, S2 b t → b < w.heap.size)) (hS3 : Hid (∀ b t, S3 b t → b < w.heap.size)) (hm : Fit (s.waits.length + 1) 40) :
    Calls Try.prog 40 #[.agg #[.slice A1 s.secs.length c1, .slice A2 s.waits.length c2, .int .i64 s.cap], .agg #[.int .i64 a.what, .int .i64 a.at_, .slice A3 a.data.length c3]] w
      (Waited ⟨s.secs, s.waits ++ [a], s.cap⟩ S3 w) := by
  obtain ⟨secs, waits, cap⟩ := s
  obtain ⟨what, at_, data⟩ := a
  dsimp only at h1 h2 h3 i1 i2 hm ⊢
  have hu := Try.underlying28
  have b0 : Below w.heap.size w (((w.alloc (.cells #[.slice A1 secs.length c1, .slice A2 waits.length c2, .int .i64 cap] 30)).alloc (.cells #[.int .i64 what, .int .i64 at_, .slice A3 data.length c3] 49)).alloc (.cells #[.slice none 0 0, .slice none 0 0, .int .i64 0] 30)) := below_alloc (below_alloc (below_alloc (Below.refl _ _) _) _) _
  have x0 := ((Bx.new w [.slice A1 secs.length c1, .slice A2 waits.length c2, .int .i64 cap] 30).alloc (.cells #[.int .i64 what, .int .i64 at_, .slice A3 data.length c3] 49)).alloc (.cells #[.slice none 0 0, .slice none 0 0, .int .i64 0] 30)
  have y0 := (Bx.new (w.alloc (.cells #[.slice A1 secs.length c1, .slice A2 waits.length c2, .int .i64 cap] 30)) [.int .i64 what, .int .i64 at_, .slice A3 data.length c3] 49).alloc (.cells #[.slice none 0 0, .slice none 0 0, .int .i64 0] 30)
  have z0 := (Bx.new ((w.alloc (.cells #[.slice A1 secs.length c1, .slice A2 waits.length c2, .int .i64 cap] 30)).alloc (.cells #[.int .i64 what, .int .i64 at_, .slice A3 data.length c3] 49)) [.slice none 0 0, .slice none 0 0, .int .i64 0] 30)
  simp only [World.size_alloc] at y0 z0
  go_enter Try.func40, Try.ntmps40
  go_wp2_with (first
    | (go_at_call 31; refine (hclone_any ⟨secs, waits, cap⟩ S1 S2 A1 A2 c1 c2 _ (h1.below b0) (h2.below b0) (fun b t h => by have := hS1.out b t h; simp; omega) (fun b t h => by have := hS2.out b t h; simp; omega)).mono ?_; rintro e w1 ⟨B1, d1, B2, d2, rfl, hb1, o1, o2, _⟩; have x1 := (x0.keep hb1).three; have y1 := (y0.keep hb1).three; have yb := y0.keep hb1; have xb := x0.keep hb1)
    | (at_builtin; go_loud (refine wl_app1 (x := ⟨what, at_, data⟩) (cs := [.int .i64 what, .int .i64 at_, .slice A3 data.length c3]) (S2 := S3) rfl (.tmp 8) (.tmp 10) _ _ rfl hu info49 rfl rfl rfl (by simp) (o2.move (Kp.box3 xb frA_ne _ _ _)) (act_mk i1 i2 ((h3.below (below_then b0 hb1)).move (Kp.box3 xb (fun b t h => .inl (Nat.ne_of_lt (hS3.out b t h))) _ _ _))) (ap_fresh o2 (fun b t h => Nat.lt_of_lt_of_le (hS3.out b t h) (by simp; omega))) hm ?_); intro v2 w2 hg hat hn; obtain ⟨F2, e2, rfl, _⟩ := (hn (fun _ _ => True) (fun _ _ _ _ => trivial) (fun _ _ _ _ => trivial) (fun _ _ => trivial)).rd; have xc := (((xb.set_ 0 (.slice B1 secs.length d1)).set_ 1 (.slice B2 waits.length d2)).set_ 2 (.int .i64 cap)).grown hg (box_app o2 xb.lt (by simp; omega)); have zc := ((((z0.keep hb1).far (p := ⟨w.heap.size, 0, none⟩) (by simp; omega) (.slice B1 secs.length d1)).far (p := ⟨w.heap.size, 1, none⟩) (by simp; omega) (.slice B2 waits.length d2)).far (p := ⟨w.heap.size, 2, none⟩) (by simp; omega) (.int .i64 cap)).grown hg (box_app o2 (z0.keep hb1).lt (by simp)); have xd := xc.three; have zd := zc.three))
  have hl : (waits ++ [Act3.mk what at_ data]).length = waits.length + 1 := by simp
  have zf : (⟨w.heap.size, 1, none⟩ : Addr).block = w.heap.size := rfl
  have z3 := zc.far (p := ⟨w.heap.size, 1, none⟩) (by rw [zf]; omega) (.slice F2 (waits.length + 1) e2)
  have zn := (((z3.set_ 0 (.slice B1 secs.length d1)).set_ 1 (.slice F2 (waits.length + 1) e2)).set_ 2 (.int .i64 cap)).three
  refine bodyPost_ret (v := .agg #[.slice B1 secs.length d1, .slice F2 (waits.length + 1) e2, .int .i64 cap]) (by simp [results, Try.results40, go_sem, zn]) rfl ?_
  have hz1 := hb1.size
  simp only [World.size_alloc] at hz1
  have k1 : Kp w1 (((w1.setCell ⟨w.heap.size, 0, none⟩ (.slice B1 secs.length d1)).setCell ⟨w.heap.size, 1, none⟩ (.slice B2 waits.length d2)).setCell ⟨w.heap.size, 2, none⟩ (.int .i64 cap)) _ _ := Kp.box3 xb (frS_ne (w := w)) _ _ _
  have o2' := o2.move (Kp.box3 xb frA_ne (.slice B1 secs.length d1) (.slice B2 waits.length d2) (.int .i64 cap))
  have k2 := Kp.app' (S := FrS w) o2' hg (fun b t h => .inl (by rcases h.2 with h | h <;> (rw [h]; decide)))
  have k3 := Kp.box xc (frS_ne (w := w)) 1 (.slice F2 (waits.length + 1) e2)
  have k4 := Kp.box3 z3 (frS_ne (w := w)) (.slice B1 secs.length d1) (.slice F2 (waits.length + 1) e2) (.int .i64 cap)
  refine ⟨B1, d1, F2, e2, by rw [hl], ?_, ((((o1.mono fun b t h => ⟨by have := h.1; simp only [World.size_alloc] at this; omega, h.2⟩).move k1).move k2).move k3).move k4, ?_⟩
  · have b3 : Below w.heap.size w (((w1.setCell ⟨w.heap.size, 0, none⟩ (.slice B1 secs.length d1)).setCell ⟨w.heap.size, 1, none⟩ (.slice B2 waits.length d2)).setCell ⟨w.heap.size, 2, none⟩ (.int .i64 cap)) := (((below_then b0 hb1).setCell (Nat.le_refl _) _).setCell (Nat.le_refl _) _).setCell (Nat.le_refl _) _
    have b4 := below_app b3 hg (fun g hg' => by have := (o2'.at_S g hg').1; simp only [World.size_alloc] at this; omega)
    exact (((b4.setCell (Nat.le_refl _) _).setCell (show w.heap.size ≤ w.heap.size + 1 + 1 by omega) _).setCell (show w.heap.size ≤ w.heap.size + 1 + 1 by omega) _).setCell (show w.heap.size ≤ w.heap.size + 1 + 1 by omega) _
  · have n3 : ∀ g, g = w.heap.size ∨ g = w.heap.size + 1 + 1 → ∀ b u, (FrA w b u ∨ S3 b u) → b ≠ g ∨ u ≠ (30, 0, 0) := fun g hg b u h => by
      rcases h with h | h
      · exact frA_ne b u h
      · have := hS3.out b u h
        exact .inl (by omega)
    have k3 := Kp.box xc (n3 _ (.inl rfl)) 1 (.slice F2 (waits.length + 1) e2)
    have k4 := Kp.box3 z3 (n3 _ (.inr rfl)) (.slice B1 secs.length d1) (.slice F2 (waits.length + 1) e2) (.int .i64 cap)
    have on := hn (fun b t => FrA w b t ∨ S3 b t) (fun b t h _ => .inl ⟨by have := h.1; simp only [World.size_alloc] at this; omega, h.2⟩) (fun b t h _ => .inr h) (fun b h => .inl ⟨by simp at h; omega, .inl rfl⟩)
    rw [hl] at on ⊢
    exact (on.move k3).move k4
end Go.Proofs.Ytfmmbkggamojkaa
