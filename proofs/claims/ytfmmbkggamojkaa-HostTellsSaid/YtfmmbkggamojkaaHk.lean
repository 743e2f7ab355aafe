/- Layer 3, a barrier, a length, an act that waits. No condition but that the state reads. -/
import Derived.Test.YtfmmbkggamojkaaHj
import Derived.Test.YtfmmbkggamojkaaHe
set_option linter.unusedVariables false
set_option linter.unusedSimpArgs false
namespace Go.Proofs.Ytfmmbkggamojkaa
open Go.RowKit

def flushR (s : St3) : St3 := crashR s (List.replicate s.waits.length true)
theorem rd_trues {W : World} {S : FP} {g n c : Nat} (hn : n ≤ 140737488351232) (hb : W.heap[g]? = some (.cells (trues n n).toArray 4 (0, 0))) (hS : S g (4, 0, 0)) (hc : n ≤ c) : Rd W S (some ⟨g, 0, none⟩) c (List.replicate n true) := by
  refine ⟨by simpa using hc, by show _ * 1 ≤ _; rw [List.length_replicate]; omega, fun _ => ⟨⟨g, 0, none⟩, _, (4, 0, 0), rfl, rfl, hb, hS, fun j hj => ?_⟩⟩
  have hj' : j < n := by simpa using hj
  have h1 := trues_at n n j hj'
  show List.take 1 (List.drop (0 + j * 1) (trues n n)) = [Value.bool ((List.replicate n true)[j])]
  rw [Nat.zero_add, Nat.mul_one, List.getElem_replicate]
  have hl : j < (trues n n).length := by rw [trues_len n n (Nat.le_refl _)]; exact hj'
  rw [List.getElem?_eq_getElem hl] at h1
  rw [List.drop_eq_getElem_cons hl, Option.some.inj h1]
  rfl

theorem crash_flush (s : St3) (S1 S2 : FP) (A1 A2 : Option Addr) (c1 c2 c3 : Nat) {g : Nat} (w : World) (h1 : Rd w S1 A1 c1 s.secs) (h2 : Rd w S2 A2 c2 s.waits) (hc : s.waits.length ≤ c3) (hg : w.heap[g]? = some (.cells (trues s.waits.length s.waits.length).toArray 4 (0, 0))) :
    Calls Try.prog 9 #[.agg #[.slice A1 s.secs.length c1, .slice A2 s.waits.length c2, .int .i64 s.cap], .slice (some ⟨g, 0, none⟩) s.waits.length c3] w (RetSt (flushR s) (err3 (ok3 s)) w) := by
  have h := crash_any s (List.replicate s.waits.length true) S1 S2 (fun _ _ => True) A1 A2 (some ⟨g, 0, none⟩) c1 c2 c3 w h1 h2 (rd_trues h2.len hg trivial hc)
  rw [List.length_replicate] at h
  exact h
/-- What was answered is laid into a box, and handed back. -/
theorem ret_box {r : St3} {err : Int} {w w1 w2 : World} {g : Nat} {cs : List Value} {A1 A2 : Option Addr} {c1 c2 : Nat} (y : Bx w2 g cs 30) (hg : w.heap.size ≤ g) (hw : w.heap.size ≤ w1.heap.size) (b : Below w.heap.size w w2)
    (o1 : Ow w2 36 (FrS w1) (.slice A1 r.secs.length c1) r.secs) (o2 : Ow w2 49 (FrA w1) (.slice A2 r.waits.length c2) r.waits) (u0 u1 u2 : Value) :
    RetSt r err w (.returned (.tuple #[.agg #[.slice A1 r.secs.length c1, .slice A2 r.waits.length c2, .int .i64 r.cap], .int .i64 err])) (((w2.setCell ⟨g, 0, none⟩ u0).setCell ⟨g, 1, none⟩ u1).setCell ⟨g, 2, none⟩ u2) :=
  ⟨A1, c1, A2, c2, rfl, ((b.setCell hg _).setCell hg _).setCell hg _, (o1.mono fun b t h => ⟨by have := h.1; omega, h.2⟩).move (Kp.box3 y (frS_ne (w := w)) _ _ _), (o2.mono fun b t h => ⟨by have := h.1; omega, h.2⟩).move (Kp.box3 y (frA_ne (w := w)) _ _ _)⟩
set_option maxHeartbeats 400000 in
theorem flush_any (s : St3) (S1 S2 : FP) (A1 A2 : Option Addr) (c1 c2 : Nat) (w : World) (h1 : Rd w S1 A1 c1 s.secs) (h2 : Rd w S2 A2 c2 s.waits) :
    Calls Try.prog 21 #[.agg #[.slice A1 s.secs.length c1, .slice A2 s.waits.length c2, .int .i64 s.cap]] w (RetSt (flushR s) (err3 (ok3 s)) w) := by
  obtain ⟨secs, waits, cap⟩ := s
  dsimp only at h1 h2 ⊢
  have l1 := h1.len
  have l2 := h2.len
  have x0 := (((Bx.new w [.slice A1 secs.length c1, .slice A2 waits.length c2, .int .i64 cap] 30).alloc (.cells #[.slice none 0 0, .slice none 0 0, .int .i64 0] 30)).alloc (.cells #[.bool true] 4)).drew
  have y0 := ((Bx.new (w.alloc (.cells #[.slice A1 secs.length c1, .slice A2 waits.length c2, .int .i64 cap] 30)) [.slice none 0 0, .slice none 0 0, .int .i64 0] 30).alloc (.cells #[.bool true] 4)).drew
  have b0 : Below w.heap.size w (((w.alloc (.cells #[.slice A1 secs.length c1, .slice A2 waits.length c2, .int .i64 cap] 30)).alloc (.cells #[.slice none 0 0, .slice none 0 0, .int .i64 0] 30)).alloc (.cells #[.bool true] 4)).drew := (below_alloc (below_alloc (below_alloc (Below.refl _ _) _) _) _).drew
  have z0 := (Bx.new ((w.alloc (.cells #[.slice A1 secs.length c1, .slice A2 waits.length c2, .int .i64 cap] 30)).alloc (.cells #[.slice none 0 0, .slice none 0 0, .int .i64 0] 30)) [.bool true] 4).drew
  simp only [World.size_alloc] at y0 z0
  have z1 := z0.cell 0 (by simp)
  go_enter Try.func21, Try.ntmps21
  go_wp2
  go_region_held3 (fun W => W.cell? ⟨w.heap.size, 0, none⟩ = some (.slice A1 secs.length c1) ∧ W.cell? ⟨w.heap.size, 1, none⟩ = some (.slice A2 waits.length c2) ∧ W.cell? ⟨w.heap.size, 2, none⟩ = some (.int .i64 cap)) (go_keep)
    (first
     | (go_at_call 46; refine (repeat_true waits.length _ _ l2 z1).mono ?_; rintro e w1 ⟨c3, rfl, hb1, hc3, hg1⟩; simp only [World.size_drew, World.size_alloc] at hg1; have x1 := x0.keep hb1; have k1 := x1.three; have y1 := y0.keep hb1; have hz1 := hb1.size)
     | (go_at_call 9; refine (crash_flush ⟨secs, waits, cap⟩ S1 S2 A1 A2 c1 c2 c3 _ (h1.below (below_then b0 hb1)) (h2.below (below_then b0 hb1)) hc3 hg1).mono ?_; rintro e w2 ⟨B1, d1, B2, d2, rfl, hb2, o1, o2⟩; have x2 := x1.keep hb2; have y2 := y1.keep hb2; have k2 := x2.three; have k3 := y2.three))
  go_wp2
  have yn := (((y2.set_ 0 (.slice B1 (flushR ⟨secs, waits, cap⟩).secs.length d1)).set_ 1 (.slice B2 (flushR ⟨secs, waits, cap⟩).waits.length d2)).set_ 2 (.int .i64 (flushR ⟨secs, waits, cap⟩).cap)).three
  refine bodyPost_ret (v := .tuple #[.agg #[.slice B1 (flushR ⟨secs, waits, cap⟩).secs.length d1, .slice B2 (flushR ⟨secs, waits, cap⟩).waits.length d2, .int .i64 (flushR ⟨secs, waits, cap⟩).cap], .int .i64 (err3 (ok3 ⟨secs, waits, cap⟩))]) (by simp [results, Try.results21, go_sem, yn]) rfl ?_
  exact ret_box (r := flushR ⟨secs, waits, cap⟩) y2 (by omega) (by have := (below_then b0 hb1).size; exact this) (below_then (below_then b0 hb1) hb2) o1 o2 _ _ _
end Go.Proofs.Ytfmmbkggamojkaa
