/- Layer 3, a new state, its length, a length that waits, a sector that waits. No condition but that the state reads. -/
import Derived.Test.YtfmmbkggamojkaaHk
set_option linter.unusedVariables false
set_option linter.unusedSimpArgs false
namespace Go.Proofs.Ytfmmbkggamojkaa
open Go.RowKit

set_option maxHeartbeats 400000 in
theorem length_any (s : St3) (S1 S2 : FP) (A1 A2 : Option Addr) (c1 c2 : Nat) (w : World) (h1 : Rd w S1 A1 c1 s.secs) (h2 : Rd w S2 A2 c2 s.waits) :
    Calls Try.prog 27 #[.agg #[.slice A1 s.secs.length c1, .slice A2 s.waits.length c2, .int .i64 s.cap]] w fun e w' => e = .returned (.tuple #[.int .i64 (if ok3 s then size3 s else 0), .int .i64 (err3 (ok3 s))]) ∧ Below w.heap.size w w' := by
  obtain ⟨secs, waits, cap⟩ := s
  dsimp only at h1 h2 ⊢
  have b0 : Below w.heap.size w (w.alloc (.cells #[.slice A1 secs.length c1, .slice A2 waits.length c2, .int .i64 cap] 30)) := below_alloc (Below.refl _ _) _
  have x0 := (Bx.new w [.slice A1 secs.length c1, .slice A2 waits.length c2, .int .i64 cap] 30)
  by_cases hok : ok3 ⟨secs, waits, cap⟩ = true
  · have he : err3 (ok3 ⟨secs, waits, cap⟩) = 0 := by rw [hok]; rfl
    rw [he, if_pos hok]
    have HE := Lib.hid he
    clear hok he
    go_enter Try.func27, Try.ntmps27
    go_wp2_with (first
      | (go_at_call 13; refine (check_any ⟨secs, waits, cap⟩ S1 S2 A1 A2 c1 c2 _ (h1.below b0) (h2.below b0)).mono ?_; rintro e w1 ⟨rfl, hb1⟩; rw [HE.out]; have x1 := x0.keep hb1; have k1 := x1.three; have b1 := below_then b0 hb1)
      | (go_at_call 39; refine (size_any ⟨secs, waits, cap⟩ S1 S2 A1 A2 c1 c2 _ (h1.below b1) (h2.below b1)).mono ?_; rintro e w2 ⟨rfl, hb2⟩))
    go_ret2
    exact ⟨rfl, below_then b1 hb2⟩
  · have hok' : ok3 ⟨secs, waits, cap⟩ = false := by simpa using hok
    have he : err3 (ok3 ⟨secs, waits, cap⟩) = 9 := by rw [hok']; rfl
    rw [he, if_neg hok]
    have HE := Lib.hid he
    clear hok hok' he
    go_enter Try.func27, Try.ntmps27
    go_wp2_with (go_at_call 13; refine (check_any ⟨secs, waits, cap⟩ S1 S2 A1 A2 c1 c2 _ (h1.below b0) (h2.below b0)).mono ?_; rintro e w1 ⟨rfl, hb1⟩; rw [HE.out]; have x1 := x0.keep hb1; have k1 := x1.three; have b1 := below_then b0 hb1)
    go_ret2
    exact ⟨rfl, b1⟩

/-- An error comes back, and no state. -/
theorem ret_zero {err : Int} {w w2 : World} {g : Nat} (hg : w.heap.size ≤ g) (b : Below w.heap.size w w2) (u0 u1 u2 : Value) :
    RetSt St3.zero err w (.returned (.tuple #[.agg #[.slice none 0 0, .slice none 0 0, .int .i64 0], .int .i64 err])) (((w2.setCell ⟨g, 0, none⟩ u0).setCell ⟨g, 1, none⟩ u1).setCell ⟨g, 2, none⟩ u2) :=
  ⟨none, 0, none, 0, rfl, ((b.setCell hg _).setCell hg _).setCell hg _, .nil_, .nil_⟩
def newR (cap : Int) : St3 × Int := if cap < 1 ∨ 65536 < cap then (St3.zero, 4) else (⟨[], [], cap⟩, 0)
set_option maxHeartbeats 400000 in
theorem new_any (cap : Int) (w : World) : Calls Try.prog 30 #[.int .i64 cap] w (RetSt (newR cap).1 (newR cap).2 w) := by
  have y0 := Bx.new w [.slice none 0 0, .slice none 0 0, .int .i64 0] 30
  have yc := y0.three
  have b0 : Below w.heap.size w (w.alloc (.cells #[.slice none 0 0, .slice none 0 0, .int .i64 0] 30)) := below_alloc (Below.refl _ _) _
  by_cases hc : cap < 1 ∨ 65536 < cap
  · have hr : newR cap = (St3.zero, 4) := if_pos hc
    rw [hr]
    clear hr
    have yn := (((y0.set_ 0 (.slice none 0 0)).set_ 1 (.slice none 0 0)).set_ 2 (.int .i64 0)).three
    rcases hc with h | h
    all_goals
      go_enter Try.func30, Try.ntmps30
      go_wp2
      refine bodyPost_ret (v := .tuple #[.agg #[.slice none 0 0, .slice none 0 0, .int .i64 0], .int .i64 4]) (by simp [results, Try.results30, go_sem, yn]) rfl ?_
      exact ⟨none, 0, none, 0, rfl, below_alloc (Below.refl _ _) _, .nil_, .nil_⟩
  · have hr : newR cap = (⟨[], [], cap⟩, 0) := if_neg hc
    rw [hr]
    have h1 : ¬ cap < 1 := fun h => hc (.inl h)
    have h2 : ¬ 65536 < cap := fun h => hc (.inr h)
    clear hr hc
    have yn := (((y0.set_ 0 (.slice none 0 0)).set_ 1 (.slice none 0 0)).set_ 2 (.int .i64 cap)).three
    go_enter Try.func30, Try.ntmps30
    go_wp2
    refine bodyPost_ret (v := .tuple #[.agg #[.slice none 0 0, .slice none 0 0, .int .i64 cap], .int .i64 0]) (by simp [results, Try.results30, go_sem, yn]) rfl ?_
    exact ⟨none, 0, none, 0, rfl, below_alloc (Below.refl _ _) _, .nil_, .nil_⟩

def resizeR (s : St3) (n : Int) : St3 × Int := if ok3 s then (if n < 0 then (St3.zero, 4) else if s.cap < n ∨ s.waits.length = 4096 then (St3.zero, 51) else (⟨s.secs, s.waits ++ [⟨2, n, []⟩], s.cap⟩, 0)) else (St3.zero, 9)
/-- What was made to wait is laid into a box, and handed back. -/
theorem ret_wait {r : St3} {w w1 w2 : World} {S3 : FP} {g : Nat} {cs : List Value} {A1 A2 : Option Addr} {c1 c2 : Nat} (y : Bx w2 g cs 30) (hg : w.heap.size ≤ g) (hw : w.heap.size ≤ w1.heap.size) (b : Below w.heap.size w w1) (hb2 : Below w1.heap.size w1 w2)
    (o1 : Ow w2 36 (FrS w1) (.slice A1 r.secs.length c1) r.secs) (o2 : Ow w2 49 (fun b t => FrA w1 b t ∨ S3 b t) (.slice A2 r.waits.length c2) r.waits) (hS : ∀ b t, S3 b t → FrA w b t) (u0 u1 u2 : Value) :
    RetSt r 0 w (.returned (.tuple #[.agg #[.slice A1 r.secs.length c1, .slice A2 r.waits.length c2, .int .i64 r.cap], .int .i64 0])) (((w2.setCell ⟨g, 0, none⟩ u0).setCell ⟨g, 1, none⟩ u1).setCell ⟨g, 2, none⟩ u2) :=
  ⟨A1, c1, A2, c2, rfl, (((below_then b hb2).setCell hg _).setCell hg _).setCell hg _, (o1.mono fun b t h => ⟨by have := h.1; omega, h.2⟩).move (Kp.box3 y (frS_ne (w := w)) _ _ _), (o2.mono fun b t h => by
    rcases h with h | h
    · exact ⟨by have := h.1; omega, h.2⟩
    · exact hS b t h).move (Kp.box3 y (frA_ne (w := w)) _ _ _)⟩

set_option maxHeartbeats 1000000 in
theorem resize_any (s : St3) (n : Int) (hn : InK .i64 n) (S1 S2 : FP) (A1 A2 : Option Addr) (c1 c2 : Nat) (w : World) (h1 : Rd w S1 A1 c1 s.secs) (h2 : Rd w S2 A2 c2 s.waits) :
    Calls Try.prog 22 #[.agg #[.slice A1 s.secs.length c1, .slice A2 s.waits.length c2, .int .i64 s.cap], .int .i64 n] w (RetSt (resizeR s n).1 (resizeR s n).2 w) := by
  obtain ⟨secs, waits, cap⟩ := s
  dsimp only at h1 h2 ⊢
  have l1 := h1.len
  have l2 := h2.len
  have b0 : Below w.heap.size w ((w.alloc (.cells #[.slice A1 secs.length c1, .slice A2 waits.length c2, .int .i64 cap] 30)).alloc (.cells #[.slice none 0 0, .slice none 0 0, .int .i64 0] 30)) := below_alloc (below_alloc (Below.refl _ _) _) _
  have x0 := (Bx.new w [.slice A1 secs.length c1, .slice A2 waits.length c2, .int .i64 cap] 30).alloc (.cells #[.slice none 0 0, .slice none 0 0, .int .i64 0] 30)
  have y0 := Bx.new (w.alloc (.cells #[.slice A1 secs.length c1, .slice A2 waits.length c2, .int .i64 cap] 30)) [.slice none 0 0, .slice none 0 0, .int .i64 0] 30
  simp only [World.size_alloc] at y0
  by_cases hok : ok3 ⟨secs, waits, cap⟩ = true
  · have he : err3 (ok3 ⟨secs, waits, cap⟩) = 0 := by rw [hok]; rfl
    have HE := Lib.hid he
    by_cases t1 : n < 0
    · have hr : resizeR ⟨secs, waits, cap⟩ n = (St3.zero, 4) := by rw [resizeR, if_pos hok, if_pos t1]
      rw [hr]
      clear hr he hok
      go_enter Try.func22, Try.ntmps22
      go_wp2_with
        (go_at_call 13; refine (check_any ⟨secs, waits, cap⟩ S1 S2 A1 A2 c1 c2 _ (h1.below b0) (h2.below b0)).mono ?_; rintro e w1 ⟨rfl, hb1⟩; rw [HE.out]; have y1 := y0.keep hb1; have x1 := x0.keep hb1; have k1 := y1.three; have k2 := x1.three; have hz1 := hb1.size; simp only [World.size_alloc] at hz1; have b1 := below_then b0 hb1)
      have yn := (((y1.set_ 0 (.slice none 0 0)).set_ 1 (.slice none 0 0)).set_ 2 (.int .i64 0)).three
      refine bodyPost_ret (v := .tuple #[.agg #[.slice none 0 0, .slice none 0 0, .int .i64 0], .int .i64 4]) (by simp [results, Try.results22, go_sem, yn]) rfl ?_
      exact ret_zero (Nat.le_succ _) b1 _ _ _
    by_cases t2 : cap < n
    · have hr : resizeR ⟨secs, waits, cap⟩ n = (St3.zero, 51) := by rw [resizeR, if_pos hok, if_neg t1, if_pos (.inl t2)]
      rw [hr]
      clear hr he hok
      go_enter Try.func22, Try.ntmps22
      go_wp2_with
        (go_at_call 13; refine (check_any ⟨secs, waits, cap⟩ S1 S2 A1 A2 c1 c2 _ (h1.below b0) (h2.below b0)).mono ?_; rintro e w1 ⟨rfl, hb1⟩; rw [HE.out]; have y1 := y0.keep hb1; have x1 := x0.keep hb1; have k1 := y1.three; have k2 := x1.three; have hz1 := hb1.size; simp only [World.size_alloc] at hz1; have b1 := below_then b0 hb1)
      have yn := (((y1.set_ 0 (.slice none 0 0)).set_ 1 (.slice none 0 0)).set_ 2 (.int .i64 0)).three
      refine bodyPost_ret (v := .tuple #[.agg #[.slice none 0 0, .slice none 0 0, .int .i64 0], .int .i64 51]) (by simp [results, Try.results22, go_sem, yn]) rfl ?_
      exact ret_zero (Nat.le_succ _) b1 _ _ _
    by_cases t3 : waits.length = 4096
    · have hr : resizeR ⟨secs, waits, cap⟩ n = (St3.zero, 51) := by rw [resizeR, if_pos hok, if_neg t1, if_pos (.inr t3)]
      rw [hr]
      have t3' : ((waits.length : Int) == 4096) = true := by rw [t3]; rfl
      clear hr he hok t3
      go_enter Try.func22, Try.ntmps22
      go_wp2_with
        (go_at_call 13; refine (check_any ⟨secs, waits, cap⟩ S1 S2 A1 A2 c1 c2 _ (h1.below b0) (h2.below b0)).mono ?_; rintro e w1 ⟨rfl, hb1⟩; rw [HE.out]; have y1 := y0.keep hb1; have x1 := x0.keep hb1; have k1 := y1.three; have k2 := x1.three; have hz1 := hb1.size; simp only [World.size_alloc] at hz1; have b1 := below_then b0 hb1)
      have yn := (((y1.set_ 0 (.slice none 0 0)).set_ 1 (.slice none 0 0)).set_ 2 (.int .i64 0)).three
      refine bodyPost_ret (v := .tuple #[.agg #[.slice none 0 0, .slice none 0 0, .int .i64 0], .int .i64 51]) (by simp [results, Try.results22, go_sem, yn]) rfl ?_
      exact ret_zero (Nat.le_succ _) b1 _ _ _
    · have hr : resizeR ⟨secs, waits, cap⟩ n = (⟨secs, waits ++ [⟨2, n, []⟩], cap⟩, 0) := by rw [resizeR, if_pos hok, if_neg t1, if_neg (by intro h; rcases h with h | h; exact t2 h; exact t3 h)]
      have t3' : ((waits.length : Int) == 4096) = false := by simp; omega
      have hw : waits.length ≤ 4096 := ((ok3_iff _).1 hok).2.2.2.2.1
      rw [hr]
      clear hr he hok
      have HT := Lib.hid t3
      clear t3
      go_enter Try.func22, Try.ntmps22
      go_wp2_with (first
        | 
          (go_at_call 13; refine (check_any ⟨secs, waits, cap⟩ S1 S2 A1 A2 c1 c2 _ (h1.below b0) (h2.below b0)).mono ?_; rintro e w1 ⟨rfl, hb1⟩; rw [HE.out]; have y1 := y0.keep hb1; have x1 := x0.keep hb1; have k1 := y1.three; have k2 := x1.three; have hz1 := hb1.size; simp only [World.size_alloc] at hz1; have b1 := below_then b0 hb1)
        | (go_at_call 40; go_loud (refine (wait_any ⟨secs, waits, cap⟩ (fun b t => S1 b t ∧ b < w1.heap.size) (fun b t => S2 b t ∧ b < w1.heap.size) (fun _ _ => False) A1 A2 none c1 c2 0 ⟨2, n, []⟩ _ (h1.below b1).old (h2.below b1).old (Rd.nil _ _ _ _) (show (Lit.int .i64 2).wf = true by decide) hn (fun _ _ h => h.2) (fun _ _ h => h.2) (fun _ _ h => h.elim) (by show (waits.length + 1) * 40 ≤ _; omega)).mono ?_); rintro e w2 ⟨B1, d1, B2, d2, rfl, hb2, o1, o2⟩; have y2 := y1.keep hb2; have k3 := y2.three))
      have yn := (((y2.set_ 0 (.slice B1 secs.length d1)).set_ 1 (.slice B2 (waits.length + 1) d2)).set_ 2 (.int .i64 cap)).three
      refine bodyPost_ret (v := .tuple #[.agg #[.slice B1 secs.length d1, .slice B2 (waits.length + 1) d2, .int .i64 cap], .int .i64 0]) (by simp [results, Try.results22, go_sem, yn]) rfl ?_
      have hl : (waits ++ [(⟨2, n, []⟩ : Act3)]).length = waits.length + 1 := by simp
      have hR := ret_wait (r := ⟨secs, waits ++ [⟨2, n, []⟩], cap⟩) y2 (Nat.le_succ _) (by omega) b1 hb2 o1 o2 (fun _ _ h => h.elim) (.slice B1 secs.length d1) (.slice B2 (waits.length + 1) d2) (.int .i64 cap)
      dsimp only at hR
      rw [hl] at hR
      exact hR
  · have hok' : ok3 ⟨secs, waits, cap⟩ = false := by simpa using hok
    have he : err3 (ok3 ⟨secs, waits, cap⟩) = 9 := by rw [hok']; rfl
    have hr : resizeR ⟨secs, waits, cap⟩ n = (St3.zero, 9) := by rw [resizeR, if_neg hok]
    rw [hr]
    have HE := Lib.hid he
    clear hok hok' hr he
    go_enter Try.func22, Try.ntmps22
    go_wp2_with
      (go_at_call 13; refine (check_any ⟨secs, waits, cap⟩ S1 S2 A1 A2 c1 c2 _ (h1.below b0) (h2.below b0)).mono ?_; rintro e w1 ⟨rfl, hb1⟩; rw [HE.out]; have y1 := y0.keep hb1; have x1 := x0.keep hb1; have k1 := y1.three; have k2 := x1.three; have hz1 := hb1.size; simp only [World.size_alloc] at hz1; have b1 := below_then b0 hb1)
    have yn := (((y1.set_ 0 (.slice none 0 0)).set_ 1 (.slice none 0 0)).set_ 2 (.int .i64 0)).three
    refine bodyPost_ret (v := .tuple #[.agg #[.slice none 0 0, .slice none 0 0, .int .i64 0], .int .i64 9]) (by simp [results, Try.results22, go_sem, yn]) rfl ?_
    exact ret_zero (Nat.le_succ _) b1 _ _ _
end Go.Proofs.Ytfmmbkggamojkaa
