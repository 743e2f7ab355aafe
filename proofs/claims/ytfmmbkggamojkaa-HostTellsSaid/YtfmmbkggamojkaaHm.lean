/- Layer 3, a sector that waits. No condition but that the state reads. -/
import Derived.Test.YtfmmbkggamojkaaHl
set_option linter.unusedVariables false
set_option linter.unusedSimpArgs false
namespace Go.Proofs.Ytfmmbkggamojkaa
open Go.RowKit

def writeR (s : St3) (at_ : Int) (data : List UInt8) : St3 × Int :=
  if ok3 s then (if at_ < 0 ∨ size3 s ≤ at_ then (St3.zero, 4) else if data.length ≠ 64 then (St3.zero, 1) else if s.waits.length = 4096 then (St3.zero, 51) else (⟨s.secs, s.waits ++ [⟨1, at_, data⟩], s.cap⟩, 0)) else (St3.zero, 9)

set_option maxHeartbeats 1000000 in
theorem write_any (s : St3) (at_ : Int) (ha : InK .i64 at_) (data : List UInt8) (S1 S2 S3 : FP) (A1 A2 A3 : Option Addr) (c1 c2 c3 : Nat) (w : World) (h1 : Rd w S1 A1 c1 s.secs) (h2 : Rd w S2 A2 c2 s.waits) (h3 : Rd w S3 A3 c3 data) :
    Calls Try.prog 15 #[.agg #[.slice A1 s.secs.length c1, .slice A2 s.waits.length c2, .int .i64 s.cap], .int .i64 at_, .slice A3 data.length c3] w (RetSt (writeR s at_ data).1 (writeR s at_ data).2 w) := by
  obtain ⟨secs, waits, cap⟩ := s
  dsimp only at h1 h2 ⊢
  have l1 := h1.len
  have l2 := h2.len
  have l3 := h3.len
  have b0 : Below w.heap.size w ((w.alloc (.cells #[.slice A1 secs.length c1, .slice A2 waits.length c2, .int .i64 cap] 30)).alloc (.cells #[.slice none 0 0, .slice none 0 0, .int .i64 0] 30)) := below_alloc (below_alloc (Below.refl _ _) _) _
  have x0 := (Bx.new w [.slice A1 secs.length c1, .slice A2 waits.length c2, .int .i64 cap] 30).alloc (.cells #[.slice none 0 0, .slice none 0 0, .int .i64 0] 30)
  have y0 := Bx.new (w.alloc (.cells #[.slice A1 secs.length c1, .slice A2 waits.length c2, .int .i64 cap] 30)) [.slice none 0 0, .slice none 0 0, .int .i64 0] 30
  simp only [World.size_alloc] at y0
  by_cases hok : ok3 ⟨secs, waits, cap⟩ = true
  · have he : err3 (ok3 ⟨secs, waits, cap⟩) = 0 := by rw [hok]; rfl
    have HE := Lib.hid he
    by_cases t1 : at_ < 0
    · have hr : writeR ⟨secs, waits, cap⟩ at_ data = (St3.zero, 4) := by rw [writeR, if_pos hok, if_pos (.inl t1)]
      rw [hr]
      clear hr he hok
      go_enter Try.func15, Try.ntmps15
      go_wp2_with
        (go_at_call 13; refine (check_any ⟨secs, waits, cap⟩ S1 S2 A1 A2 c1 c2 _ (h1.below b0) (h2.below b0)).mono ?_; rintro e w1 ⟨rfl, hb1⟩; rw [HE.out]; have y1 := y0.keep hb1; have x1 := x0.keep hb1; have k1 := y1.three; have k2 := x1.three; have hz1 := hb1.size; simp only [World.size_alloc] at hz1; have b1 := below_then b0 hb1)
      have yn := (((y1.set_ 0 (.slice none 0 0)).set_ 1 (.slice none 0 0)).set_ 2 (.int .i64 0)).three
      refine bodyPost_ret (v := .tuple #[.agg #[.slice none 0 0, .slice none 0 0, .int .i64 0], .int .i64 4]) (by simp [results, Try.results15, go_sem, yn]) rfl ?_
      exact ret_zero (Nat.le_succ _) b1 _ _ _
    by_cases t2 : size3 ⟨secs, waits, cap⟩ ≤ at_
    · have hr : writeR ⟨secs, waits, cap⟩ at_ data = (St3.zero, 4) := by rw [writeR, if_pos hok, if_pos (.inr t2)]
      rw [hr]
      have t2' : decide (size3 ⟨secs, waits, cap⟩ ≤ at_) = true := decide_eq_true t2
      clear hr he hok
      go_enter Try.func15, Try.ntmps15
      go_wp2_with (first
        |
        (go_at_call 13; refine (check_any ⟨secs, waits, cap⟩ S1 S2 A1 A2 c1 c2 _ (h1.below b0) (h2.below b0)).mono ?_; rintro e w1 ⟨rfl, hb1⟩; rw [HE.out]; have y1 := y0.keep hb1; have x1 := x0.keep hb1; have k1 := y1.three; have k2 := x1.three; have hz1 := hb1.size; simp only [World.size_alloc] at hz1; have b1 := below_then b0 hb1)
        |
        (go_at_call 39; refine (size_any ⟨secs, waits, cap⟩ S1 S2 A1 A2 c1 c2 _ (h1.below b1) (h2.below b1)).mono ?_; rintro e w2 ⟨rfl, hb2⟩; have y2 := y1.keep hb2; have x2 := x1.keep hb2; have k3 := y2.three; have k4 := x2.three; have hz2 := hb2.size; have b2 := below_then b1 hb2)
        )
      have yn := (((y2.set_ 0 (.slice none 0 0)).set_ 1 (.slice none 0 0)).set_ 2 (.int .i64 0)).three
      refine bodyPost_ret (v := .tuple #[.agg #[.slice none 0 0, .slice none 0 0, .int .i64 0], .int .i64 4]) (by simp [results, Try.results15, go_sem, yn]) rfl ?_
      exact ret_zero (Nat.le_succ _) b2 _ _ _
    have t12 : ¬ (at_ < 0 ∨ size3 ⟨secs, waits, cap⟩ ≤ at_) := fun h => by rcases h with h | h; exact t1 h; exact t2 h
    have HN := Lib.hid t12
    have t2' : decide (size3 ⟨secs, waits, cap⟩ ≤ at_) = false := decide_eq_false t2
    by_cases t3 : data.length = 64
    · by_cases t4 : waits.length = 4096
      · have hr : writeR ⟨secs, waits, cap⟩ at_ data = (St3.zero, 51) := by rw [writeR, if_pos hok, if_neg t12, if_neg (by simpa using t3), if_pos t4]
        rw [hr]
        have t3' : ((data.length : Int) != 64) = false := by rw [t3]; rfl
        have t4' : ((waits.length : Int) == 4096) = true := by rw [t4]; rfl
        clear hr he hok t12 t3 t4
        go_enter Try.func15, Try.ntmps15
        go_wp2_with (first
          |
          (go_at_call 13; refine (check_any ⟨secs, waits, cap⟩ S1 S2 A1 A2 c1 c2 _ (h1.below b0) (h2.below b0)).mono ?_; rintro e w1 ⟨rfl, hb1⟩; rw [HE.out]; have y1 := y0.keep hb1; have x1 := x0.keep hb1; have k1 := y1.three; have k2 := x1.three; have hz1 := hb1.size; simp only [World.size_alloc] at hz1; have b1 := below_then b0 hb1)
          |
          (go_at_call 39; refine (size_any ⟨secs, waits, cap⟩ S1 S2 A1 A2 c1 c2 _ (h1.below b1) (h2.below b1)).mono ?_; rintro e w2 ⟨rfl, hb2⟩; have y2 := y1.keep hb2; have x2 := x1.keep hb2; have k3 := y2.three; have k4 := x2.three; have hz2 := hb2.size; have b2 := below_then b1 hb2)
          )
        have yn := (((y2.set_ 0 (.slice none 0 0)).set_ 1 (.slice none 0 0)).set_ 2 (.int .i64 0)).three
        refine bodyPost_ret (v := .tuple #[.agg #[.slice none 0 0, .slice none 0 0, .int .i64 0], .int .i64 51]) (by simp [results, Try.results15, go_sem, yn]) rfl ?_
        exact ret_zero (Nat.le_succ _) b2 _ _ _
      · have hr : writeR ⟨secs, waits, cap⟩ at_ data = (⟨secs, waits ++ [⟨1, at_, data⟩], cap⟩, 0) := by rw [writeR, if_pos hok, if_neg t12, if_neg (by simpa using t3), if_neg t4]
        rw [hr]
        have hw : waits.length ≤ 4096 := ((ok3_iff _).1 hok).2.2.2.2.1
        have t3' : ((data.length : Int) != 64) = false := by rw [t3]; rfl
        have t4' : ((waits.length : Int) == 4096) = false := by simp; omega
        have HT := Lib.hid t4
        clear hr he hok t12 t3 t4
        go_enter Try.func15, Try.ntmps15
        go_wp2_with (first
          |
          (go_at_call 13; refine (check_any ⟨secs, waits, cap⟩ S1 S2 A1 A2 c1 c2 _ (h1.below b0) (h2.below b0)).mono ?_; rintro e w1 ⟨rfl, hb1⟩; rw [HE.out]; have y1 := y0.keep hb1; have x1 := x0.keep hb1; have k1 := y1.three; have k2 := x1.three; have hz1 := hb1.size; simp only [World.size_alloc] at hz1; have b1 := below_then b0 hb1)
          |
          (go_at_call 39; refine (size_any ⟨secs, waits, cap⟩ S1 S2 A1 A2 c1 c2 _ (h1.below b1) (h2.below b1)).mono ?_; rintro e w2 ⟨rfl, hb2⟩; have y2 := y1.keep hb2; have x2 := x1.keep hb2; have k3 := y2.three; have k4 := x2.three; have hz2 := hb2.size; have b2 := below_then b1 hb2)
          )
        have b2 := b2.drew
        have y2 := y2.drew
        have x2 := x2.drew
        go_region_held3 (fun W => W.cell? ⟨w.heap.size, 0, none⟩ = some (.slice A1 secs.length c1) ∧ W.cell? ⟨w.heap.size, 1, none⟩ = some (.slice A2 waits.length c2) ∧ W.cell? ⟨w.heap.size, 2, none⟩ = some (.int .i64 cap)) (go_keep)
          (first
           | (go_at_call 41; go_loud (refine (clone_bytes S3 A3 c3 data _ (h3.below b2)).mono ?_); rintro e w3 ⟨v3, rfl, hb3, hf3, o3⟩; obtain ⟨B3, d3, rfl, hr3⟩ := o3.rd; have y3 := y2.keep hb3; have x3 := x2.keep hb3; have k5 := y3.three; have k7 := x3.three; have b3 := below_then b2 hb3)
           | (go_at_call 40; go_loud (refine (wait_any ⟨secs, waits, cap⟩ (fun b t => S1 b t ∧ b < w3.heap.size) (fun b t => S2 b t ∧ b < w3.heap.size) (fun b t => (w2.drew.heap.size ≤ b ∧ t = (5, 0, 0)) ∧ b < w3.heap.size) A1 A2 B3 c1 c2 d3 ⟨1, at_, data⟩ _ (h1.below b3).old (h2.below b3).old hr3.old (show (Lit.int .i64 1).wf = true by decide) ha (fun _ _ h => h.2) (fun _ _ h => h.2) (fun _ _ h => h.2) (by show (waits.length + 1) * 40 ≤ _; omega)).mono ?_); rintro e w4 ⟨B1, d1, B2, d2, rfl, hb4, o1, o2⟩; have y4 := y3.keep hb4; have x4 := x3.keep hb4; have k6 := y4.three; have k8 := x4.three))
        go_wp2
        have yn := (((y4.set_ 0 (.slice B1 secs.length d1)).set_ 1 (.slice B2 (waits.length + 1) d2)).set_ 2 (.int .i64 cap)).three
        refine bodyPost_ret (v := .tuple #[.agg #[.slice B1 secs.length d1, .slice B2 (waits.length + 1) d2, .int .i64 cap], .int .i64 0]) (by simp [results, Try.results15, go_sem, yn]) rfl ?_
        have hl : (waits ++ [(⟨1, at_, data⟩ : Act3)]).length = waits.length + 1 := by simp
        have hR := ret_wait (r := ⟨secs, waits ++ [⟨1, at_, data⟩], cap⟩) y4 (Nat.le_succ _) (by have := b3.size; omega) b3 hb4 o1 o2 (fun b t h => ⟨by have h0 : w2.heap.size ≤ b := h.1.1; have h9 : w.heap.size ≤ w2.heap.size := b2.size; omega, .inr h.1.2⟩) (.slice B1 secs.length d1) (.slice B2 (waits.length + 1) d2) (.int .i64 cap)
        dsimp only at hR
        rw [hl] at hR
        exact hR
    · have hr : writeR ⟨secs, waits, cap⟩ at_ data = (St3.zero, 1) := by rw [writeR, if_pos hok, if_neg t12, if_pos (by simpa using t3)]
      rw [hr]
      have t3' : ((data.length : Int) != 64) = true := by simp; omega
      have HT := Lib.hid t3
      clear hr he hok t12 t3
      go_enter Try.func15, Try.ntmps15
      go_wp2_with (first
        |
        (go_at_call 13; refine (check_any ⟨secs, waits, cap⟩ S1 S2 A1 A2 c1 c2 _ (h1.below b0) (h2.below b0)).mono ?_; rintro e w1 ⟨rfl, hb1⟩; rw [HE.out]; have y1 := y0.keep hb1; have x1 := x0.keep hb1; have k1 := y1.three; have k2 := x1.three; have hz1 := hb1.size; simp only [World.size_alloc] at hz1; have b1 := below_then b0 hb1)
        |
        (go_at_call 39; refine (size_any ⟨secs, waits, cap⟩ S1 S2 A1 A2 c1 c2 _ (h1.below b1) (h2.below b1)).mono ?_; rintro e w2 ⟨rfl, hb2⟩; have y2 := y1.keep hb2; have x2 := x1.keep hb2; have k3 := y2.three; have k4 := x2.three; have hz2 := hb2.size; have b2 := below_then b1 hb2)
        )
      have yn := (((y2.set_ 0 (.slice none 0 0)).set_ 1 (.slice none 0 0)).set_ 2 (.int .i64 0)).three
      refine bodyPost_ret (v := .tuple #[.agg #[.slice none 0 0, .slice none 0 0, .int .i64 0], .int .i64 1]) (by simp [results, Try.results15, go_sem, yn]) rfl ?_
      exact ret_zero (Nat.le_succ _) b2 _ _ _
  · have hok' : ok3 ⟨secs, waits, cap⟩ = false := by simpa using hok
    have he : err3 (ok3 ⟨secs, waits, cap⟩) = 9 := by rw [hok']; rfl
    have hr : writeR ⟨secs, waits, cap⟩ at_ data = (St3.zero, 9) := by rw [writeR, if_neg hok]
    rw [hr]
    have HE := Lib.hid he
    clear hok hok' hr he
    go_enter Try.func15, Try.ntmps15
    go_wp2_with
      (go_at_call 13; refine (check_any ⟨secs, waits, cap⟩ S1 S2 A1 A2 c1 c2 _ (h1.below b0) (h2.below b0)).mono ?_; rintro e w1 ⟨rfl, hb1⟩; rw [HE.out]; have y1 := y0.keep hb1; have x1 := x0.keep hb1; have k1 := y1.three; have k2 := x1.three; have hz1 := hb1.size; simp only [World.size_alloc] at hz1; have b1 := below_then b0 hb1)
    have yn := (((y1.set_ 0 (.slice none 0 0)).set_ 1 (.slice none 0 0)).set_ 2 (.int .i64 0)).three
    refine bodyPost_ret (v := .tuple #[.agg #[.slice none 0 0, .slice none 0 0, .int .i64 0], .int .i64 9]) (by simp [results, Try.results15, go_sem, yn]) rfl ?_
    exact ret_zero (Nat.le_succ _) b1 _ _ _
end Go.Proofs.Ytfmmbkggamojkaa
