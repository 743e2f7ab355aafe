/- The page's layer 3: how long, a barrier, a crash, a sector that is read. No condition but that the state reads. -/
import Derived.Test.YtfmmbkggamojkaaKd
set_option linter.unusedVariables false
set_option linter.unusedSimpArgs false
namespace Go.Proofs.Ytfmmbkggamojkaa
open Go.RowKit

/-- What is answered: a state of the page's in memory of its own, and an error. -/
def RetR (r : St3) (err : Int) (w : World) (e : Ending) (w' : World) : Prop := ∃ A1 c1 A2 c2, e = .returned (.tuple #[.agg #[.slice A1 r.secs.length c1, .slice A2 r.waits.length c2, .int .i64 r.cap], .int .i64 err]) ∧ Below w.heap.size w w' ∧
  Ow w' 36 (FrS w) (.slice A1 r.secs.length c1) r.secs ∧ Ow w' 39 (FrR w) (.slice A2 r.waits.length c2) r.waits
theorem ret_zeroR {err : Int} {w w2 : World} {g : Nat} (hg : w.heap.size ≤ g) (b : Below w.heap.size w w2) (u0 u1 u2 : Value) :
    RetR St3.zero err w (.returned (.tuple #[.agg #[.slice none 0 0, .slice none 0 0, .int .i64 0], .int .i64 err])) (((w2.setCell ⟨g, 0, none⟩ u0).setCell ⟨g, 1, none⟩ u1).setCell ⟨g, 2, none⟩ u2) :=
  ⟨none, 0, none, 0, rfl, ((b.setCell hg _).setCell hg _).setCell hg _, .nil_, .nil_⟩
theorem ret_boxR {r : St3} {err : Int} {w w1 w2 : World} {g : Nat} {cs : List Value} {A1 A2 : Option Addr} {c1 c2 : Nat} (y : Bx w2 g cs 25) (hg : w.heap.size ≤ g) (hw : w.heap.size ≤ w1.heap.size) (b : Below w.heap.size w w2)
    (o1 : Ow w2 36 (FrS w1) (.slice A1 r.secs.length c1) r.secs) (o2 : Ow w2 39 (FrR w1) (.slice A2 r.waits.length c2) r.waits) (u0 u1 u2 : Value) :
    RetR r err w (.returned (.tuple #[.agg #[.slice A1 r.secs.length c1, .slice A2 r.waits.length c2, .int .i64 r.cap], .int .i64 err])) (((w2.setCell ⟨g, 0, none⟩ u0).setCell ⟨g, 1, none⟩ u1).setCell ⟨g, 2, none⟩ u2) :=
  ⟨A1, c1, A2, c2, rfl, ((b.setCell hg _).setCell hg _).setCell hg _, (o1.mono fun b t h => ⟨by have := h.1; omega, h.2⟩).move (Kp.box3 y (rrS_ne (w := w)) _ _ _), (o2.mono fun b t h => ⟨by have := h.1; omega, h.2⟩).move (Kp.box3 y (rrR_ne (w := w)) _ _ _)⟩
set_option maxRecDepth 8000 in
set_option maxHeartbeats 400000 in
theorem rflush_any (s : St3) (S1 S2 : FP) (A1 A2 : Option Addr) (c1 c2 : Nat) (w : World) (h1 : Rd w S1 A1 c1 s.secs) (h2 : Rd w S2 A2 c2 s.waits) :
    Calls Try.prog 24 #[.agg #[.slice A1 s.secs.length c1, .slice A2 s.waits.length c2, .int .i64 s.cap]] w (RetR (flushR s) (err3 (ok3 s)) w) := by
  obtain ⟨secs, waits, cap⟩ := s
  dsimp only at h1 h2 ⊢
  have l1 := h1.len
  have l2 := h2.len
  have b0 : Below w.heap.size w ((w.alloc (.cells #[.slice A1 secs.length c1, .slice A2 waits.length c2, .int .i64 cap] 25)).alloc (.cells #[.slice none 0 0, .slice none 0 0, .int .i64 0] 25)) := below_alloc (below_alloc (Below.refl _ _) _) _
  have x0 := (Bx.new w [.slice A1 secs.length c1, .slice A2 waits.length c2, .int .i64 cap] 25).alloc (.cells #[.slice none 0 0, .slice none 0 0, .int .i64 0] 25)
  have y0 := Bx.new (w.alloc (.cells #[.slice A1 secs.length c1, .slice A2 waits.length c2, .int .i64 cap] 25)) [.slice none 0 0, .slice none 0 0, .int .i64 0] 25
  simp only [World.size_alloc] at y0
  by_cases hok : ok3 ⟨secs, waits, cap⟩ = true
  · have hr : flushR ⟨secs, waits, cap⟩ = crash3 ⟨secs, waits, cap⟩ (List.replicate waits.length true) := by rw [flushR, crashR, if_pos hok]
    have he : err3 (ok3 ⟨secs, waits, cap⟩) = 0 := by rw [hok]; rfl
    rw [hr, he]
    have HE := Lib.hid he
    have HOK := Lib.hid hok
    clear hok he hr
    obtain ⟨r, hr⟩ : ∃ r, r = crash3 ⟨secs, waits, cap⟩ (List.replicate waits.length true) := ⟨_, rfl⟩
    rw [← hr]
    have HR := Lib.hid hr
    clear hr
    go_enter Try.func24, Try.ntmps24
    go_wp2_with (first
      |
      (go_at_call 29; refine (rcheck_any ⟨secs, waits, cap⟩ S1 S2 A1 A2 c1 c2 _ (h1.below b0) (h2.below b0)).mono ?_; rintro e w1 ⟨rfl, hb1⟩; rw [HE.out]; have y1 := y0.keep hb1; have x1 := x0.keep hb1; have k1 := y1.three; have k2 := x1.three; have hz1 := hb1.size; simp only [World.size_alloc] at hz1; have b1 := below_then b0 hb1)
      | (go_at_call 44; refine (rsettled_all ⟨secs, waits, cap⟩ HOK.out S1 S2 A1 A2 c1 c2 _ (h1.below b1) (h2.below b1)).mono ?_; rw [← HR.out]; rintro e w2 ⟨B1, d1, B2, d2, rfl, hb2, o1, o2⟩; have y2 := y1.keep hb2; have k3 := y2.three))
    have hz2 := hb2.size
    have yn := (((y2.set_ 0 (.slice B1 (r).secs.length d1)).set_ 1 (.slice B2 (r).waits.length d2)).set_ 2 (.int .i64 (r).cap)).three
    refine bodyPost_ret (v := .tuple #[.agg #[.slice B1 (r).secs.length d1, .slice B2 (r).waits.length d2, .int .i64 (r).cap], .int .i64 0]) (by simp [results, Try.results24, go_sem, yn]) rfl ?_
    exact ret_boxR (r := r) y2 (Nat.le_succ _) (by have := b1.size; exact this) (below_then b1 hb2) o1 o2 _ _ _
  · have hr : flushR ⟨secs, waits, cap⟩ = St3.zero := by rw [flushR, crashR, if_neg hok]
    have he : err3 (ok3 ⟨secs, waits, cap⟩) = 9 := by have hok' : ok3 ⟨secs, waits, cap⟩ = false := (by simpa using hok); rw [hok']; rfl
    rw [hr, he]
    have HE := Lib.hid he
    clear hok he hr
    go_enter Try.func24, Try.ntmps24
    go_wp2_with
      (go_at_call 29; refine (rcheck_any ⟨secs, waits, cap⟩ S1 S2 A1 A2 c1 c2 _ (h1.below b0) (h2.below b0)).mono ?_; rintro e w1 ⟨rfl, hb1⟩; rw [HE.out]; have y1 := y0.keep hb1; have x1 := x0.keep hb1; have k1 := y1.three; have k2 := x1.three; have hz1 := hb1.size; simp only [World.size_alloc] at hz1; have b1 := below_then b0 hb1)
    have yn := (((y1.set_ 0 (.slice none 0 0)).set_ 1 (.slice none 0 0)).set_ 2 (.int .i64 0)).three
    refine bodyPost_ret (v := .tuple #[.agg #[.slice none 0 0, .slice none 0 0, .int .i64 0], .int .i64 9]) (by simp [results, Try.results24, go_sem, yn]) rfl ?_
    exact ret_zeroR (Nat.le_succ _) b1 _ _ _
set_option maxRecDepth 8000 in
set_option maxHeartbeats 400000 in
theorem rcrash_any (s : St3) (keep : List Bool) (S1 S2 S3 : FP) (A1 A2 A3 : Option Addr) (c1 c2 c3 : Nat) (w : World) (h1 : Rd w S1 A1 c1 s.secs) (h2 : Rd w S2 A2 c2 s.waits) (h3 : Rd w S3 A3 c3 keep) :
    Calls Try.prog 17 #[.agg #[.slice A1 s.secs.length c1, .slice A2 s.waits.length c2, .int .i64 s.cap], .slice A3 keep.length c3] w (RetR (crashR s keep) (err3 (ok3 s)) w) := by
  obtain ⟨secs, waits, cap⟩ := s
  dsimp only at h1 h2 ⊢
  have l1 := h1.len
  have l2 := h2.len
  have b0 : Below w.heap.size w ((w.alloc (.cells #[.slice A1 secs.length c1, .slice A2 waits.length c2, .int .i64 cap] 25)).alloc (.cells #[.slice none 0 0, .slice none 0 0, .int .i64 0] 25)) := below_alloc (below_alloc (Below.refl _ _) _) _
  have x0 := (Bx.new w [.slice A1 secs.length c1, .slice A2 waits.length c2, .int .i64 cap] 25).alloc (.cells #[.slice none 0 0, .slice none 0 0, .int .i64 0] 25)
  have y0 := Bx.new (w.alloc (.cells #[.slice A1 secs.length c1, .slice A2 waits.length c2, .int .i64 cap] 25)) [.slice none 0 0, .slice none 0 0, .int .i64 0] 25
  simp only [World.size_alloc] at y0
  by_cases hok : ok3 ⟨secs, waits, cap⟩ = true
  · have hr : crashR ⟨secs, waits, cap⟩ keep = crash3 ⟨secs, waits, cap⟩ keep := by rw [crashR, if_pos hok]
    have he : err3 (ok3 ⟨secs, waits, cap⟩) = 0 := by rw [hok]; rfl
    rw [hr, he]
    have HE := Lib.hid he
    have HOK := Lib.hid hok
    clear hok he hr
    obtain ⟨r, hr⟩ : ∃ r, r = crash3 ⟨secs, waits, cap⟩ keep := ⟨_, rfl⟩
    rw [← hr]
    have HR := Lib.hid hr
    clear hr
    go_enter Try.func17, Try.ntmps17
    go_wp2_with (first
      |
      (go_at_call 29; refine (rcheck_any ⟨secs, waits, cap⟩ S1 S2 A1 A2 c1 c2 _ (h1.below b0) (h2.below b0)).mono ?_; rintro e w1 ⟨rfl, hb1⟩; rw [HE.out]; have y1 := y0.keep hb1; have x1 := x0.keep hb1; have k1 := y1.three; have k2 := x1.three; have hz1 := hb1.size; simp only [World.size_alloc] at hz1; have b1 := below_then b0 hb1)
      | (go_at_call 44; refine (rsettled_some ⟨secs, waits, cap⟩ HOK.out keep S1 S2 S3 A1 A2 A3 c1 c2 c3 _ (h1.below b1) (h2.below b1) (h3.below b1)).mono ?_; rw [← HR.out]; rintro e w2 ⟨B1, d1, B2, d2, rfl, hb2, o1, o2⟩; have y2 := y1.keep hb2; have k3 := y2.three))
    have hz2 := hb2.size
    have yn := (((y2.set_ 0 (.slice B1 (r).secs.length d1)).set_ 1 (.slice B2 (r).waits.length d2)).set_ 2 (.int .i64 (r).cap)).three
    refine bodyPost_ret (v := .tuple #[.agg #[.slice B1 (r).secs.length d1, .slice B2 (r).waits.length d2, .int .i64 (r).cap], .int .i64 0]) (by simp [results, Try.results17, go_sem, yn]) rfl ?_
    exact ret_boxR (r := r) y2 (Nat.le_succ _) (by have := b1.size; exact this) (below_then b1 hb2) o1 o2 _ _ _
  · have hr : crashR ⟨secs, waits, cap⟩ keep = St3.zero := by rw [crashR, if_neg hok]
    have he : err3 (ok3 ⟨secs, waits, cap⟩) = 9 := by have hok' : ok3 ⟨secs, waits, cap⟩ = false := (by simpa using hok); rw [hok']; rfl
    rw [hr, he]
    have HE := Lib.hid he
    clear hok he hr
    go_enter Try.func17, Try.ntmps17
    go_wp2_with
      (go_at_call 29; refine (rcheck_any ⟨secs, waits, cap⟩ S1 S2 A1 A2 c1 c2 _ (h1.below b0) (h2.below b0)).mono ?_; rintro e w1 ⟨rfl, hb1⟩; rw [HE.out]; have y1 := y0.keep hb1; have x1 := x0.keep hb1; have k1 := y1.three; have k2 := x1.three; have hz1 := hb1.size; simp only [World.size_alloc] at hz1; have b1 := below_then b0 hb1)
    have yn := (((y1.set_ 0 (.slice none 0 0)).set_ 1 (.slice none 0 0)).set_ 2 (.int .i64 0)).three
    refine bodyPost_ret (v := .tuple #[.agg #[.slice none 0 0, .slice none 0 0, .int .i64 0], .int .i64 9]) (by simp [results, Try.results17, go_sem, yn]) rfl ?_
    exact ret_zeroR (Nat.le_succ _) b1 _ _ _
set_option maxRecDepth 8000 in
set_option maxHeartbeats 400000 in
theorem rlength_any (s : St3) (S1 S2 : FP) (A1 A2 : Option Addr) (c1 c2 : Nat) (w : World) (h1 : Rd w S1 A1 c1 s.secs) (h2 : Rd w S2 A2 c2 s.waits) :
    Calls Try.prog 28 #[.agg #[.slice A1 s.secs.length c1, .slice A2 s.waits.length c2, .int .i64 s.cap]] w fun e w' => e = .returned (.tuple #[.int .i64 (if ok3 s then size3 s else 0), .int .i64 (err3 (ok3 s))]) ∧ Below w.heap.size w w' := by
  obtain ⟨secs, waits, cap⟩ := s
  dsimp only at h1 h2 ⊢
  have l1 := h1.len
  have l2 := h2.len
  have b0 : Below w.heap.size w (w.alloc (.cells #[.slice A1 secs.length c1, .slice A2 waits.length c2, .int .i64 cap] 25)) := below_alloc (Below.refl _ _) _
  have x0 := Bx.new w [.slice A1 secs.length c1, .slice A2 waits.length c2, .int .i64 cap] 25
  by_cases hok : ok3 ⟨secs, waits, cap⟩ = true
  · have he : err3 (ok3 ⟨secs, waits, cap⟩) = 0 := by rw [hok]; rfl
    have hs : ((run3 secs waits (List.replicate waits.length true)).length : Int) = size3 ⟨secs, waits, cap⟩ := by rw [size_all hok, run3_all _ _ _ (Nat.le_refl _)]
    rw [if_pos hok, he]
    obtain ⟨n, hn⟩ : ∃ n, n = size3 ⟨secs, waits, cap⟩ := ⟨_, rfl⟩
    rw [← hn] at hs ⊢
    obtain ⟨r, hr⟩ : ∃ r, r = crash3 ⟨secs, waits, cap⟩ (List.replicate waits.length true) := ⟨_, rfl⟩
    have hs : (r.secs.length : Int) = n := by rw [hr]; exact hs
    have hfd : ∀ (a b c : Value) (W : World), (Instr.field 25 (.agg #[a, b, c]) 0).run Try.prog W = .ok a W := fun _ _ _ _ => by kernel_rfl
    have HR := Lib.hid hr
    have HS := Lib.hid hs
    have HE := Lib.hid he
    have HOK := Lib.hid hok
    clear hok he hn hr hs
    go_enter Try.func28, Try.ntmps28
    go_wp2_with (first
      | (go_at_call 29; refine (rcheck_any ⟨secs, waits, cap⟩ S1 S2 A1 A2 c1 c2 _ (h1.below b0) (h2.below b0)).mono ?_; rintro e w1 ⟨rfl, hb1⟩; rw [HE.out]; have x1 := x0.keep hb1; have k2 := x1.three; have b1 := below_then b0 hb1)
      | (go_at_call 44; refine (rsettled_all ⟨secs, waits, cap⟩ HOK.out S1 S2 A1 A2 c1 c2 _ (h1.below b1) (h2.below b1)).mono ?_; rw [← HR.out]; rintro e w2 ⟨B1, d1, B2, d2, rfl, hb2, o1, o2⟩))
    go_ret2
    exact ⟨by first | (rw [HS.out]; rfl) | rfl, below_then b1 hb2⟩
  · have hok' : ok3 ⟨secs, waits, cap⟩ = false := by simpa using hok
    have he : err3 (ok3 ⟨secs, waits, cap⟩) = 9 := by rw [hok']; rfl
    rw [if_neg hok, he]
    have HE := Lib.hid he
    clear hok hok' he
    go_enter Try.func28, Try.ntmps28
    go_wp2_with (go_at_call 29; refine (rcheck_any ⟨secs, waits, cap⟩ S1 S2 A1 A2 c1 c2 _ (h1.below b0) (h2.below b0)).mono ?_; rintro e w1 ⟨rfl, hb1⟩; rw [HE.out]; have x1 := x0.keep hb1; have k2 := x1.three; have b1 := below_then b0 hb1)
    go_ret2
    exact ⟨rfl, b1⟩
/-- A sector that is answered: it lies somewhere in new memory. -/
def ReadR (r : List UInt8 × Int) (w : World) (e : Ending) (w' : World) : Prop := ∃ A c, e = .returned (.tuple #[.slice A r.1.length c, .int .i64 r.2]) ∧ Below w.heap.size w w' ∧ Rd w' (FrS w) A c r.1
set_option maxRecDepth 8000 in
set_option maxHeartbeats 400000 in
theorem rread_any (s : St3) (at_ : Int) (S1 S2 : FP) (A1 A2 : Option Addr) (c1 c2 : Nat) (w : World) (h1 : Rd w S1 A1 c1 s.secs) (h2 : Rd w S2 A2 c2 s.waits) :
    Calls Try.prog 26 #[.agg #[.slice A1 s.secs.length c1, .slice A2 s.waits.length c2, .int .i64 s.cap], .int .i64 at_] w (ReadR (readR s at_) w) := by
  obtain ⟨secs, waits, cap⟩ := s
  dsimp only at h1 h2 ⊢
  have l1 := h1.len
  have l2 := h2.len
  have b0 : Below w.heap.size w (w.alloc (.cells #[.slice A1 secs.length c1, .slice A2 waits.length c2, .int .i64 cap] 25)) := below_alloc (Below.refl _ _) _
  have x0 := Bx.new w [.slice A1 secs.length c1, .slice A2 waits.length c2, .int .i64 cap] 25
  obtain ⟨r, hr⟩ : ∃ r, r = flushR ⟨secs, waits, cap⟩ := ⟨_, rfl⟩
  by_cases hok : ok3 ⟨secs, waits, cap⟩ = true
  · have he : err3 (ok3 ⟨secs, waits, cap⟩) = 0 := by rw [hok]; rfl
    have hrs : r.secs = all3 secs waits := by rw [hr, flush_secs hok]
    by_cases hout : at_ < 0 ∨ (r.secs.length : Int) ≤ at_
    · have ho := read_out hok at_ (by rw [← hrs]; exact hout)
      rw [ho]
      have HR := Lib.hid hr
      have HE := Lib.hid he
      clear hok he hr hrs ho
      by_cases t1 : at_ < 0
      all_goals
        first | (have t2 : (r.secs.length : Int) ≤ at_ := (by omega)) | skip
        clear hout
        go_enter Try.func26, Try.ntmps26
        go_wp2_with (go_at_call 24; refine (rflush_any ⟨secs, waits, cap⟩ S1 S2 A1 A2 c1 c2 _ (h1.below b0) (h2.below b0)).mono ?_; rw [HE.out, ← HR.out]; rintro e w1 ⟨B1, d1, B2, d2, rfl, hb1, o1, o2⟩; have z1 := Bx.new w1 [.slice B1 r.secs.length d1, .slice B2 r.waits.length d2, .int .i64 r.cap] 25; have k1 := z1.three)
        go_ret2
        exact ⟨none, 0, rfl, below_alloc (below_then b0 hb1) _, Rd.nil _ _ _ _⟩
    · obtain ⟨k, rfl⟩ := Int.eq_ofNat_of_zero_le (show 0 ≤ at_ by omega)
      have hk : k < r.secs.length := by omega
      have ho : readR ⟨secs, waits, cap⟩ k = (r.secs[k], 0) := by rw [read_all hok k (by rw [← hrs]; exact hk)]; simp only [hrs]
      rw [ho]
      have HR := Lib.hid hr
      have HE := Lib.hid he
      clear hok he hr hrs ho hout
      go_enter Try.func26, Try.ntmps26
      go_wp2_with (go_at_call 24; refine (rflush_any ⟨secs, waits, cap⟩ S1 S2 A1 A2 c1 c2 _ (h1.below b0) (h2.below b0)).mono ?_; rw [HE.out, ← HR.out]; rintro e w1 ⟨B1, d1, B2, d2, rfl, hb1, o1, o2⟩; have r1 := o1.rdS.move (Kp.alloc w1 (.cells #[.slice B1 r.secs.length d1, .slice B2 r.waits.length d2, .int .i64 r.cap] 25) _); obtain ⟨ad, v, rfl, hc, A', c', hv, hr⟩ := r1.at1 rfl k hk; simp only [List.cons.injEq, and_true] at hv; subst hv; have z1 := Bx.new w1 [.slice (some ad) r.secs.length d1, .slice B2 r.waits.length d2, .int .i64 r.cap] 25; have k1 := z1.three)
      go_ret2
      exact ⟨A', c', rfl, below_alloc (below_then b0 hb1) _, hr.mono fun b t h => ⟨by have := h.1; simp at this; omega, h.2⟩⟩
  · have hok' : ok3 ⟨secs, waits, cap⟩ = false := by simpa using hok
    have he : err3 (ok3 ⟨secs, waits, cap⟩) = 9 := by rw [hok']; rfl
    have ho : readR ⟨secs, waits, cap⟩ at_ = ([], 9) := by rw [readR, if_neg hok]
    rw [ho]
    have HR := Lib.hid hr
    have HE := Lib.hid he
    clear hok hok' he hr ho
    go_enter Try.func26, Try.ntmps26
    go_wp2_with (go_at_call 24; refine (rflush_any ⟨secs, waits, cap⟩ S1 S2 A1 A2 c1 c2 _ (h1.below b0) (h2.below b0)).mono ?_; rw [HE.out, ← HR.out]; rintro e w1 ⟨B1, d1, B2, d2, rfl, hb1, o1, o2⟩; have z1 := Bx.new w1 [.slice B1 r.secs.length d1, .slice B2 r.waits.length d2, .int .i64 r.cap] 25; have k1 := z1.three)
    go_ret2
    exact ⟨none, 0, rfl, below_alloc (below_then b0 hb1) _, Rd.nil _ _ _ _⟩
end Go.Proofs.Ytfmmbkggamojkaa
