/- The page's layer 3: a sector or a length that waits. No condition but that the state reads. -/
import Derived.Test.YtfmmbkggamojkaaKe
set_option linter.unusedVariables false
set_option linter.unusedSimpArgs false
namespace Go.Proofs.Ytfmmbkggamojkaa
open Go.RowKit


theorem ret_appR {w W w4 : World} {B3 : Nat} {D1 D2 F2 : Option Addr} {d1 d2 e2 : Nat} {secs : List (List UInt8)} {waits : List Act3} {cap : Int} {a : Act3} (x : Bx W B3 [.slice D1 secs.length d1, .slice D2 waits.length d2, .int .i64 cap] 25)
    (y : Bx W (w.heap.size + 1) [.slice none 0 0, .slice none 0 0, .int .i64 0] 25) (h3 : w.heap.size + 1 < B3) (b : Below w.heap.size w W) (o1 : Ow W 36 (FrS w) (.slice D1 secs.length d1) secs) (o2 : Ow W 39 (FrR w) (.slice D2 waits.length d2) waits)
    (hg : W.grownBy w4 (Value.slice D2 waits.length d2).ownBlock) (on : Ow w4 39 (FrR w) (.slice F2 (waits.length + 1) e2) (waits ++ [a])) (u0 u1 u2 : Value) :
    RetR ⟨secs, waits ++ [a], cap⟩ 0 w (.returned (.tuple #[.agg #[.slice D1 secs.length d1, .slice F2 (waits.length + 1) e2, .int .i64 cap], .int .i64 0])) ((((w4.setCell ⟨B3, 1, none⟩ (.slice F2 (waits.length + 1) e2)).setCell ⟨w.heap.size + 1, 0, none⟩ u0).setCell ⟨w.heap.size + 1, 1, none⟩ u1).setCell ⟨w.heap.size + 1, 2, none⟩ u2) ∧
      Bx w4 B3 [.slice D1 secs.length d1, .slice D2 waits.length d2, .int .i64 cap] 25 ∧ Bx w4 (w.heap.size + 1) [.slice none 0 0, .slice none 0 0, .int .i64 0] 25 := by
  have hx : ∀ {g : Nat} {cs : List Value} {t : TypeId}, Bx W g cs t → t ≠ 39 → Bx w4 g cs t := fun x ht => x.grown hg fun e => o2.ne_box x ht e.symm
  have z := hx x (by decide)
  have y' := (hx y (by decide)).far (p := ⟨B3, 1, none⟩) (by simp; omega) (.slice F2 (waits.length + 1) e2)
  have hl : (waits ++ [a]).length = waits.length + 1 := by simp
  have b4 := (below_app b hg fun g e => (o2.at_S g e).1).setCell (p := ⟨B3, 1, none⟩) (show w.heap.size ≤ B3 by omega) (.slice F2 (waits.length + 1) e2)
  refine ⟨⟨D1, d1, F2, e2, by simp, (((b4.setCell (by simp) _).setCell (by simp) _).setCell (by simp) _), ?_, ?_⟩, z, hx y (by decide)⟩
  · exact ((o1.move (Kp.app' o2 hg fun b t h => .inl (by rcases h.2 with h | h <;> (rw [h]; decide)))).move (Kp.box z (rrS_ne (w := w)) 1 _)).move (Kp.box3 y' (rrS_ne (w := w)) _ _ _)
  · dsimp only
    rw [hl]
    exact (on.move (Kp.box z (rrR_ne (w := w)) 1 _)).move (Kp.box3 y' (rrR_ne (w := w)) _ _ _)
def ThreeHeld (B3 : Nat) (v0 v1 v2 : Value) (W : World) : Prop := W.cell? ⟨B3, 0, none⟩ = some v0 ∧ W.cell? ⟨B3, 1, none⟩ = some v1 ∧ W.cell? ⟨B3, 2, none⟩ = some v2
set_option maxRecDepth 100000 in
set_option maxHeartbeats 1000000 in
theorem rresize_any (s : St3) (n : Int) (hn : InK .i64 n) (S1 S2 : FP) (A1 A2 : Option Addr) (c1 c2 : Nat) (w : World) (h1 : Rd w S1 A1 c1 s.secs) (h2 : Rd w S2 A2 c2 s.waits) :
    Calls Try.prog 23 #[.agg #[.slice A1 s.secs.length c1, .slice A2 s.waits.length c2, .int .i64 s.cap], .int .i64 n] w (RetR (resizeR s n).1 (resizeR s n).2 w) := by
  obtain ⟨secs, waits, cap⟩ := s
  dsimp only at h1 h2 ⊢
  have l1 := h1.len
  have l2 := h2.len
  have b0 : Below w.heap.size w ((w.alloc (.cells #[.slice A1 secs.length c1, .slice A2 waits.length c2, .int .i64 cap] 25)).alloc (.cells #[.slice none 0 0, .slice none 0 0, .int .i64 0] 25)) := below_alloc (below_alloc (Below.refl _ _) _) _
  have x0 := (Bx.new w [.slice A1 secs.length c1, .slice A2 waits.length c2, .int .i64 cap] 25).alloc (.cells #[.slice none 0 0, .slice none 0 0, .int .i64 0] 25)
  have y0 := Bx.new (w.alloc (.cells #[.slice A1 secs.length c1, .slice A2 waits.length c2, .int .i64 cap] 25)) [.slice none 0 0, .slice none 0 0, .int .i64 0] 25
  simp only [World.size_alloc] at y0
  by_cases hok : ok3 ⟨secs, waits, cap⟩ = true
  · have he : err3 (ok3 ⟨secs, waits, cap⟩) = 0 := by rw [hok]; rfl
    have HE := Lib.hid he
    have hw : waits.length ≤ 4096 := ((ok3_iff _).1 hok).2.2.2.2.1
    by_cases t1 : n < 0
    · have hr : resizeR ⟨secs, waits, cap⟩ n = (St3.zero, 4) := by rw [resizeR, if_pos hok, if_pos t1]
      rw [hr]
      clear hr he hok
      go_enter Try.func23, Try.ntmps23
      go_wp2_with
        (go_at_call 29; refine (rcheck_any ⟨secs, waits, cap⟩ S1 S2 A1 A2 c1 c2 _ (h1.below b0) (h2.below b0)).mono ?_; rintro e w1 ⟨rfl, hb1⟩; rw [HE.out]; have y1 := y0.keep hb1; have x1 := x0.keep hb1; have k1 := y1.three; have k2 := x1.three; have hz1 := hb1.size; simp only [World.size_alloc] at hz1; have b1 := below_then b0 hb1)
      have yn := (((y1.set_ 0 (.slice none 0 0)).set_ 1 (.slice none 0 0)).set_ 2 (.int .i64 0)).three
      refine bodyPost_ret (v := .tuple #[.agg #[.slice none 0 0, .slice none 0 0, .int .i64 0], .int .i64 4]) (by simp [results, Try.results23, go_sem, yn]) rfl ?_
      exact ret_zeroR (Nat.le_succ _) b1 _ _ _
    by_cases t2 : cap < n
    · have hr : resizeR ⟨secs, waits, cap⟩ n = (St3.zero, 51) := by rw [resizeR, if_pos hok, if_neg t1, if_pos (.inl t2)]
      rw [hr]
      clear hr he hok
      go_enter Try.func23, Try.ntmps23
      go_wp2_with
        (go_at_call 29; refine (rcheck_any ⟨secs, waits, cap⟩ S1 S2 A1 A2 c1 c2 _ (h1.below b0) (h2.below b0)).mono ?_; rintro e w1 ⟨rfl, hb1⟩; rw [HE.out]; have y1 := y0.keep hb1; have x1 := x0.keep hb1; have k1 := y1.three; have k2 := x1.three; have hz1 := hb1.size; simp only [World.size_alloc] at hz1; have b1 := below_then b0 hb1)
      have yn := (((y1.set_ 0 (.slice none 0 0)).set_ 1 (.slice none 0 0)).set_ 2 (.int .i64 0)).three
      refine bodyPost_ret (v := .tuple #[.agg #[.slice none 0 0, .slice none 0 0, .int .i64 0], .int .i64 51]) (by simp [results, Try.results23, go_sem, yn]) rfl ?_
      exact ret_zeroR (Nat.le_succ _) b1 _ _ _
    by_cases t3 : waits.length = 4096
    · have hr : resizeR ⟨secs, waits, cap⟩ n = (St3.zero, 51) := by rw [resizeR, if_pos hok, if_neg t1, if_pos (.inr t3)]
      rw [hr]
      have t3' : 4096 ≤ waits.length := by omega
      clear hr he hok t3
      go_enter Try.func23, Try.ntmps23
      go_wp2_with
        (go_at_call 29; refine (rcheck_any ⟨secs, waits, cap⟩ S1 S2 A1 A2 c1 c2 _ (h1.below b0) (h2.below b0)).mono ?_; rintro e w1 ⟨rfl, hb1⟩; rw [HE.out]; have y1 := y0.keep hb1; have x1 := x0.keep hb1; have k1 := y1.three; have k2 := x1.three; have hz1 := hb1.size; simp only [World.size_alloc] at hz1; have b1 := below_then b0 hb1)
      have yn := (((y1.set_ 0 (.slice none 0 0)).set_ 1 (.slice none 0 0)).set_ 2 (.int .i64 0)).three
      refine bodyPost_ret (v := .tuple #[.agg #[.slice none 0 0, .slice none 0 0, .int .i64 0], .int .i64 51]) (by simp [results, Try.results23, go_sem, yn]) rfl ?_
      exact ret_zeroR (Nat.le_succ _) b1 _ _ _
    have hr : resizeR ⟨secs, waits, cap⟩ n = (⟨secs, waits ++ [⟨2, n, []⟩], cap⟩, 0) := by rw [resizeR, if_pos hok, if_neg t1, if_neg (fun h => h.elim t2 t3)]
    rw [hr]
    have t3' : ¬ 4096 ≤ waits.length := by omega
    clear hr he hok t3
    have hu := Try.underlying23
    go_enter Try.func23, Try.ntmps23
    go_wp2_with (first
      |
      (go_at_call 29; refine (rcheck_any ⟨secs, waits, cap⟩ S1 S2 A1 A2 c1 c2 _ (h1.below b0) (h2.below b0)).mono ?_; rintro e w1 ⟨rfl, hb1⟩; rw [HE.out]; have y1 := y0.keep hb1; have x1 := x0.keep hb1; have k1 := y1.three; have k2 := x1.three; have hz1 := hb1.size; simp only [World.size_alloc] at hz1; have b1 := below_then b0 hb1)
      |
      (go_at_call 42; refine (rown_any ⟨secs, waits, cap⟩ S1 S2 A1 A2 c1 c2 _ (h1.below b1) (h2.below b1)).mono ?_; rintro e w2 ⟨D1, d1, D2, d2, rfl, hb2, o1, o2⟩; have hz2 := hb2.size; have b2 := below_alloc (below_then b1 hb2) (.cells #[.slice D1 secs.length d1, .slice D2 waits.length d2, .int .i64 cap] 25); have x2 := Bx.new w2 [.slice D1 secs.length d1, .slice D2 waits.length d2, .int .i64 cap] 25; have y2 := (y1.keep hb2).alloc (.cells #[.slice D1 secs.length d1, .slice D2 waits.length d2, .int .i64 cap] 25); have k3 := x2.three; have k4 := y2.three; have o1 := (o1.mono (S' := FrS w) fun b t h => ⟨by have := h.1; have := b1.size; omega, h.2⟩).move (Kp.alloc w2 (.cells #[.slice D1 secs.length d1, .slice D2 waits.length d2, .int .i64 cap] 25) _); have o2 := (o2.mono (S' := FrR w) fun b t h => ⟨by have := h.1; have := b1.size; omega, h.2⟩).move (Kp.alloc w2 (.cells #[.slice D1 secs.length d1, .slice D2 waits.length d2, .int .i64 cap] 25) _))
      | (at_builtin; go_loud (refine wl_app1 (x := (⟨2, n, []⟩ : Act3)) (cs := [.int .i64 2, .int .i64 n, .slice none 0 0]) (S2 := fun _ _ => False) rfl (.tmp 31) (.tmp 34) _ _ rfl hu infoR rfl rfl rfl (by simp) o2 (act_mk (show (Lit.int .i64 2).wf = true by decide) hn (Rd.nil _ _ none 0)) (fun _ _ h _ => h.elim) (by show (_ + 1) * 40 ≤ _; omega) ?_); intro v2 w4 hg hat hn2; have on := hn2 (FrR w) (fun b t h _ => h) (fun _ _ h _ => h.elim) (fun b h => ⟨by simp at h; omega, .inl rfl⟩); obtain ⟨F2, e2, hv2, _⟩ := on.rd; have hne : ¬ (w2.heap.size = w.heap.size + 1) := (by omega); have hne' : ¬ (w.heap.size + 1 = w2.heap.size) := (by omega); have hl2 : (waits ++ [(⟨2, n, []⟩ : Act3)]).length = waits.length + 1 := (by simp); rw [hl2] at hv2; subst hv2; have RR := ret_appR x2 y2 (by omega) b2 o1 o2 hg on; have k5 := (RR (.int .i64 0) (.int .i64 0) (.int .i64 0)).2.1.three; have k6 := (RR (.int .i64 0) (.int .i64 0) (.int .i64 0)).2.2.three; have HRR := Lib.hid RR; clear RR hn2 on hg hat))
    have yn := (((((HRR.out (.int .i64 0) (.int .i64 0) (.int .i64 0)).2.2.far (p := ⟨w2.heap.size, 1, none⟩) (by simp; omega) (.slice F2 (waits.length + 1) e2)).set_ 0 (.slice D1 secs.length d1)).set_ 1 (.slice F2 (waits.length + 1) e2)).set_ 2 (.int .i64 cap)).three
    refine bodyPost_ret (v := .tuple #[.agg #[.slice D1 secs.length d1, .slice F2 (waits.length + 1) e2, .int .i64 cap], .int .i64 0]) (by simp [results, Try.results23, go_sem, yn]) rfl ?_
    exact (HRR.out _ _ _).1
  · have hok' : ok3 ⟨secs, waits, cap⟩ = false := by simpa using hok
    have he : err3 (ok3 ⟨secs, waits, cap⟩) = 9 := by rw [hok']; rfl
    have hr : resizeR ⟨secs, waits, cap⟩ n = (St3.zero, 9) := by rw [resizeR, if_neg hok]
    rw [hr]
    have HE := Lib.hid he
    clear hok hok' hr he
    go_enter Try.func23, Try.ntmps23
    go_wp2_with
      (go_at_call 29; refine (rcheck_any ⟨secs, waits, cap⟩ S1 S2 A1 A2 c1 c2 _ (h1.below b0) (h2.below b0)).mono ?_; rintro e w1 ⟨rfl, hb1⟩; rw [HE.out]; have y1 := y0.keep hb1; have x1 := x0.keep hb1; have k1 := y1.three; have k2 := x1.three; have hz1 := hb1.size; simp only [World.size_alloc] at hz1; have b1 := below_then b0 hb1)
    have yn := (((y1.set_ 0 (.slice none 0 0)).set_ 1 (.slice none 0 0)).set_ 2 (.int .i64 0)).three
    refine bodyPost_ret (v := .tuple #[.agg #[.slice none 0 0, .slice none 0 0, .int .i64 0], .int .i64 9]) (by simp [results, Try.results23, go_sem, yn]) rfl ?_
    exact ret_zeroR (Nat.le_succ _) b1 _ _ _
set_option maxRecDepth 100000 in
set_option maxHeartbeats 1000000 in
theorem rwrite_any (s : St3) (at_ : Int) (ha : InK .i64 at_) (data : List UInt8) (S1 S2 S3 : FP) (A1 A2 A3 : Option Addr) (c1 c2 c3 : Nat) (w : World) (h1 : Rd w S1 A1 c1 s.secs) (h2 : Rd w S2 A2 c2 s.waits) (h3 : Rd w S3 A3 c3 data) :
    Calls Try.prog 16 #[.agg #[.slice A1 s.secs.length c1, .slice A2 s.waits.length c2, .int .i64 s.cap], .int .i64 at_, .slice A3 data.length c3] w (RetR (writeR s at_ data).1 (writeR s at_ data).2 w) := by
  obtain ⟨secs, waits, cap⟩ := s
  dsimp only at h1 h2 ⊢
  have l1 := h1.len
  have l2 := h2.len
  have b0 : Below w.heap.size w ((w.alloc (.cells #[.slice A1 secs.length c1, .slice A2 waits.length c2, .int .i64 cap] 25)).alloc (.cells #[.slice none 0 0, .slice none 0 0, .int .i64 0] 25)) := below_alloc (below_alloc (Below.refl _ _) _) _
  have x0 := (Bx.new w [.slice A1 secs.length c1, .slice A2 waits.length c2, .int .i64 cap] 25).alloc (.cells #[.slice none 0 0, .slice none 0 0, .int .i64 0] 25)
  have y0 := Bx.new (w.alloc (.cells #[.slice A1 secs.length c1, .slice A2 waits.length c2, .int .i64 cap] 25)) [.slice none 0 0, .slice none 0 0, .int .i64 0] 25
  simp only [World.size_alloc] at y0
  have l3 := h3.len
  by_cases hok : ok3 ⟨secs, waits, cap⟩ = true
  · have he : err3 (ok3 ⟨secs, waits, cap⟩) = 0 := by rw [hok]; rfl
    obtain ⟨n, hn⟩ : ∃ n, n = size3 ⟨secs, waits, cap⟩ := ⟨_, rfl⟩
    have hl : (if ok3 ⟨secs, waits, cap⟩ then size3 ⟨secs, waits, cap⟩ else 0) = n := by rw [if_pos hok, hn]
    have HE := Lib.hid he
    have HL := Lib.hid hl
    have hw : waits.length ≤ 4096 := ((ok3_iff _).1 hok).2.2.2.2.1
    by_cases t1 : at_ < 0
    · have hr : writeR ⟨secs, waits, cap⟩ at_ data = (St3.zero, 4) := by rw [writeR, if_pos hok, if_pos (.inl t1)]
      clear hn
      rw [hr]
      clear hr he hok hl
      go_enter Try.func16, Try.ntmps16
      go_wp2_with
        (go_at_call 28; refine (rlength_any ⟨secs, waits, cap⟩ S1 S2 A1 A2 c1 c2 _ (h1.below b0) (h2.below b0)).mono ?_; rintro e w1 ⟨rfl, hb1⟩; rw [HE.out, HL.out]; have y1 := y0.keep hb1; have x1 := x0.keep hb1; have k1 := y1.three; have k2 := x1.three; have hz1 := hb1.size; simp only [World.size_alloc] at hz1; have b1 := below_then b0 hb1)
      have yn := (((y1.set_ 0 (.slice none 0 0)).set_ 1 (.slice none 0 0)).set_ 2 (.int .i64 0)).three
      refine bodyPost_ret (v := .tuple #[.agg #[.slice none 0 0, .slice none 0 0, .int .i64 0], .int .i64 4]) (by simp [results, Try.results16, go_sem, yn]) rfl ?_
      exact ret_zeroR (Nat.le_succ _) b1 _ _ _
    by_cases t2 : n ≤ at_
    · have hr : writeR ⟨secs, waits, cap⟩ at_ data = (St3.zero, 4) := by rw [writeR, if_pos hok, if_pos (.inr (by rw [← hn]; exact t2))]
      clear hn
      rw [hr]
      clear hr he hok hl
      go_enter Try.func16, Try.ntmps16
      go_wp2_with
        (go_at_call 28; refine (rlength_any ⟨secs, waits, cap⟩ S1 S2 A1 A2 c1 c2 _ (h1.below b0) (h2.below b0)).mono ?_; rintro e w1 ⟨rfl, hb1⟩; rw [HE.out, HL.out]; have y1 := y0.keep hb1; have x1 := x0.keep hb1; have k1 := y1.three; have k2 := x1.three; have hz1 := hb1.size; simp only [World.size_alloc] at hz1; have b1 := below_then b0 hb1)
      have yn := (((y1.set_ 0 (.slice none 0 0)).set_ 1 (.slice none 0 0)).set_ 2 (.int .i64 0)).three
      refine bodyPost_ret (v := .tuple #[.agg #[.slice none 0 0, .slice none 0 0, .int .i64 0], .int .i64 4]) (by simp [results, Try.results16, go_sem, yn]) rfl ?_
      exact ret_zeroR (Nat.le_succ _) b1 _ _ _
    have t12 : ¬ (at_ < 0 ∨ size3 ⟨secs, waits, cap⟩ ≤ at_) := by rw [← hn]; omega
    by_cases t3 : data.length = 64
    · have t3' : ((data.length : Int) != 64) = false := by rw [t3]; rfl
      by_cases t4 : waits.length = 4096
      · have hr : writeR ⟨secs, waits, cap⟩ at_ data = (St3.zero, 51) := by rw [writeR, if_pos hok, if_neg t12, if_neg (by simpa using t3), if_pos t4]
        have t4' : 4096 ≤ waits.length := by omega
        clear hn t12 t3 t4
        rw [hr]
        clear hr he hok hl
        go_enter Try.func16, Try.ntmps16
        go_wp2_with
          (go_at_call 28; refine (rlength_any ⟨secs, waits, cap⟩ S1 S2 A1 A2 c1 c2 _ (h1.below b0) (h2.below b0)).mono ?_; rintro e w1 ⟨rfl, hb1⟩; rw [HE.out, HL.out]; have y1 := y0.keep hb1; have x1 := x0.keep hb1; have k1 := y1.three; have k2 := x1.three; have hz1 := hb1.size; simp only [World.size_alloc] at hz1; have b1 := below_then b0 hb1)
        have yn := (((y1.set_ 0 (.slice none 0 0)).set_ 1 (.slice none 0 0)).set_ 2 (.int .i64 0)).three
        refine bodyPost_ret (v := .tuple #[.agg #[.slice none 0 0, .slice none 0 0, .int .i64 0], .int .i64 51]) (by simp [results, Try.results16, go_sem, yn]) rfl ?_
        exact ret_zeroR (Nat.le_succ _) b1 _ _ _
      · have hr : writeR ⟨secs, waits, cap⟩ at_ data = (⟨secs, waits ++ [⟨1, at_, data⟩], cap⟩, 0) := by rw [writeR, if_pos hok, if_neg t12, if_neg (by simpa using t3), if_neg t4]
        have t4' : ¬ 4096 ≤ waits.length := by omega
        rw [hr]
        have HT3 := Lib.hid t3
        clear hr he hok hl hn t12 t3 t4
        have hu := Try.underlying23
        go_enter Try.func16, Try.ntmps16
        go_wp2_with (first
          |
          (go_at_call 28; refine (rlength_any ⟨secs, waits, cap⟩ S1 S2 A1 A2 c1 c2 _ (h1.below b0) (h2.below b0)).mono ?_; rintro e w1 ⟨rfl, hb1⟩; rw [HE.out, HL.out]; have y1 := y0.keep hb1; have x1 := x0.keep hb1; have k1 := y1.three; have k2 := x1.three; have hz1 := hb1.size; simp only [World.size_alloc] at hz1; have b1 := below_then b0 hb1)
          |
          (go_at_call 42; refine (rown_any ⟨secs, waits, cap⟩ S1 S2 A1 A2 c1 c2 _ (h1.below b1) (h2.below b1)).mono ?_; rintro e w2 ⟨D1, d1, D2, d2, rfl, hb2, o1, o2⟩; have hz2 := hb2.size; have b2 := below_alloc (below_then b1 hb2) (.cells #[.slice D1 secs.length d1, .slice D2 waits.length d2, .int .i64 cap] 25); have x2 := Bx.new w2 [.slice D1 secs.length d1, .slice D2 waits.length d2, .int .i64 cap] 25; have y2 := (y1.keep hb2).alloc (.cells #[.slice D1 secs.length d1, .slice D2 waits.length d2, .int .i64 cap] 25); have k3 := x2.three; have k4 := y2.three; have o1 := (o1.mono (S' := FrS w) fun b t h => ⟨by have := h.1; have := b1.size; omega, h.2⟩).move (Kp.alloc w2 (.cells #[.slice D1 secs.length d1, .slice D2 waits.length d2, .int .i64 cap] 25) _); have o2 := (o2.mono (S' := FrR w) fun b t h => ⟨by have := h.1; have := b1.size; omega, h.2⟩).move (Kp.alloc w2 (.cells #[.slice D1 secs.length d1, .slice D2 waits.length d2, .int .i64 cap] 25) _))
          )
        have b := b2.drew
        have x := x2.drew
        have y := y2.drew
        have o1 := o1.move (Kp.drewN _ 1 _)
        have o2 := o2.move (Kp.drewN _ 1 _)
        have hS : ThreeHeld w2.heap.size (.slice D1 secs.length d1) (.slice D2 waits.length d2) (.int .i64 cap) (w2.alloc (.cells #[.slice D1 secs.length d1, .slice D2 waits.length d2, .int .i64 cap] 25)).drew := ⟨k3.1.1, k3.1.2.1, k3.1.2.2⟩
        refine wp_region_noPanic ?_
        refine wp_region_E 9 (ThreeHeld w2.heap.size (.slice D1 secs.length d1) (.slice D2 waits.length d2) (.int .i64 cap)) (by kernel_rfl) (fun inv => ?_)
        refine wpE_take (i := 0) (v := ?_) (by kernel_rfl) inv (by simp only [List.getElem?_toArray, List.getElem?_cons_succ, List.getElem?_cons_zero]; rfl) (by decide) (by kernel_rfl) (by kernel_rfl) (fun _ _ _ h => h) hS (Or.inl ⟨by rfl, ?_⟩) ?_
        rotate_left
        · (intro w' hSw; obtain ⟨p0, p1, p2⟩ := hSw; go_simp; try (with_reducible rfl))
        intro inv1
        clear inv
        have inv := inv1
        clear inv1
        try simp only [Act.put, List.setIfInBounds_toArray, List.set_cons_zero, List.set_cons_succ]
        refine wpE_take (i := 1) (v := ?_) (by kernel_rfl) inv (by simp only [List.getElem?_toArray, List.getElem?_cons_succ, List.getElem?_cons_zero]; rfl) (by decide) (by kernel_rfl) (by kernel_rfl) (fun _ _ _ h => h) hS (Or.inl ⟨by rfl, ?_⟩) ?_
        rotate_left
        · (intro w' hSw; obtain ⟨p0, p1, p2⟩ := hSw; go_simp; try (with_reducible rfl))
        intro inv1
        clear inv
        have inv := inv1
        clear inv1
        try simp only [Act.put, List.setIfInBounds_toArray, List.set_cons_zero, List.set_cons_succ]
        refine wpE_take (i := 2) (v := ?_) (by kernel_rfl) inv (by simp only [List.getElem?_toArray, List.getElem?_cons_succ, List.getElem?_cons_zero]; rfl) (by decide) (by kernel_rfl) (by kernel_rfl) (fun _ _ _ h => h) hS (Or.inl ⟨by rfl, ?_⟩) ?_
        rotate_left
        · (intro w' hSw; obtain ⟨p0, p1, p2⟩ := hSw; go_simp; try (with_reducible rfl))
        intro inv1
        clear inv
        have inv := inv1
        clear inv1
        try simp only [Act.put, List.setIfInBounds_toArray, List.set_cons_zero, List.set_cons_succ]
        refine wpE_take (i := 3) (v := ?_) (by kernel_rfl) inv (by simp only [List.getElem?_toArray, List.getElem?_cons_succ, List.getElem?_cons_zero]; rfl) (by decide) (by kernel_rfl) (by kernel_rfl) (fun _ _ _ h => h) hS (Or.inl ⟨by rfl, ?_⟩) ?_
        rotate_left
        · (intro w' hSw; obtain ⟨p0, p1, p2⟩ := hSw; go_simp; try (with_reducible rfl))
        intro inv1
        clear inv
        have inv := inv1
        clear inv1
        try simp only [Act.put, List.setIfInBounds_toArray, List.set_cons_zero, List.set_cons_succ]
        refine wpE_one (i := 4) (by kernel_rfl) (by simp only [List.getElem?_toArray, List.getElem?_cons_succ, List.getElem?_cons_zero]; rfl) (fun K hK => ?_)
        go_simp
        go_at_call 43
        refine (copied_any S3 A3 c3 data _ (h3.below b)).mono ?_
        rintro e w3 ⟨v3, rfl, hb3, hf3, o3⟩
        obtain ⟨B4, d4, rfl, hr4⟩ := o3.rd
        have x3 := x.keep hb3
        have y3 := y.keep hb3
        have b3 := below_then b hb3
        have hS3 : ThreeHeld w2.heap.size (.slice D1 secs.length d1) (.slice D2 waits.length d2) (.int .i64 cap) w3 := ⟨x3.three.1.1, x3.three.1.2.1, x3.three.1.2.2⟩
        refine hK.out _ _ (fun _ => hS3) (fun _ => ?_)
        clear hK K
        try simp only [Act.put, List.setIfInBounds_toArray, List.set_cons_zero, List.set_cons_succ]
        have hS := hS3
        clear inv
        refine wpE_one (i := 5) (by kernel_rfl) (by simp only [List.getElem?_toArray, List.getElem?_cons_succ, List.getElem?_cons_zero]; rfl) (fun K hK => ?_)
        go_simp
        refine hK.out _ _ (fun _ => hS3) (fun _ => ?_)
        clear hK K
        try simp only [Act.put, List.setIfInBounds_toArray, List.set_cons_zero, List.set_cons_succ]
        have hS := hS3
        refine wpE_one (i := 6) (by kernel_rfl) (by simp only [List.getElem?_toArray, List.getElem?_cons_succ, List.getElem?_cons_zero]; rfl) (fun K hK => ?_)
        go_simp
        have x5 := x3.alloc (.cells #[.int .i64 1, .int .i64 at_, .slice B4 data.length d4] 39)
        have y5 := y3.alloc (.cells #[.int .i64 1, .int .i64 at_, .slice B4 data.length d4] 39)
        have b5 := below_alloc b3 (.cells #[.int .i64 1, .int .i64 at_, .slice B4 data.length d4] 39)
        have hS5 : ThreeHeld w2.heap.size (.slice D1 secs.length d1) (.slice D2 waits.length d2) (.int .i64 cap) _ := ⟨x5.three.1.1, x5.three.1.2.1, x5.three.1.2.2⟩
        refine hK.out _ _ (fun _ => hS5) (fun _ => ?_)
        clear hK K
        try simp only [Act.put, List.setIfInBounds_toArray, List.set_cons_zero, List.set_cons_succ]
        have hS := hS5
        refine wpE_one (i := 7) (by kernel_rfl) (by simp only [List.getElem?_toArray, List.getElem?_cons_succ, List.getElem?_cons_zero]; rfl) (fun K hK => ?_)
        have o22 := (o2.below hb3).move (Kp.alloc w3 (.cells #[.int .i64 1, .int .i64 at_, .slice B4 data.length d4] 39) _)
        have o11 := (o1.below hb3).move (Kp.alloc w3 (.cells #[.int .i64 1, .int .i64 at_, .slice B4 data.length d4] 39) _)
        have zr := Rd.lit1 (α := Act3) w3 39 (show Rep.has w3 _ (⟨1, at_, data⟩ : Act3) _ from act_mk (show (Lit.int .i64 1).wf = true by decide) ha hr4) (by show 1 * 40 ≤ _; decide)
        have h9 : w2.heap.size ≤ w3.heap.size := by have := hb3.size; simp at this; omega
        have h8 := o2.lt
        have H8 := Lib.hid h8
        clear h8
        refine step_app (v := .slice D2 waits.length d2) (xs := waits) (ys := [(⟨1, at_, data⟩ : Act3)]) rfl (.tmp 44) (.tmp 49) _ _ rfl hu infoR rfl _ _ rfl rfl o22 zr (fun b t h e => by
          have h8 : b < w2.heap.size + 1 := by have := H8.out b e; simpa using this
          rcases h with h | h
          · have h7 : w2.heap.size + 1 ≤ b := by have := h.1.1; simpa using this
            omega
          · have h6 := h.1
            have h5 := hb3.size
            simp at h5
            omega) (by show (_ + 1) * 40 ≤ _; omega) ?_
        intro v2 w4 hg hat hn2
        have hz := b2.size
        have on := hn2 (FrR w) (fun b t h _ => h) (fun b t h _ => by
          rcases h with h | h
          · exact ⟨by have h7 : w2.heap.size + 1 ≤ b := (by have := h.1.1; simpa using this); simp at hz; omega, .inr h.1.2⟩
          · exact ⟨by have := h.1; simp at hz; omega, .inl h.2⟩) ⟨by simp at hz ⊢; omega, .inl rfl⟩
        obtain ⟨F2, e2, hv2, _⟩ := on.rd
        have hl2 : (waits ++ [(⟨1, at_, data⟩ : Act3)]).length = waits.length + 1 := by simp
        rw [hl2] at hv2
        subst hv2
        have RR := ret_appR x5 y5 (by omega) b5 o11 o22 hg on
        have x7 := (RR (.int .i64 0) (.int .i64 0) (.int .i64 0)).2.1
        have k5 := x7.three
        have k6 := (RR (.int .i64 0) (.int .i64 0) (.int .i64 0)).2.2.three
        have hne : ¬ (w2.heap.size = w.heap.size + 1) := by omega
        have hne' : ¬ (w.heap.size + 1 = w2.heap.size) := by omega
        have hS7 : ThreeHeld w2.heap.size (.slice D1 secs.length d1) (.slice D2 waits.length d2) (.int .i64 cap) w4 := ⟨k5.1.1, k5.1.2.1, k5.1.2.2⟩
        have HRR := Lib.hid RR
        clear RR hn2 on hat hl2
        refine hK.out _ _ (fun _ => hS7) (fun _ => ?_)
        clear hK K
        try simp only [Act.put, List.setIfInBounds_toArray, List.set_cons_zero, List.set_cons_succ]
        have hS := hS7
        refine wpE_one (i := 8) (by kernel_rfl) (by simp only [List.getElem?_toArray, List.getElem?_cons_succ, List.getElem?_cons_zero]; rfl) (fun K hK => ?_)
        go_simp
        refine hK.out _ _ (fun _ => hS7) (fun _ => ?_)
        clear hK K
        try simp only [Act.put, List.setIfInBounds_toArray, List.set_cons_zero, List.set_cons_succ]
        have hS := hS7
        refine wpE_one (i := 9) (by kernel_rfl) (by simp only [List.getElem?_toArray, List.getElem?_cons_succ, List.getElem?_cons_zero]; rfl) (fun K hK => ?_)
        go_simp
        refine hK.out _ _ (fun h => absurd rfl h) (fun _ => ?_)
        clear hK K
        try simp only [Act.put, List.setIfInBounds_toArray, List.set_cons_zero, List.set_cons_succ]
        refine wpE_done (by kernel_rfl) ?_ _
        refine NoPanic.normal ?_
        go_wp2
        have yn := (((((HRR.out (.int .i64 0) (.int .i64 0) (.int .i64 0)).2.2.far (p := ⟨w2.heap.size, 1, none⟩) (by simp; omega) (.slice F2 (waits.length + 1) e2)).set_ 0 (.slice D1 secs.length d1)).set_ 1 (.slice F2 (waits.length + 1) e2)).set_ 2 (.int .i64 cap)).three
        refine bodyPost_ret (v := .tuple #[.agg #[.slice D1 secs.length d1, .slice F2 (waits.length + 1) e2, .int .i64 cap], .int .i64 0]) (by simp [results, Try.results16, go_sem, yn]) rfl ?_
        exact (HRR.out _ _ _).1
    · have t3' : ((data.length : Int) != 64) = true := by simp; omega
      have hr : writeR ⟨secs, waits, cap⟩ at_ data = (St3.zero, 1) := by rw [writeR, if_pos hok, if_neg t12, if_pos (by simpa using t3)]
      clear hn t12 t3
      rw [hr]
      clear hr he hok hl
      go_enter Try.func16, Try.ntmps16
      go_wp2_with
        (go_at_call 28; refine (rlength_any ⟨secs, waits, cap⟩ S1 S2 A1 A2 c1 c2 _ (h1.below b0) (h2.below b0)).mono ?_; rintro e w1 ⟨rfl, hb1⟩; rw [HE.out, HL.out]; have y1 := y0.keep hb1; have x1 := x0.keep hb1; have k1 := y1.three; have k2 := x1.three; have hz1 := hb1.size; simp only [World.size_alloc] at hz1; have b1 := below_then b0 hb1)
      have yn := (((y1.set_ 0 (.slice none 0 0)).set_ 1 (.slice none 0 0)).set_ 2 (.int .i64 0)).three
      refine bodyPost_ret (v := .tuple #[.agg #[.slice none 0 0, .slice none 0 0, .int .i64 0], .int .i64 1]) (by simp [results, Try.results16, go_sem, yn]) rfl ?_
      exact ret_zeroR (Nat.le_succ _) b1 _ _ _
  · have hok' : ok3 ⟨secs, waits, cap⟩ = false := by simpa using hok
    have he : err3 (ok3 ⟨secs, waits, cap⟩) = 9 := by rw [hok']; rfl
    have hl : (if ok3 ⟨secs, waits, cap⟩ then size3 ⟨secs, waits, cap⟩ else 0) = 0 := by rw [if_neg hok]
    have hr : writeR ⟨secs, waits, cap⟩ at_ data = (St3.zero, 9) := by rw [writeR, if_neg hok]
    have HE := Lib.hid he
    have HL := Lib.hid hl
    clear hok'
    rw [hr]
    clear hr he hok hl
    go_enter Try.func16, Try.ntmps16
    go_wp2_with
      (go_at_call 28; refine (rlength_any ⟨secs, waits, cap⟩ S1 S2 A1 A2 c1 c2 _ (h1.below b0) (h2.below b0)).mono ?_; rintro e w1 ⟨rfl, hb1⟩; rw [HE.out, HL.out]; have y1 := y0.keep hb1; have x1 := x0.keep hb1; have k1 := y1.three; have k2 := x1.three; have hz1 := hb1.size; simp only [World.size_alloc] at hz1; have b1 := below_then b0 hb1)
    have yn := (((y1.set_ 0 (.slice none 0 0)).set_ 1 (.slice none 0 0)).set_ 2 (.int .i64 0)).three
    refine bodyPost_ret (v := .tuple #[.agg #[.slice none 0 0, .slice none 0 0, .int .i64 0], .int .i64 9]) (by simp [results, Try.results16, go_sem, yn]) rfl ?_
    exact ret_zeroR (Nat.le_succ _) b1 _ _ _
end Go.Proofs.Ytfmmbkggamojkaa
