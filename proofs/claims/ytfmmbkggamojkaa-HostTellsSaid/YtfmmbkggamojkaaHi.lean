/- Layer 3, a crash. No condition but that the state and what is kept read. -/
import Derived.Test.YtfmmbkggamojkaaHh
set_option linter.unusedVariables false
set_option linter.unusedSimpArgs false
namespace Go.Proofs.Ytfmmbkggamojkaa
open Go.RowKit

theorem do_any (B0 B : Nat) (V : Value) (cap : Int) (l : List (List UInt8)) (A A3 : Option Addr) (c c3 : Nat) (a : Act3) (w : World) (hB : B0 ≤ B) (hB0 : B0 ≤ w.heap.size) (x : Bx w B [.slice A l.length c, V, .int .i64 cap] 30) (o : Ow w 36 (FrL3 B0) (.slice A l.length c) l)
    (h3 : Rd w (fun b t => B0 ≤ b ∧ t = tB) A3 c3 a.data) (hl : (l.length : Int) ≤ cap) (hc : cap ≤ 65536) (ha : may3 cap a = true) :
    Calls Try.prog 32 #[.pointer (some ⟨B, 0, none⟩), .agg #[.int .i64 a.what, .int .i64 a.at_, .slice A3 a.data.length c3]] w (Did B0 B V cap (do3 l a) w) := by
  rcases (may3_iff cap a).1 ha with ⟨h1, h2, h4, h5⟩ | ⟨h1, h2, h4, h5⟩
  · exact do_write B0 B V cap l A A3 c c3 a w hB hB0 x o h3 (by omega) h2
  · obtain ⟨what, at_, data⟩ := a
    dsimp only at h1 h2 h4 h5 h3 ⊢
    subst h1
    obtain ⟨k, rfl⟩ := Int.eq_ofNat_of_zero_le h2
    exact do_length B0 B V cap l A A3 c c3 k data w hB hB0 x o (by omega) (by omega)
theorem Kp.notbox {w : World} {g : Nat} {cs : List Value} {t : TypeId} (x : Bx w g cs t) {S : FP} (hS : ∀ b u, S b u → b ≠ g ∨ u ≠ (t, 0, 0)) : Kp w w S (fun b u => S b u ∧ b ≠ g) := fun b q c hs hb =>
  ⟨⟨hs, by
    rcases hS b q hs with h1 | h1
    · exact h1
    · rintro rfl
      have := x.blk
      rw [hb] at this
      injection this with this
      injection this with _ h2 h3
      exact h1 (by cases q; simp_all)⟩, hb⟩

/-- A state and an error come back, in memory of the call's own. -/
def RetSt (r : St3) (err : Int) (w : World) (e : Ending) (w' : World) : Prop := ∃ A1 c1 A2 c2, e = .returned (.tuple #[.agg #[.slice A1 r.secs.length c1, .slice A2 r.waits.length c2, .int .i64 r.cap], .int .i64 err]) ∧ Below w.heap.size w w' ∧
  Ow w' 36 (FrS w) (.slice A1 r.secs.length c1) r.secs ∧ Ow w' 49 (FrA w) (.slice A2 r.waits.length c2) r.waits

/-- What stands behind k acts. -/
def CrashInv (w : World) (secs : List (List UInt8)) (waits : List Act3) (cap : Int) (keep : List Bool) (B2 : Option Addr) (d2 k : Nat) (wr : World) : Prop := ∃ A c, Bx wr w.heap.size [.slice A (run3 secs (waits.take k) keep).length c, .slice B2 waits.length d2, .int .i64 cap] 30 ∧
  Bx wr (w.heap.size + 1) [.slice none 0 0, .slice none 0 0, .int .i64 0] 30 ∧ Below w.heap.size w wr ∧ Ow wr 36 (FrS w) (.slice A (run3 secs (waits.take k) keep).length c) (run3 secs (waits.take k) keep) ∧ RdI wr (fun b t => w.heap.size ≤ b ∧ t = tA) (fun b t => w.heap.size ≤ b ∧ t = tB) B2 d2 waits
theorem crash_start {w w1 w2 : World} {secs : List (List UInt8)} {waits : List Act3} {cap : Int} {keep : List Bool} {V1 V2 : Value} {B1 B2 : Option Addr} {d1 d2 : Nat} (hb2 : Below w1.heap.size w1 w2) (x2 : Bx w2 w.heap.size [V1, V2, .int .i64 cap] 30) (y2 : Bx w2 (w.heap.size + 1) [.slice none 0 0, .slice none 0 0, .int .i64 0] 30)
    (b : Below w.heap.size w w2) (o1 : Ow w2 36 (FrS w1) (.slice B1 secs.length d1) secs) (o2 : RdI w2 (fun b t => w1.heap.size ≤ b ∧ t = tA) (fun b t => w1.heap.size ≤ b ∧ t = tB) B2 d2 waits) (hw : w.heap.size ≤ w1.heap.size) :
    CrashInv w secs waits cap keep B2 d2 0 (((w2.setCell ⟨w.heap.size, 0, none⟩ (.slice B1 secs.length d1)).setCell ⟨w.heap.size, 1, none⟩ (.slice B2 waits.length d2)).setCell ⟨w.heap.size, 2, none⟩ (.int .i64 cap)) := by
  have e0 : run3 secs (waits.take 0) keep = secs := rfl
  unfold CrashInv
  rw [e0]
  refine ⟨B1, d1, ((x2.set_ 0 _).set_ 1 _).set_ 2 _, ((y2.far (by simp) _).far (by simp) _).far (by simp) _, ((b.setCell (Nat.le_refl _) _).setCell (Nat.le_refl _) _).setCell (Nat.le_refl _) _, ?_, ?_⟩
  · exact (o1.mono fun b t h => ⟨by have := h.1; omega, h.2⟩).move (Kp.box3 x2 (frS_ne (w := w)) _ _ _)
  · exact o2.move ((Kp.mono fun b t h => ⟨by have := h.1; omega, h.2⟩).trans (Kp.box3 x2 (fun b u h => .inr (by rw [h.2]; decide)) _ _ _)) ((Kp.mono fun b t h => ⟨by have := h.1; omega, h.2⟩).trans (Kp.box3 x2 (fun b u h => .inr (by rw [h.2]; decide)) _ _ _))
/-- Behind an act that was done. -/
theorem crash_did {w wr W w2 : World} {secs : List (List UInt8)} {waits : List Act3} {cap : Int} {keep : List Bool} {B2 : Option Addr} {d2 k : Nat} {e : Ending} {L : List (List UInt8)} (hL : run3 secs (waits.take (k + 1)) keep = L) (hb : Below w.heap.size w wr) (hW : Below wr.heap.size wr W)
    (y : Bx wr (w.heap.size + 1) [.slice none 0 0, .slice none 0 0, .int .i64 0] 30) (x : ∃ V c, Bx wr w.heap.size [V, .slice B2 waits.length d2, .int .i64 c] 30) (o2 : RdI wr (fun b t => w.heap.size ≤ b ∧ t = tA) (fun b t => w.heap.size ≤ b ∧ t = tB) B2 d2 waits)
    (h : Did w.heap.size w.heap.size (.slice B2 waits.length d2) cap L W e w2) : CrashInv w secs waits cap keep B2 d2 (k + 1) w2 := by
  obtain ⟨_, A, c, x2, oL, b2, kp⟩ := h
  obtain ⟨V, c0, x⟩ := x
  unfold CrashInv
  rw [hL]
  refine ⟨A, c, x2, ⟨(kp (fun b t => b = w.heap.size + 1 ∧ t = (30, 0, 0)) (fun b t h => ⟨by omega, .inl (by rw [h.2]; decide)⟩) (w.heap.size + 1) (30, 0, 0) _ ⟨rfl, rfl⟩ (y.keep hW).blk).2⟩, hb.trans ((hW.mono hb.size).trans b2), oL, ?_⟩
  have key : ∀ T : BT, T ≠ tL → T ≠ (30, 0, 0) → Kp W w2 (fun b t => w.heap.size ≤ b ∧ t = T) (fun b t => w.heap.size ≤ b ∧ t = T) := fun T h1 h2 => (Kp.notbox (x.keep hW) (fun b u h => .inr (by rw [h.2]; exact h2))).trans fun b t c hs hbk => ⟨hs.1, (kp (fun b t => (w.heap.size ≤ b ∧ t = T) ∧ b ≠ w.heap.size) (fun b t h => ⟨h.2, .inl (by rw [h.1.2]; exact h1)⟩) b t c hs hbk).2⟩
  exact (o2.below hW).move (key tA (by decide) (by decide)) (key tB (by decide) (by decide))
theorem crash_skip {w wr W : World} {secs : List (List UInt8)} {waits : List Act3} {cap : Int} {keep : List Bool} {B2 : Option Addr} {d2 k : Nat} (hL : run3 secs (waits.take (k + 1)) keep = run3 secs (waits.take k) keep) (hW : Below wr.heap.size wr W) (h : CrashInv w secs waits cap keep B2 d2 k wr) : CrashInv w secs waits cap keep B2 d2 (k + 1) W := by
  obtain ⟨A, c, x, y, b, o1, o2⟩ := h
  unfold CrashInv
  rw [hL]
  exact ⟨A, c, x.keep hW, y.keep hW, below_then b hW, o1.below hW, o2.below hW⟩
set_option maxHeartbeats 2000000 in
theorem crash_any (s : St3) (keep : List Bool) (S1 S2 S3 : FP) (A1 A2 A3 : Option Addr) (c1 c2 c3 : Nat) (w : World) (h1 : Rd w S1 A1 c1 s.secs) (h2 : Rd w S2 A2 c2 s.waits) (h3 : Rd w S3 A3 c3 keep) :
    Calls Try.prog 9 #[.agg #[.slice A1 s.secs.length c1, .slice A2 s.waits.length c2, .int .i64 s.cap], .slice A3 keep.length c3] w (RetSt (crashR s keep) (err3 (ok3 s)) w) := by
  obtain ⟨secs, waits, cap⟩ := s
  dsimp only at h1 h2 ⊢
  have l1 := h1.len
  have l2 := h2.len
  have l3 := h3.len
  have b0 : Below w.heap.size w ((w.alloc (.cells #[.slice A1 secs.length c1, .slice A2 waits.length c2, .int .i64 cap] 30)).alloc (.cells #[.slice none 0 0, .slice none 0 0, .int .i64 0] 30)) := below_alloc (below_alloc (Below.refl _ _) _) _
  have x0 := (Bx.new w [.slice A1 secs.length c1, .slice A2 waits.length c2, .int .i64 cap] 30).alloc (.cells #[.slice none 0 0, .slice none 0 0, .int .i64 0] 30)
  have y0 := Bx.new (w.alloc (.cells #[.slice A1 secs.length c1, .slice A2 waits.length c2, .int .i64 cap] 30)) [.slice none 0 0, .slice none 0 0, .int .i64 0] 30
  simp only [World.size_alloc] at y0
  by_cases hok : ok3 ⟨secs, waits, cap⟩ = true
  · have he : err3 (ok3 ⟨secs, waits, cap⟩) = 0 := by rw [hok]; rfl
    have hr : crashR ⟨secs, waits, cap⟩ keep = crash3 ⟨secs, waits, cap⟩ keep := by rw [crashR, if_pos hok]
    rw [hr, he]
    have HK := Lib.hid ((ok3_iff _).1 hok)
    have HE := Lib.hid he
    clear hok hr he
    go_enter Try.func9, Try.ntmps9
    go_wp2_with (first
      | (go_at_call 13; refine (check_any ⟨secs, waits, cap⟩ S1 S2 A1 A2 c1 c2 _ (h1.below b0) (h2.below b0)).mono ?_; rintro e w1 ⟨rfl, hb1⟩; rw [HE.out]; have x1 := x0.keep hb1; have y1 := y0.keep hb1; have k1 := x1.three; have hz1 := hb1.size; simp only [World.size_alloc] at hz1; have b1 := below_then b0 hb1)
      | (go_at_call 31; refine (hclone_any ⟨secs, waits, cap⟩ (fun b t => S1 b t ∧ b < w1.heap.size) (fun b t => S2 b t ∧ b < w1.heap.size) A1 A2 c1 c2 _ (h1.below b1).old (h2.below b1).old (fun _ _ h => h.2) (fun _ _ h => h.2)).mono ?_; rintro e w2 ⟨B1, d1, B2, d2, rfl, hb2, o1, _, o2⟩; have x2 := x1.keep hb2; have y2 := y1.keep hb2; have k2 := x2.three; have hz2 := hb2.size))
    have st := Lib.hid (crash_start (keep := keep) (cap := cap) hb2 x2 y2 (below_then b1 hb2) o1 o2 (by omega))
    go_loopw [7, 8, 20] (fun _ _ i wr => ∃ k : Nat, k ≤ waits.length ∧ i = .int .i64 k ∧ CrashInv w secs waits cap keep B2 d2 k wr) (fun _ _ i _ => waits.length - (intOf i).toNat)
    case atStart => exact ⟨0, Nat.zero_le _, rfl, st⟩
    case round =>
      clear st k1 k2 x1 x2 y1 y2 o1 o2 b1 hb1 hb2 x0 y0
      obtain ⟨k, hk, rfl, hinv⟩ := hrel
      by_cases hlt : k < waits.length
      · have hinv' := Lib.hid hinv
        obtain ⟨A, c, x, y, b, o1, o2⟩ := hinv
        obtain ⟨ad, A', c', rfl, hr, i1, i2, q0, q1, q2⟩ := acts_atI o2 k hlt
        have hxl := x.lt
        have hne : w.heap.size ≠ wr.heap.size := by omega
        have hnext := run3_next secs waits keep k hlt
        by_cases hkk : k < keep.length
        · obtain ⟨ad3, v3, rfl, hc3, hv3⟩ := (h3.below (below_alloc b (.cells #[.int .i64 waits[k].what, .int .i64 waits[k].at_, .slice A' waits[k].data.length c'] 49))).at1 rfl k hkk
          simp only [Rep.has, List.cons.injEq, and_true] at hv3
          subst hv3
          have hg : keep.getD k false = keep[k] := by rw [List.getD_eq_getElem?_getD, List.getElem?_eq_getElem hkk]; rfl
          rw [hg] at hnext
          by_cases hkt : keep[k] = true
          · rw [if_pos hkt] at hnext
            have HN := Lib.hid hnext
            clear hnext hg
            have hal2 := below_alloc (Below.refl _ wr) (.cells #[.int .i64 waits[k].what, .int .i64 waits[k].at_, .slice A' waits[k].data.length c'] 49)
            go_wp2_with (go_at_call 32; refine (do_any w.heap.size w.heap.size _ cap _ A A' c c' waits[k] _ (Nat.le_refl _) (by have := b.size; simp; omega) (x.keep hal2) (o1.below hal2) (hr.below hal2) (run3_len HK.out.2.2.1 waits HK.out.2.2.2.2.2 k (by omega)) HK.out.2.1 (HK.out.2.2.2.2.2 _ (List.getElem_mem _))).mono ?_; rintro e w3 hd; obtain ⟨rfl, _⟩ := id hd)
            go_roundw
            case rel => exact ⟨k + 1, by omega, by go_num, crash_did HN.out b hal2 y ⟨_, _, x⟩ o2 hd⟩
            case measure => simp [intOf]; omega
          · have hkf : keep[k] = false := by simpa using hkt
            rw [if_neg hkt] at hnext
            have HN := Lib.hid hnext
            clear hnext hg hkt
            go_wp2
            go_roundw
            case rel => exact ⟨k + 1, by omega, by go_num, crash_skip HN.out (below_alloc (Below.refl _ _) _) hinv'⟩
            case measure => simp [intOf]; omega
        · have hg : keep.getD k false = false := by rw [List.getD_eq_getElem?_getD, List.getElem?_eq_none (by omega)]; rfl
          rw [hg, if_neg (by decide)] at hnext
          have HN := Lib.hid hnext
          clear hnext hg
          go_wp2
          go_roundw
          case rel => exact ⟨k + 1, by omega, by go_num, crash_skip HN.out (below_alloc (Below.refl _ _) _) hinv'⟩
          case measure => simp [intOf]; omega
      · obtain ⟨A, c, x, y, b, o1, o2⟩ := hinv
        have xc := x.three
        have yn := ((((y.far (p := ⟨w.heap.size, 1, none⟩) (by simp) (.slice none 0 0)).set_ 0 (.slice A (run3 secs (waits.take k) keep).length c)).set_ 1 (.slice none 0 0)).set_ 2 (.int .i64 cap)).three
        have yc := y.three
        go_wp2
        refine bodyPost_ret (v := .tuple #[.agg #[.slice A (run3 secs (waits.take k) keep).length c, .slice none 0 0, .int .i64 cap], .int .i64 0]) (by simp [results, Try.results9, go_sem, yn]) rfl ?_
        have hkl : waits.take k = waits := List.take_of_length_le (by omega)
        rw [hkl] at o1 ⊢
        refine ⟨A, c, none, 0, rfl, (((b.setCell (Nat.le_refl _) _).setCell (Nat.le_succ _) _).setCell (Nat.le_succ _) _).setCell (Nat.le_succ _) _, ?_, .nil_⟩
        exact (o1.move (Kp.box x (frS_ne (w := w)) 1 _)).move (Kp.box3 (y.far (p := ⟨w.heap.size, 1, none⟩) (by simp) (.slice none 0 0)) (frS_ne (w := w)) _ _ _)
  · have hok' : ok3 ⟨secs, waits, cap⟩ = false := by simpa using hok
    have he : err3 (ok3 ⟨secs, waits, cap⟩) = 9 := by rw [hok']; rfl
    have hr : crashR ⟨secs, waits, cap⟩ keep = St3.zero := by rw [crashR, if_neg hok]
    rw [hr, he]
    have HE := Lib.hid he
    clear hok hok' hr he
    go_enter Try.func9, Try.ntmps9
    go_wp2_with (go_at_call 13; refine (check_any ⟨secs, waits, cap⟩ S1 S2 A1 A2 c1 c2 _ (h1.below b0) (h2.below b0)).mono ?_; rintro e w1 ⟨rfl, hb1⟩; rw [HE.out]; have y1 := y0.keep hb1; have k1 := y1.three; have hz1 := hb1.size; simp only [World.size_alloc] at hz1; have b1 := below_then b0 hb1)
    have yn := (((y1.set_ 0 (.slice none 0 0)).set_ 1 (.slice none 0 0)).set_ 2 (.int .i64 0)).three
    refine bodyPost_ret (v := .tuple #[.agg #[.slice none 0 0, .slice none 0 0, .int .i64 0], .int .i64 9]) (by simp [results, Try.results9, go_sem, yn]) rfl ?_
    exact ⟨none, 0, none, 0, rfl, ((b1.setCell (Nat.le_succ _) _).setCell (Nat.le_succ _) _).setCell (Nat.le_succ _) _, .nil_, .nil_⟩
end Go.Proofs.Ytfmmbkggamojkaa
