/- The statements' own small functions: a number of an error, a host for the program. No condition but that the state reads. -/
import Derived.Test.YtfmmbkggamojkaaPl
import Derived.Test.YtfmmbkggamojkaaHo
import Derived.Test.YtfmmbkggamojkaaTe
import Derived.Deep.CutRange
set_option linter.unusedVariables false
set_option linter.unusedSimpArgs false
namespace Go.Proofs.Ytfmmbkggamojkaa
open Go.RowKit

theorem num_any (n : Int) (w : World) : Calls Try.prog 11 #[.int .i64 n] w fun e w' => e = .returned (.int .i64 n) ∧ w = w' := by
  go_enter Try.func11, Try.ntmps11
  go_wp2
  go_ret
  exact ⟨rfl, rfl⟩
/-- A state in memory of its own. -/
def Own1 (s : St3) (w : World) (e : Ending) (w' : World) : Prop := ∃ A1 c1 A2 c2, e = .returned (.agg #[.slice A1 s.secs.length c1, .slice A2 s.waits.length c2, .int .i64 s.cap]) ∧ Below w.heap.size w w' ∧
  Ow w' 36 (FrS w) (.slice A1 s.secs.length c1) s.secs ∧ Ow w' 49 (FrA w) (.slice A2 s.waits.length c2) s.waits
/-- What stands behind k acts. -/
def OfInv (w : World) (secs : List (List UInt8)) (waits : List Act3) (cap : Int) (A1 A2 : Option Addr) (c1 c2 B3 k : Nat) (wr : World) : Prop := ∃ D1 d1 D2 d2, Bx wr B3 [.slice D1 secs.length d1, .slice D2 k d2, .int .i64 cap] 30 ∧
  Bx wr w.heap.size [.slice A1 secs.length c1, .slice A2 waits.length c2, .int .i64 cap] 25 ∧ Bx wr (w.heap.size + 1) [.slice none 0 0, .slice none 0 0, .int .i64 0] 30 ∧ w.heap.size + 1 < B3 ∧ Below w.heap.size w wr ∧
  Ow wr 36 (FrS w) (.slice D1 secs.length d1) secs ∧ Ow wr 49 (FrA w) (.slice D2 k d2) (waits.take k)
theorem of_start {w : World} {secs : List (List UInt8)} {waits : List Act3} {cap : Int} {A1 A2 : Option Addr} {c1 c2 B3 : Nat} {B1 : Option Addr} {d1 : Nat} {W : World} (x : Bx W B3 [.slice B1 secs.length d1, .slice none 0 0, .int .i64 cap] 30)
    (x1 : Bx W w.heap.size [.slice A1 secs.length c1, .slice A2 waits.length c2, .int .i64 cap] 25) (y1 : Bx W (w.heap.size + 1) [.slice none 0 0, .slice none 0 0, .int .i64 0] 30) (h3 : w.heap.size + 1 < B3) (b : Below w.heap.size w W)
    (o1 : Ow W 36 (FrS w) (.slice B1 secs.length d1) secs) : OfInv w secs waits cap A1 A2 c1 c2 B3 0 W := ⟨B1, d1, none, 0, x, x1, y1, h3, b, o1, .nil_⟩
theorem acts_keep {w W : World} {ad : Addr} {a b c : Value} (hb : Below w.heap.size w W) (h : w.cell? ad = some a ∧ w.cell? ⟨ad.block, ad.off + 1, none⟩ = some b ∧ w.cell? ⟨ad.block, ad.off + 2, none⟩ = some c) : W.cell? ad = some a ∧ W.cell? ⟨ad.block, ad.off + 1, none⟩ = some b ∧ W.cell? ⟨ad.block, ad.off + 2, none⟩ = some c :=
  ⟨(hb.cell (World.block_lt_of_cell? w _ h.1)).trans h.1, keep_cell hb h.2.1, keep_cell hb h.2.2⟩
/-- What a cell holds. -/
def cellAt (W : World) (a : Addr) : Value := (W.cell? a).getD (.int .i64 0)
theorem cellAt_of {W : World} {a : Addr} {v : Value} (h : W.cell? a = some v) : cellAt W a = v := by rw [cellAt, h]; rfl
/-- One act more. -/
theorem of_next {w w1 w2 : World} {secs : List (List UInt8)} {waits : List Act3} {cap : Int} {A1 A2 D1 D2 F2 : Option Addr} {c1 c2 d1 d2 e2 B3 k : Nat} (hk : k < waits.length) (x : Bx w1 B3 [.slice D1 secs.length d1, .slice D2 k d2, .int .i64 cap] 30)
    (x1 : Bx w1 w.heap.size [.slice A1 secs.length c1, .slice A2 waits.length c2, .int .i64 cap] 25) (y1 : Bx w1 (w.heap.size + 1) [.slice none 0 0, .slice none 0 0, .int .i64 0] 30) (h3 : w.heap.size + 1 < B3) (b : Below w.heap.size w w1)
    (o1 : Ow w1 36 (FrS w) (.slice D1 secs.length d1) secs) (o2 : Ow w1 49 (FrA w) (.slice D2 k d2) (waits.take k)) (hg : w1.grownBy w2 (Value.slice D2 k d2).ownBlock) (o3 : Ow w2 49 (FrA w) (.slice F2 (k + 1) e2) (waits.take (k + 1))) :
    OfInv w secs waits cap A1 A2 c1 c2 B3 (k + 1) (w2.setCell ⟨B3, 1, none⟩ (.slice F2 (k + 1) e2)) := by
  have hx : ∀ {g : Nat} {cs : List Value} {t : TypeId}, Bx w1 g cs t → t ≠ 49 → Bx w2 g cs t := fun x ht => x.grown hg fun e => o2.ne_box x ht e.symm
  have z := hx x (by decide)
  refine ⟨D1, d1, F2, e2, z.set_ 1 _, (hx x1 (by decide)).far (by simp; omega) _, (hx y1 (by decide)).far (by simp; omega) _, h3, (below_app b hg fun g e => (o2.at_S g e).1).setCell (show w.heap.size ≤ B3 by omega) _, ?_, ?_⟩
  · exact (o1.move (Kp.app' o2 hg fun b t h => .inl (by rcases h.2 with h | h <;> (rw [h]; decide)))).move (Kp.box z (frS_ne (w := w)) 1 _)
  · exact o3.move (Kp.box z (frA_ne (w := w)) 1 _)
/-- What the loads of a round read. -/
def OfHeld (B0 : Nat) (v0 v1 v2 : Value) (ad : Addr) (u0 u1 u2 : Value) (at3 : Addr) (v3 : Value) (W : World) : Prop :=
  (W.cell? ⟨B0, 0, none⟩ = some v0 ∧ W.cell? ⟨B0, 1, none⟩ = some v1 ∧ W.cell? ⟨B0, 2, none⟩ = some v2) ∧ W.cell? ad = some u0 ∧ W.cell? ⟨ad.block, ad.off + 1, none⟩ = some u1 ∧ W.cell? ⟨ad.block, ad.off + 2, none⟩ = some u2 ∧ W.cell? at3 = some v3
set_option maxHeartbeats 1000000 in
theorem of_any (s : St3) (S1 S2 : FP) (A1 A2 : Option Addr) (c1 c2 : Nat) (w : World) (h1 : Rd w S1 A1 c1 s.secs) (h2 : Rd w S2 A2 c2 s.waits) :
    Calls Try.prog 10 #[.agg #[.slice A1 s.secs.length c1, .slice A2 s.waits.length c2, .int .i64 s.cap]] w (Own1 s w) := by
  obtain ⟨secs, waits, cap⟩ := s
  dsimp only at h1 h2 ⊢
  have l1 := h1.len
  have l2 := h2.len
  have b0 : Below w.heap.size w ((w.alloc (.cells #[.slice A1 secs.length c1, .slice A2 waits.length c2, .int .i64 cap] 25)).alloc (.cells #[.slice none 0 0, .slice none 0 0, .int .i64 0] 30)) := below_alloc (below_alloc (Below.refl _ _) _) _
  have x0 := (Bx.new w [.slice A1 secs.length c1, .slice A2 waits.length c2, .int .i64 cap] 25).alloc (.cells #[.slice none 0 0, .slice none 0 0, .int .i64 0] 30)
  have y0 := Bx.new (w.alloc (.cells #[.slice A1 secs.length c1, .slice A2 waits.length c2, .int .i64 cap] 25)) [.slice none 0 0, .slice none 0 0, .int .i64 0] 30
  simp only [World.size_alloc] at y0
  have b0 := b0.drew
  have x0 := x0.drew
  have y0 := y0.drew
  go_enter Try.func10, Try.ntmps10
  have z0 := Bx.new ((w.alloc (.cells #[.slice A1 secs.length c1, .slice A2 waits.length c2, .int .i64 cap] 25)).alloc (.cells #[.slice none 0 0, .slice none 0 0, .int .i64 0] 30)).drew [.slice none 0 0, .slice none 0 0, .int .i64 0] 30
  simp only [World.size_drew, World.size_alloc] at z0
  have n1 : ¬ (w.heap.size = w.heap.size + 1 + 1) := by omega
  have n2 : ¬ (w.heap.size + 1 + 1 = w.heap.size) := by omega
  go_upto_region 1 with fail
  go_cut [3] from 5 to 10 (fun t3 wx => ∃ B3, t3 = .pointer (some ⟨B3, 0, none⟩) ∧ OfInv w secs waits cap A1 A2 c1 c2 B3 0 wx)
  case first =>
    go_region_held3 (fun W => W.cell? ⟨w.heap.size, 0, none⟩ = some (.slice A1 secs.length c1) ∧ W.cell? ⟨w.heap.size, 1, none⟩ = some (.slice A2 waits.length c2) ∧ W.cell? ⟨w.heap.size, 2, none⟩ = some (.int .i64 cap)) (go_keep)
      (first
       | (go_at_call 33; go_loud (refine (copy_list S1 A1 c1 secs _ (h1.below (by first | exact b0 | exact below_alloc b0 _))).mono ?_); rintro e w1 ⟨v1, rfl, hb1, o1⟩; obtain ⟨B1, d1, rfl, _⟩ := o1.rd; have x1 : Bx w1 w.heap.size [.slice A1 secs.length c1, .slice A2 waits.length c2, .int .i64 cap] 25 := (by first | exact x0.keep hb1 | exact (x0.alloc _).keep hb1); have k1 := x1.three; have y1 : Bx w1 (w.heap.size + 1) [.slice none 0 0, .slice none 0 0, .int .i64 0] 30 := (by first | exact y0.keep hb1 | exact (y0.alloc _).keep hb1); try (have z1 := z0.keep hb1; have kz := z1.three)))
    all_goals (go_wp2_with fail; go_meet)
    · have hz := hb1.size
      have hz0 := y1.lt
      have bb : Below w.heap.size w w1 := below_then (by first | exact b0 | exact below_alloc b0 _) hb1
      exact ⟨_, rfl, of_start (Bx.new w1 _ _) (x1.alloc _) (y1.alloc _) (by simp at hz; omega) (below_alloc bb _) ((o1.mono fun b t h => ⟨by have := h.1; simp at this; omega, h.2⟩).move (Kp.alloc _ _ _))⟩
    · have hz := hb1.size
      have bb : Below w.heap.size w w1 := below_then (by first | exact b0 | exact below_alloc b0 _) hb1
      exact ⟨_, rfl, of_start (((z1.set_ 0 _).set_ 1 _).set_ 2 _) (((x1.far (by simpa using n1) _).far (by simpa using n1) _).far (by simpa using n1) _) (((y1.far (by simp) _).far (by simp) _).far (by simp) _) (by omega)
        (((bb.setCell (by simp; omega) _).setCell (by simp; omega) _).setCell (by simp; omega) _) ((o1.mono fun b t h => ⟨by have := h.1; simp at this; omega, h.2⟩).move (Kp.box3 z1 (frS_ne (w := w)) _ _ _))⟩
  case rest =>
    obtain ⟨B3, rfl, hinv⟩ := hcut
    clear x0 y0 z0 b0 n1 n2
    go_wp2_with fail
    go_loopw [4] (fun i wr => ∃ k : Nat, k ≤ waits.length ∧ i = .int .i64 k ∧ OfInv w secs waits cap A1 A2 c1 c2 B3 k wr) (fun i _ => waits.length - (intOf i).toNat)
    case atStart => exact ⟨0, Nat.zero_le _, rfl, hinv⟩
    case round =>
      clear hinv
      obtain ⟨k, hk, rfl, hinv⟩ := hrel
      by_cases hlt : k < waits.length
      · obtain ⟨D1, d1, D2, d2, x, x1, y1, h3, b, o1, o2⟩ := hinv
        obtain ⟨ad, A', c', rfl, hr, i1, i2, q0, q1, q2⟩ := acts_at h2 k hlt
        have hq := acts_keep b ⟨q0, q1, q2⟩
        have k1 := x1.three
        have k2 := x.three
        go_wp2
        have b := b.drew
        have x := x.drew
        have x1 := x1.drew
        have y1 := y1.drew
        have o1 := o1.move (Kp.drewN _ 1 _)
        have o2 := o2.move (Kp.drewN _ 1 _)
        have hu := Try.underlying28
        have hkl : (waits.take k).length = k := by rw [List.length_take]; omega
        have htk := List.take_succ_eq_append_getElem hlt
        have HT := Lib.hid htk
        have HK := Lib.hid hkl
        clear htk hkl
        have kc := cellAt_of x.three.1.2.1
        have hS : OfHeld w.heap.size (.slice A1 secs.length c1) (.slice (some ad) waits.length c2) (.int .i64 cap) (ad.add (k * 3)) (.int .i64 waits[k].what) (.int .i64 waits[k].at_) (.slice A' waits[k].data.length c') ⟨B3, 1, none⟩ (.slice D2 k d2) wr.drew := ⟨⟨k1.1.1, k1.1.2.1, k1.1.2.2⟩, hq.1, hq.2.1, hq.2.2, k2.1.2.1⟩
        refine wp_region_noPanic ?_
        refine wp_region_E 25 (OfHeld w.heap.size (.slice A1 secs.length c1) (.slice (some ad) waits.length c2) (.int .i64 cap) (ad.add (k * 3)) (.int .i64 waits[k].what) (.int .i64 waits[k].at_) (.slice A' waits[k].data.length c') ⟨B3, 1, none⟩ (.slice D2 k d2)) (by kernel_rfl) (fun inv => ?_)
        refine wpE_take (i := 0) (v := ?_) (by kernel_rfl) inv (by simp only [List.getElem?_toArray, List.getElem?_cons_succ, List.getElem?_cons_zero]; rfl) (by decide) (by kernel_rfl) (by kernel_rfl) (fun _ _ _ h => h) hS (Or.inl ⟨by rfl, ?_⟩) ?_
        rotate_left
        · (intro w' hSw; obtain ⟨⟨p0, p1, p2⟩, p3, p4, p5, p6⟩ := hSw; go_simp; try (with_reducible rfl))
        intro inv1
        clear inv
        have inv := inv1
        clear inv1
        try simp only [Act.put, List.setIfInBounds_toArray, List.set_cons_zero, List.set_cons_succ]
        refine wpE_take (i := 1) (v := ?_) (by kernel_rfl) inv (by simp only [List.getElem?_toArray, List.getElem?_cons_succ, List.getElem?_cons_zero]; rfl) (by decide) (by kernel_rfl) (by kernel_rfl) (fun _ _ _ h => h) hS (Or.inl ⟨by rfl, ?_⟩) ?_
        rotate_left
        · (intro w' hSw; obtain ⟨⟨p0, p1, p2⟩, p3, p4, p5, p6⟩ := hSw; go_simp; try (with_reducible rfl))
        intro inv1
        clear inv
        have inv := inv1
        clear inv1
        try simp only [Act.put, List.setIfInBounds_toArray, List.set_cons_zero, List.set_cons_succ]
        refine wpE_take (i := 2) (v := ?_) (by kernel_rfl) inv (by simp only [List.getElem?_toArray, List.getElem?_cons_succ, List.getElem?_cons_zero]; rfl) (by decide) (by kernel_rfl) (by kernel_rfl) (fun _ _ _ h => h) hS (Or.inl ⟨by rfl, ?_⟩) ?_
        rotate_left
        · (intro w' hSw; obtain ⟨⟨p0, p1, p2⟩, p3, p4, p5, p6⟩ := hSw; go_simp; try (with_reducible rfl))
        intro inv1
        clear inv
        have inv := inv1
        clear inv1
        try simp only [Act.put, List.setIfInBounds_toArray, List.set_cons_zero, List.set_cons_succ]
        refine wpE_take (i := 3) (v := ?_) (by kernel_rfl) inv (by simp only [List.getElem?_toArray, List.getElem?_cons_succ, List.getElem?_cons_zero]; rfl) (by decide) (by kernel_rfl) (by kernel_rfl) (fun _ _ _ h => h) hS (Or.inl ⟨by rfl, ?_⟩) ?_
        rotate_left
        · (intro w' hSw; obtain ⟨⟨p0, p1, p2⟩, p3, p4, p5, p6⟩ := hSw; go_simp; try (with_reducible rfl))
        intro inv1
        clear inv
        have inv := inv1
        clear inv1
        try simp only [Act.put, List.setIfInBounds_toArray, List.set_cons_zero, List.set_cons_succ]
        refine wpE_take (i := 4) (v := ?_) (by kernel_rfl) inv (by simp only [List.getElem?_toArray, List.getElem?_cons_succ, List.getElem?_cons_zero]; rfl) (by decide) (by kernel_rfl) (by kernel_rfl) (fun _ _ _ h => h) hS (Or.inl ⟨by rfl, ?_⟩) ?_
        rotate_left
        · (intro w' hSw; obtain ⟨⟨p0, p1, p2⟩, p3, p4, p5, p6⟩ := hSw; go_simp; try (with_reducible rfl))
        intro inv1
        clear inv
        have inv := inv1
        clear inv1
        try simp only [Act.put, List.setIfInBounds_toArray, List.set_cons_zero, List.set_cons_succ]
        refine wpE_take (i := 5) (v := ?_) (by kernel_rfl) inv (by simp only [List.getElem?_toArray, List.getElem?_cons_succ, List.getElem?_cons_zero]; rfl) (by decide) (by kernel_rfl) (by kernel_rfl) (fun _ _ _ h => h) hS (Or.inl ⟨by rfl, ?_⟩) ?_
        rotate_left
        · (intro w' hSw; obtain ⟨⟨p0, p1, p2⟩, p3, p4, p5, p6⟩ := hSw; go_simp; try (with_reducible rfl))
        intro inv1
        clear inv
        have inv := inv1
        clear inv1
        try simp only [Act.put, List.setIfInBounds_toArray, List.set_cons_zero, List.set_cons_succ]
        refine wpE_take (i := 6) (v := ?_) (by kernel_rfl) inv (by simp only [List.getElem?_toArray, List.getElem?_cons_succ, List.getElem?_cons_zero]; rfl) (by decide) (by kernel_rfl) (by kernel_rfl) (fun _ _ _ h => h) hS (Or.inl ⟨by rfl, ?_⟩) ?_
        rotate_left
        · (intro w' hSw; obtain ⟨⟨p0, p1, p2⟩, p3, p4, p5, p6⟩ := hSw; go_simp; try (with_reducible rfl))
        intro inv1
        clear inv
        have inv := inv1
        clear inv1
        try simp only [Act.put, List.setIfInBounds_toArray, List.set_cons_zero, List.set_cons_succ]
        refine wpE_take (i := 7) (v := ?_) (by kernel_rfl) inv (by simp only [List.getElem?_toArray, List.getElem?_cons_succ, List.getElem?_cons_zero]; rfl) (by decide) (by kernel_rfl) (by kernel_rfl) (fun _ _ _ h => h) hS (Or.inl ⟨by rfl, ?_⟩) ?_
        rotate_left
        · (intro w' hSw; obtain ⟨⟨p0, p1, p2⟩, p3, p4, p5, p6⟩ := hSw; go_simp; try (with_reducible rfl))
        intro inv1
        clear inv
        have inv := inv1
        clear inv1
        try simp only [Act.put, List.setIfInBounds_toArray, List.set_cons_zero, List.set_cons_succ]
        refine wpE_take (i := 8) (v := ?_) (by kernel_rfl) inv (by simp only [List.getElem?_toArray, List.getElem?_cons_succ, List.getElem?_cons_zero]; rfl) (by decide) (by kernel_rfl) (by kernel_rfl) (fun _ _ _ h => h) hS (Or.inl ⟨by rfl, ?_⟩) ?_
        rotate_left
        · (intro w' hSw; obtain ⟨⟨p0, p1, p2⟩, p3, p4, p5, p6⟩ := hSw; go_simp; try (with_reducible rfl))
        intro inv1
        clear inv
        have inv := inv1
        clear inv1
        try simp only [Act.put, List.setIfInBounds_toArray, List.set_cons_zero, List.set_cons_succ]
        refine wpE_take (i := 9) (v := ?_) (by kernel_rfl) inv (by simp only [List.getElem?_toArray, List.getElem?_cons_succ, List.getElem?_cons_zero]; rfl) (by decide) (by kernel_rfl) (by kernel_rfl) (fun _ _ _ h => h) hS (Or.inl ⟨by rfl, ?_⟩) ?_
        rotate_left
        · (intro w' hSw; obtain ⟨⟨p0, p1, p2⟩, p3, p4, p5, p6⟩ := hSw; go_simp; try (with_reducible rfl))
        intro inv1
        clear inv
        have inv := inv1
        clear inv1
        try simp only [Act.put, List.setIfInBounds_toArray, List.set_cons_zero, List.set_cons_succ]
        refine wpE_take (i := 10) (v := ?_) (by kernel_rfl) inv (by simp only [List.getElem?_toArray, List.getElem?_cons_succ, List.getElem?_cons_zero]; rfl) (by decide) (by kernel_rfl) (by kernel_rfl) (fun _ _ _ h => h) hS (Or.inl ⟨by rfl, ?_⟩) ?_
        rotate_left
        · (intro w' hSw; obtain ⟨⟨p0, p1, p2⟩, p3, p4, p5, p6⟩ := hSw; go_simp; try (with_reducible rfl))
        intro inv1
        clear inv
        have inv := inv1
        clear inv1
        try simp only [Act.put, List.setIfInBounds_toArray, List.set_cons_zero, List.set_cons_succ]
        refine wpE_take (i := 11) (v := ?_) (by kernel_rfl) inv (by simp only [List.getElem?_toArray, List.getElem?_cons_succ, List.getElem?_cons_zero]; rfl) (by decide) (by kernel_rfl) (by kernel_rfl) (fun _ _ _ h => h) hS (Or.inl ⟨by rfl, ?_⟩) ?_
        rotate_left
        · (intro w' hSw; obtain ⟨⟨p0, p1, p2⟩, p3, p4, p5, p6⟩ := hSw; go_simp; try (with_reducible rfl))
        intro inv1
        clear inv
        have inv := inv1
        clear inv1
        try simp only [Act.put, List.setIfInBounds_toArray, List.set_cons_zero, List.set_cons_succ]
        refine wpE_take (i := 12) (v := ?_) (by kernel_rfl) inv (by simp only [List.getElem?_toArray, List.getElem?_cons_succ, List.getElem?_cons_zero]; rfl) (by decide) (by kernel_rfl) (by kernel_rfl) (fun _ _ _ h => h) hS (Or.inl ⟨by rfl, ?_⟩) ?_
        rotate_left
        · (intro w' hSw; obtain ⟨⟨p0, p1, p2⟩, p3, p4, p5, p6⟩ := hSw; go_simp; try (with_reducible rfl))
        intro inv1
        clear inv
        have inv := inv1
        clear inv1
        try simp only [Act.put, List.setIfInBounds_toArray, List.set_cons_zero, List.set_cons_succ]
        refine wpE_take (i := 13) (v := ?_) (by kernel_rfl) inv (by simp only [List.getElem?_toArray, List.getElem?_cons_succ, List.getElem?_cons_zero]; rfl) (by decide) (by kernel_rfl) (by kernel_rfl) (fun _ _ _ h => h) hS (Or.inl ⟨by rfl, ?_⟩) ?_
        rotate_left
        · (intro w' hSw; obtain ⟨⟨p0, p1, p2⟩, p3, p4, p5, p6⟩ := hSw; go_simp; try (with_reducible rfl))
        intro inv1
        clear inv
        have inv := inv1
        clear inv1
        try simp only [Act.put, List.setIfInBounds_toArray, List.set_cons_zero, List.set_cons_succ]
        refine wpE_take (i := 14) (v := ?_) (by kernel_rfl) inv (by simp only [List.getElem?_toArray, List.getElem?_cons_succ, List.getElem?_cons_zero]; rfl) (by decide) (by kernel_rfl) (by kernel_rfl) (fun _ _ _ h => h) hS (Or.inl ⟨by rfl, ?_⟩) ?_
        rotate_left
        · (intro w' hSw; obtain ⟨⟨p0, p1, p2⟩, p3, p4, p5, p6⟩ := hSw; go_simp; try (with_reducible rfl))
        intro inv1
        clear inv
        have inv := inv1
        clear inv1
        try simp only [Act.put, List.setIfInBounds_toArray, List.set_cons_zero, List.set_cons_succ]
        refine wpE_take (i := 15) (v := ?_) (by kernel_rfl) inv (by simp only [List.getElem?_toArray, List.getElem?_cons_succ, List.getElem?_cons_zero]; rfl) (by decide) (by kernel_rfl) (by kernel_rfl) (fun _ _ _ h => h) hS (Or.inl ⟨by rfl, ?_⟩) ?_
        rotate_left
        · (intro w' hSw; obtain ⟨⟨p0, p1, p2⟩, p3, p4, p5, p6⟩ := hSw; go_simp; try (with_reducible rfl))
        intro inv1
        clear inv
        have inv := inv1
        clear inv1
        try simp only [Act.put, List.setIfInBounds_toArray, List.set_cons_zero, List.set_cons_succ]
        refine wpE_take (i := 16) (v := ?_) (by kernel_rfl) inv (by simp only [List.getElem?_toArray, List.getElem?_cons_succ, List.getElem?_cons_zero]; rfl) (by decide) (by kernel_rfl) (by kernel_rfl) (fun _ _ _ h => h) hS (Or.inl ⟨by rfl, ?_⟩) ?_
        rotate_left
        · (intro w' hSw; obtain ⟨⟨p0, p1, p2⟩, p3, p4, p5, p6⟩ := hSw; go_simp; try (with_reducible rfl))
        intro inv1
        clear inv
        have inv := inv1
        clear inv1
        try simp only [Act.put, List.setIfInBounds_toArray, List.set_cons_zero, List.set_cons_succ]
        refine wpE_take (i := 17) (v := ?_) (by kernel_rfl) inv (by simp only [List.getElem?_toArray, List.getElem?_cons_succ, List.getElem?_cons_zero]; rfl) (by decide) (by kernel_rfl) (by kernel_rfl) (fun _ _ _ h => h) hS (Or.inl ⟨by rfl, ?_⟩) ?_
        rotate_left
        · (intro w' hSw; obtain ⟨⟨p0, p1, p2⟩, p3, p4, p5, p6⟩ := hSw; go_simp; try (with_reducible rfl))
        intro inv1
        clear inv
        have inv := inv1
        clear inv1
        try simp only [Act.put, List.setIfInBounds_toArray, List.set_cons_zero, List.set_cons_succ]
        refine wpE_take (i := 18) (v := ?_) (by kernel_rfl) inv (by simp only [List.getElem?_toArray, List.getElem?_cons_succ, List.getElem?_cons_zero]; rfl) (by decide) (by kernel_rfl) (by kernel_rfl) (fun _ _ _ h => h) hS (Or.inl ⟨by rfl, ?_⟩) ?_
        rotate_left
        · (intro w' hSw; obtain ⟨⟨p0, p1, p2⟩, p3, p4, p5, p6⟩ := hSw; go_simp; try (with_reducible rfl))
        intro inv1
        clear inv
        have inv := inv1
        clear inv1
        try simp only [Act.put, List.setIfInBounds_toArray, List.set_cons_zero, List.set_cons_succ]
        refine wpE_take (i := 19) (v := ?_) (by kernel_rfl) inv (by simp only [List.getElem?_toArray, List.getElem?_cons_succ, List.getElem?_cons_zero]; rfl) (by decide) (by kernel_rfl) (by kernel_rfl) (fun _ _ _ h => h) hS (Or.inl ⟨by rfl, ?_⟩) ?_
        rotate_left
        · (intro w' hSw; obtain ⟨⟨p0, p1, p2⟩, p3, p4, p5, p6⟩ := hSw; go_simp; try (with_reducible rfl))
        intro inv1
        clear inv
        have inv := inv1
        clear inv1
        try simp only [Act.put, List.setIfInBounds_toArray, List.set_cons_zero, List.set_cons_succ]
        refine wpE_one (i := 20) (by kernel_rfl) (by simp only [List.getElem?_toArray, List.getElem?_cons_succ, List.getElem?_cons_zero]; rfl) (fun K hK => ?_)
        go_simp
        go_at_call 14
        refine (copy_bytes S2 A' c' waits[k].data _ (hr.below b)).mono ?_
        rintro e w3 ⟨v3, rfl, hb3, hf3, o3⟩
        obtain ⟨B4, d4, rfl, hr4⟩ := o3.rd
        have x3 := x.keep hb3
        have x4 := x1.keep hb3
        have y3 := y1.keep hb3
        have b3 := b.trans (hb3.mono b.size)
        have hS3 : OfHeld w.heap.size (.slice A1 secs.length c1) (.slice (some ad) waits.length c2) (.int .i64 cap) (ad.add (k * 3)) (.int .i64 waits[k].what) (.int .i64 waits[k].at_) (.slice A' waits[k].data.length c') ⟨B3, 1, none⟩ (.slice D2 k d2) w3 := ⟨⟨x4.three.1.1, x4.three.1.2.1, x4.three.1.2.2⟩, (acts_keep b3 ⟨q0, q1, q2⟩).1, (acts_keep b3 ⟨q0, q1, q2⟩).2.1, (acts_keep b3 ⟨q0, q1, q2⟩).2.2, x3.three.1.2.1⟩
        refine hK.out _ _ (fun _ => hS3) (fun _ => ?_)
        clear hK K
        try simp only [Act.put, List.setIfInBounds_toArray, List.set_cons_zero, List.set_cons_succ]
        have hS := hS3
        clear inv
        refine wpE_one (i := 21) (by kernel_rfl) (by simp only [List.getElem?_toArray, List.getElem?_cons_succ, List.getElem?_cons_zero]; rfl) (fun K hK => ?_)
        go_simp
        refine hK.out _ _ (fun _ => hS3) (fun _ => ?_)
        clear hK K
        try simp only [Act.put, List.setIfInBounds_toArray, List.set_cons_zero, List.set_cons_succ]
        have hS := hS3
        refine wpE_one (i := 22) (by kernel_rfl) (by simp only [List.getElem?_toArray, List.getElem?_cons_succ, List.getElem?_cons_zero]; rfl) (fun K hK => ?_)
        go_simp
        have x5 := x3.alloc (.cells #[.int .i64 waits[k].what, .int .i64 waits[k].at_, .slice B4 waits[k].data.length d4] 49)
        have x6 := x4.alloc (.cells #[.int .i64 waits[k].what, .int .i64 waits[k].at_, .slice B4 waits[k].data.length d4] 49)
        have y5 := y3.alloc (.cells #[.int .i64 waits[k].what, .int .i64 waits[k].at_, .slice B4 waits[k].data.length d4] 49)
        have b5 := below_alloc b3 (.cells #[.int .i64 waits[k].what, .int .i64 waits[k].at_, .slice B4 waits[k].data.length d4] 49)
        have hS5 : OfHeld w.heap.size (.slice A1 secs.length c1) (.slice (some ad) waits.length c2) (.int .i64 cap) (ad.add (k * 3)) (.int .i64 waits[k].what) (.int .i64 waits[k].at_) (.slice A' waits[k].data.length c') ⟨B3, 1, none⟩ (.slice D2 k d2) _ := ⟨⟨x6.three.1.1, x6.three.1.2.1, x6.three.1.2.2⟩, (acts_keep b5 ⟨q0, q1, q2⟩).1, (acts_keep b5 ⟨q0, q1, q2⟩).2.1, (acts_keep b5 ⟨q0, q1, q2⟩).2.2, x5.three.1.2.1⟩
        refine hK.out _ _ (fun _ => hS5) (fun _ => ?_)
        clear hK K
        try simp only [Act.put, List.setIfInBounds_toArray, List.set_cons_zero, List.set_cons_succ]
        have hS := hS5
        refine wpE_one (i := 23) (by kernel_rfl) (by simp only [List.getElem?_toArray, List.getElem?_cons_succ, List.getElem?_cons_zero]; rfl) (fun K hK => ?_)
        have hcl : (waits.take k ++ [waits[k]]).length = k + 1 := by rw [List.length_append, HK.out]; rfl
        have o22 := (o2.below hb3).move (Kp.alloc w3 (.cells #[.int .i64 waits[k].what, .int .i64 waits[k].at_, .slice B4 waits[k].data.length d4] 49) _)
        have o11 := (o1.below hb3).move (Kp.alloc w3 (.cells #[.int .i64 waits[k].what, .int .i64 waits[k].at_, .slice B4 waits[k].data.length d4] 49) _)
        have zr := Rd.lit1 w3 49 (show Rep.has w3 _ waits[k] _ from act_mk i1 i2 hr4) (by show 1 * 40 ≤ _; decide)
        have h9 : wr.heap.size ≤ w3.heap.size := hb3.size
        have h8 := o2.lt
        have H8 := Lib.hid h8
        clear h8
        refine step_app (v := .slice D2 k d2) (xs := waits.take k) (ys := [waits[k]]) rfl (.tmp 19) (.tmp 40) _ _ rfl hu info49 rfl _ _ rfl rfl o22 zr (fun b t h e => by
          have h8 : b < wr.heap.size := H8.out b e
          rcases h with h | h
          · have h7 : wr.heap.size ≤ b := h.1.1
            omega
          · have := h.1
            omega) (by rw [HK.out]; exact h2.room.mono (by show k + 1 ≤ _; omega) (Nat.le_refl _)) ?_
        intro v2 w2 hg hat hn
        have rr := (hn (fun _ _ => True) (fun _ _ _ _ => trivial) (fun _ _ _ _ => trivial) trivial).rd
        rw [hcl] at rr
        obtain ⟨F2, e2, rfl, _⟩ := rr
        have hz3 := b3.size
        have hbz : w.heap.size ≤ wr.heap.size := b.size
        have on := hn (FrA w) (fun b t h _ => h) (fun b t h _ => by
          rcases h with h | h
          · exact ⟨by have h7 : wr.heap.size ≤ b := h.1.1; omega, .inr h.1.2⟩
          · exact ⟨by have := h.1; omega, .inl h.2⟩) ⟨by simp; omega, .inl rfl⟩
        rw [← HT.out] at on
        have x7 := x5.grown hg (fun e => o22.ne_box x5 (by decide) e.symm)
        have x8 := x6.grown hg (fun e => o22.ne_box x6 (by decide) e.symm)
        have b7 := below_app b5 hg (fun g e => (o22.at_S g e).1)
        have hS7 : OfHeld w.heap.size (.slice A1 secs.length c1) (.slice (some ad) waits.length c2) (.int .i64 cap) (ad.add (k * 3)) (.int .i64 waits[k].what) (.int .i64 waits[k].at_) (.slice A' waits[k].data.length c') ⟨B3, 1, none⟩ (.slice D2 k d2) w2 := ⟨⟨x8.three.1.1, x8.three.1.2.1, x8.three.1.2.2⟩, (acts_keep b7 ⟨q0, q1, q2⟩).1, (acts_keep b7 ⟨q0, q1, q2⟩).2.1, (acts_keep b7 ⟨q0, q1, q2⟩).2.2, x7.three.1.2.1⟩
        have HON := Lib.hid on
        clear on hn hat
        refine hK.out _ _ (fun _ => hS7) (fun _ => ?_)
        clear hK K
        try simp only [Act.put, List.setIfInBounds_toArray, List.set_cons_zero, List.set_cons_succ]
        have hS := hS7
        refine wpE_one (i := 24) (by kernel_rfl) (by simp only [List.getElem?_toArray, List.getElem?_cons_succ, List.getElem?_cons_zero]; rfl) (fun K hK => ?_)
        go_simp
        refine hK.out _ _ (fun _ => hS7) (fun _ => ?_)
        clear hK K
        try simp only [Act.put, List.setIfInBounds_toArray, List.set_cons_zero, List.set_cons_succ]
        have hS := hS7
        refine wpE_one (i := 25) (by kernel_rfl) (by simp only [List.getElem?_toArray, List.getElem?_cons_succ, List.getElem?_cons_zero]; rfl) (fun K hK => ?_)
        have k7 := x7.three
        go_simp
        refine hK.out _ _ (fun h => absurd rfl h) (fun _ => ?_)
        clear hK K
        try simp only [Act.put, List.setIfInBounds_toArray, List.set_cons_zero, List.set_cons_succ]
        refine wpE_done (by kernel_rfl) ?_ _
        refine NoPanic.normal ?_
        go_wp2
        go_roundw
        case rel => exact ⟨k + 1, by omega, by go_num, of_next hlt x5 x6 y5 h3 b5 o11 o22 hg HON.out⟩
        case measure => simp [intOf]; omega
      · obtain ⟨D1, d1, D2, d2, x, x1, y1, h3, b, o1, o2⟩ := hinv
        have k1 := x.three
        have k0 := x1.three
        have yc := y1.three
        have hkl : k = waits.length := by omega
        subst hkl
        rw [List.take_length] at o2
        go_wp2
        have yn := (((y1.set_ 0 (.slice D1 secs.length d1)).set_ 1 (.slice D2 waits.length d2)).set_ 2 (.int .i64 cap)).three
        refine bodyPost_ret (v := .agg #[.slice D1 secs.length d1, .slice D2 waits.length d2, .int .i64 cap]) (by simp [results, Try.results10, go_sem, yn]) rfl ?_
        exact ⟨D1, d1, D2, d2, rfl, ((b.setCell (Nat.le_succ _) _).setCell (Nat.le_succ _) _).setCell (Nat.le_succ _) _, o1.move (Kp.box3 y1 (frS_ne (w := w)) _ _ _), o2.move (Kp.box3 y1 (frA_ne (w := w)) _ _ _)⟩
end Go.Proofs.Ytfmmbkggamojkaa
