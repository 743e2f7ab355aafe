/- The page's layer 3: sectors behind an act. No condition but that they read, and that the act may be. -/
import Derived.Test.YtfmmbkggamojkaaKb
set_option linter.unusedVariables false
set_option linter.unusedSimpArgs false
namespace Go.Proofs.Ytfmmbkggamojkaa
open Go.RowKit

theorem Rd.take_ {α : Type} [Rep α] {w : World} {S : FP} {A : Option Addr} {c : Nat} {xs : List α} (h : Rd w S A c xs) (k : Nat) : Rd w S A c (xs.take k) :=
  ⟨by have := h.cap; rw [List.length_take]; omega, h.room.mono (by rw [List.length_take]; omega) (Nat.le_refl _), fun hne => by
    obtain ⟨ad, cur, t, e, hs, hb, hS, hc⟩ := h.cells (by intro e; rw [e] at hne; simp at hne)
    refine ⟨ad, cur, t, e, hs, hb, hS, fun j hj => ?_⟩
    rw [List.getElem_take]
    exact hc j (by rw [List.length_take] at hj; omega)⟩
abbrev Sof (S : FP) (w : World) : FP := fun b t => (S b t ∧ b < w.heap.size) ∨ FrS w b t
/-- Sectors, in a row of their own. -/
def RDone (l : List (List UInt8)) (S : FP) (w : World) (e : Ending) (w' : World) : Prop := ∃ A c, e = .returned (.slice A l.length c) ∧ Below w.heap.size w w' ∧ Ow w' 36 (Sof S w) (.slice A l.length c) l
theorem rdone_put {w W : World} {S : FP} {g c k d4 : Nat} {A4 : Option Addr} {l : List (List UInt8)} {data : List UInt8} (b : Below w.heap.size w W) (hg : w.heap.size ≤ g) (og : OwG W 36 g c (fun _ => Sof S w) l) (h3 : Rd W (FrS w) A4 d4 data) (h4 : Rd W (fun b t => t = tB) A4 d4 data) (hk : k < l.length) :
    RDone (l.set k data) S w (.returned (.slice (some ⟨g, 0, none⟩) l.length c)) (W.setCell ⟨g, k, none⟩ (.slice A4 data.length d4)) := by
  have hl : (l.set k data).length = l.length := by simp
  have p := og.put k hk 0 (by show 0 < 1; omega) (.slice A4 data.length d4) data (fun b t => FrS w b t) (fun cs hcs => by
    have hlen := Rep.len hcs
    obtain ⟨u, rfl⟩ := List.length_eq_one_iff.1 hlen
    refine ⟨A4, d4, rfl, ?_⟩
    refine ⟨h3.cap, h3.room, fun hne => ?_⟩
    obtain ⟨ad, cur, t, e, hs, hb, hS, hc⟩ := h3.cells hne
    obtain ⟨ad2, cur2, t2, e2, hs2, hb2, hS2, hc2⟩ := h4.cells hne
    rw [e] at e2
    cases e2
    rw [hb] at hb2
    injection hb2 with hb2
    injection hb2 with hb3 hb4 hb5
    have ht : t = t2 := by cases t; cases t2; simp_all
    refine ⟨ad, cur, t, e, hs, hb, ⟨hS, ?_⟩, fun j hj => hc j hj⟩
    intro hgg
    obtain ⟨cg, hgb, _⟩ := id og
    rw [hgg, hgb] at hb
    injection hb with hb
    injection hb with _ h5 h6
    rw [ht, hS2] at h5
    exact absurd h5 (by decide))
  have e0 : k * Rep.size (List UInt8) + 0 = k := by show k * 1 + 0 = k; omega
  rw [e0] at p
  have o := p.ow (S := Sof S w) (.inr ⟨hg, .inl rfl⟩) (fun j b t hj h => by
    by_cases e : j = k
    · simp only [e, if_true] at h; exact .inr h
    · simp only [e, if_false] at h; exact h)
  rw [hl] at o
  refine ⟨some ⟨g, 0, none⟩, c, by rw [hl], b.setCell hg _, ?_⟩
  rw [hl]
  exact o
set_option maxHeartbeats 1000000 in
theorem rdone_write (l : List (List UInt8)) (a : Act3) (S S3 : FP) (A A3 : Option Addr) (c c3 : Nat) (w : World) (h : Rd w S A c l) (h3 : Rd w S3 A3 c3 a.data) (hw : a.what = 1) (h0 : 0 ≤ a.at_) :
    Calls Try.prog 51 #[.slice A l.length c, .agg #[.int .i64 a.what, .int .i64 a.at_, .slice A3 a.data.length c3]] w (RDone (do3 l a) S w) := by
  obtain ⟨what, at_, data⟩ := a
  dsimp only at hw h0 h3 ⊢
  subst hw
  obtain ⟨k, rfl⟩ := Int.eq_ofNat_of_zero_le h0
  have e0 : do3 l ⟨1, k, data⟩ = l.set k data := by unfold do3; rw [if_neg (show ¬ ((1 : Int) = 2) by decide)]; rfl
  rw [e0]
  have l0 := h.len
  have hu := Try.underlying22
  have x0 := Bx.new w [.int .i64 1, .int .i64 k, .slice A3 data.length c3] 39
  have b0 : Below w.heap.size w (w.alloc (.cells #[.int .i64 1, .int .i64 k, .slice A3 data.length c3] 39)) := below_alloc (Below.refl _ _) _
  have hv := h.old.move (Kp.alloc w (.cells #[.int .i64 1, .int .i64 k, .slice A3 data.length c3] 39) _)
  by_cases hk : k < l.length
  · go_enter Try.func51, Try.ntmps51
    go_wp2_with (at_builtin; refine wl_app (v := .slice none 0 0) (xs := []) (S := fun _ _ => False) rfl (.tmp 9) (.tmp 10) _ _ rfl hu infoL rfl _ _ rfl rfl .nil_ hv (fun _ _ _ e => by cases e) (by simpa using h.room) ?_; intro v1 w1 hg hat hn; have on := hn (Sof S w) (fun _ _ h _ => h.elim) (fun b t h _ => .inl h) (.inr ⟨by simp, .inl rfl⟩); obtain ⟨F1, e1, rfl, _⟩ := on.rd; have x1 := x0.grown hg (fun e => by cases e); have k1 := x1.three; clear hn; simp only [List.nil_append] at on)
    have b1 := below_app b0 hg (fun g e => by cases e)
    have x1 := x1.drew
    have on := on.move (Kp.drewN w1 1 _)
    have b1 := b1.drew
    rcases on.form2 with ⟨rfl, rfl, rfl⟩ | ⟨g, rfl, hgS, og⟩
    · simp at hk
    have hgw : w.heap.size + 1 ≤ g := by
      rcases hat with h | h
      · cases h
      · simp [Value.ownBlock] at h; omega
    have hne : ¬ (g = w.heap.size) := by omega
    have hne2 : ¬ (w.heap.size = g) := by omega
    clear hat hg
    go_region_held3 (fun W => W.cell? ⟨w.heap.size, 0, none⟩ = some (.int .i64 1) ∧ W.cell? ⟨w.heap.size, 1, none⟩ = some (.int .i64 k) ∧ W.cell? ⟨w.heap.size, 2, none⟩ = some (.slice A3 data.length c3)) (go_keep)
      (first
       | (go_at_call 43; go_loud (refine (copied_any S3 A3 c3 data _ (h3.below b1)).mono ?_); rintro e w3 ⟨v3, rfl, hb3, hf3, o3⟩; obtain ⟨A4, d4, rfl, hr4⟩ := o3.rd; have x3 := x1.keep hb3; have k3 := x3.three; have og3 := og.below hb3; have b3 := below_then b1 hb3; obtain ⟨cs, hcs, hcell, hfz⟩ := og3.at_ k hk; obtain ⟨A5, c5, rfl, _⟩ := hcs; have q0 := hcell 0 _ rfl; have q1 := hfz k; have q2 : w3.cell? ⟨g, k, none⟩ = some (.slice A5 l[k].length c5) := (by have e9 : k * Rep.size (List UInt8) + 0 = k := (by show k * 1 + 0 = k; omega); rw [e9] at q0; exact q0); clear hcell hfz q0))
    all_goals (go_wp2; go_ret)
    all_goals
      refine rdone_put b3 (by omega) og3 (hr4.mono fun b t h => ⟨by have h9 := b1.size; have h8 : w1.heap.size ≤ b := h.1; have h7 : w.heap.size ≤ w1.heap.size := h9; omega, .inr h.2⟩) (hr4.mono fun b t h => h.2) hk
  · have e1 : l.set k data = l := List.set_eq_of_length_le (by omega)
    rw [e1]
    clear e1
    go_enter Try.func51, Try.ntmps51
    go_wp2_with (at_builtin; refine wl_app (v := .slice none 0 0) (xs := []) (S := fun _ _ => False) rfl (.tmp 9) (.tmp 10) _ _ rfl hu infoL rfl _ _ rfl rfl .nil_ hv (fun _ _ _ e => by cases e) (by simpa using h.room) ?_; intro v1 w1 hg hat hn; have on := hn (Sof S w) (fun _ _ h _ => h.elim) (fun b t h _ => .inl h) (.inr ⟨by simp, .inl rfl⟩); obtain ⟨F1, e1, rfl, _⟩ := on.rd; have x1 := x0.grown hg (fun e => by cases e); have k1 := x1.three; clear hn; simp only [List.nil_append] at on)
    go_ret
    exact ⟨_, _, rfl, below_app b0 hg (fun g e => by cases e), on⟩
/-- So many zeros behind. -/
def RFill (w : World) (S : FP) (l : List (List UInt8)) (n : Nat) (v : Value) (k : Nat) (data : List UInt8) (A3 : Option Addr) (c3 : Nat) (wr : World) : Prop := ∃ A c, v = .slice A n c ∧ Bx wr w.heap.size [.int .i64 2, .int .i64 k, .slice A3 data.length c3] 39 ∧ Ow wr 36 (Sof S w) (.slice A n c) l ∧ Below w.heap.size w wr ∧ ∀ g, (Value.slice A n c).ownBlock = some g → w.heap.size ≤ g
theorem rdone_end {w wr : World} {S : FP} {l : List (List UInt8)} {n c : Nat} {A : Option Addr} (hl : l.length = n) (b : Below w.heap.size w wr) (o : Ow wr 36 (Sof S w) (.slice A n c) l) : RDone l S w (.returned (.slice A n c)) wr := by
  subst hl
  exact ⟨A, c, rfl, b, o⟩
set_option maxRecDepth 8000 in
set_option maxHeartbeats 1000000 in
theorem rdone_length (l : List (List UInt8)) (k : Nat) (data : List UInt8) (S S3 : FP) (A A3 : Option Addr) (c c3 : Nat) (w : World) (h : Rd w S A c l) (hk : k ≤ 65536) (hl : l.length ≤ 65536) :
    Calls Try.prog 51 #[.slice A l.length c, .agg #[.int .i64 2, .int .i64 k, .slice A3 data.length c3]] w (RDone (l.take k ++ List.replicate (k - l.length) zero3) S w) := by
  have hc0 := h.cap
  have hu := Try.underlying22
  have x0 := Bx.new w [.int .i64 2, .int .i64 k, .slice A3 data.length c3] 39
  have b0 : Below w.heap.size w (w.alloc (.cells #[.int .i64 2, .int .i64 k, .slice A3 data.length c3] 39)) := below_alloc (Below.refl _ _) _
  have hv := h.old.move (Kp.alloc w (.cells #[.int .i64 2, .int .i64 k, .slice A3 data.length c3] 39) _)
  have hvt := hv.take_ k
  have hmk : ∀ W : World, (Instr.makeSlice 36 (.int .i64 64) (.int .i64 64)).run Try.prog W = .ok (.slice (some ⟨W.heap.size, 0, none⟩) 64 64) (W.alloc (.cells (madeCells #[.int .u8 0] 64) 5)) := fun W => run_make_row' (P := Try.prog) 36 5 (.int .u8 0) 1 Try.underlying36 info5 rfl .i64 .i64 64 (by decide) (by decide) W
  have hmin : (l.take k).length = min l.length k := by rw [List.length_take, Nat.min_comm]
  have HMIN := Lib.hid hmin
  clear hmin
  by_cases hkl : k < l.length
  · have hm : (l.take k).length = k := by rw [List.length_take]; omega
    have hkc : k ≤ c := by omega
    have e0 : l.take k ++ List.replicate (k - l.length) zero3 = l.take k := by rw [show k - l.length = 0 by omega, List.replicate_zero, List.append_nil]
    rw [e0]
    have HM := Lib.hid hm
    clear hm e0
    obtain ⟨ad, _, _, rfl, _⟩ := h.cells (by intro e; rw [e] at hkl; simp at hkl)
    go_enter Try.func51, Try.ntmps51
    go_wp2_with (at_builtin; go_loud (refine wl_app (v := .slice none 0 0) (xs := []) (ys := l.take k) (S := fun _ _ => False) rfl (.tmp 25) (.tmp 32) _ _ rfl hu infoL rfl (some ad) c rfl (by rw [HM.out]; rfl) .nil_ hvt (fun _ _ _ e => by cases e) (by simpa using hvt.room) ?_); intro v1 w1 hg hat hn; have on := hn (Sof S w) (fun _ _ h _ => h.elim) (fun b t h _ => .inl h) (.inr ⟨by simp, .inl rfl⟩); have hfr : ∀ g, v1.ownBlock = some g → w.heap.size ≤ g := (fun g hg' => by rcases hat with h | h; exact absurd (h.symm.trans hg') (by simp [Value.ownBlock]); have h2 := h.symm.trans hg'; simp at h2; omega); obtain ⟨F1, e1, rfl, _⟩ := on.rd; have x1 := x0.grown hg (fun e => by cases e); clear hn; simp only [List.nil_append] at on hfr)
    have b1 := below_app b0 hg (fun g e => by cases e)
    rw [HM.out] at on hfr
    have st : Hid (RFill w S (l.take k) k (.slice F1 k e1) k data A3 c3 w1) := ⟨F1, e1, rfl, x1, on, b1, hfr⟩
    go_loopw [5] (fun v wr => Hid (RFill w S (l.take k) k v k data A3 c3 wr)) (fun _ _ => 0)
    case atStart => first | exact st | (rw [← List.length_take, HM.out]; exact st)
    case round =>
      clear st x1 on b1 hg hat hfr
      obtain ⟨F1, e1, rfl, x1, on, b1, hfr⟩ := hrel.out
      have k1 := x1.three
      go_wp2
      go_ret
      exact rdone_end HM.out b1 on
  · have hm : (l.take k) = l := List.take_of_length_le (by omega)
    rw [hm] at hvt ⊢
    clear hm HMIN
    cases A with
    | none =>
      have hl0 : l = [] := by
        cases l with
        | nil => rfl
        | cons a l => obtain ⟨_, _, _, e, _⟩ := h.cells (by simp); cases e
      go_enter Try.func51, Try.ntmps51
      subst hl0
      go_wp2_with (at_builtin; first
        | (refine wl_app (v := .slice none 0 0) (xs := []) (ys := []) (S := fun _ _ => False) rfl (.tmp 25) (.tmp 32) _ _ rfl hu infoL rfl none 0 rfl (by rfl) .nil_ (Rd.nil _ (fun _ _ => False) _ _) (fun _ _ h _ => h.elim) (by simpa using hvt.room) ?_; intro v1 w1 hg hat hn; have on := hn (Sof S w) (fun _ _ h _ => h.elim) (fun _ _ h _ => h.elim) (.inr ⟨by simp, .inl rfl⟩); have hfr : ∀ g, v1.ownBlock = some g → w.heap.size ≤ g := (fun g hg' => by rcases hat with h | h; exact absurd (h.symm.trans hg') (by simp [Value.ownBlock]); have h2 := h.symm.trans hg'; simp at h2; omega); obtain ⟨F1, e1, rfl, _⟩ := on.rd; have x1 := x0.grown hg (fun e => by cases e); clear hn; simp only [List.nil_append] at on hfr)
        | (refine wl_app (v := .slice none 0 0) (xs := []) (ys := []) (S := fun _ _ => False) rfl (.tmp 25) (.tmp 32) _ _ rfl hu infoL rfl none c rfl (by rfl) .nil_ (Rd.nil _ (fun _ _ => False) _ _) (fun _ _ h _ => h.elim) (by simpa using hvt.room) ?_; intro v1 w1 hg hat hn; have on := hn (Sof S w) (fun _ _ h _ => h.elim) (fun _ _ h _ => h.elim) (.inr ⟨by simp, .inl rfl⟩); have hfr : ∀ g, v1.ownBlock = some g → w.heap.size ≤ g := (fun g hg' => by rcases hat with h | h; exact absurd (h.symm.trans hg') (by simp [Value.ownBlock]); have h2 := h.symm.trans hg'; simp at h2; omega); obtain ⟨F1, e1, rfl, _⟩ := on.rd; have x1 := x0.grown hg (fun e => by cases e); clear hn; simp only [List.nil_append] at on hfr))
      have b1 := below_app b0 hg (fun g e => by cases e)
      have st : Hid (RFill w S [] 0 _ k data A3 c3 w1) := ⟨F1, e1, rfl, x1, on, b1, hfr⟩
      go_loopw [5] (fun v wr => ∃ j : Nat, j ≤ k - 0 ∧ Hid (RFill w S (([] : List (List UInt8)) ++ List.replicate j zero3) (j) v k data A3 c3 wr)) (fun v _ => k - (match v with | .slice _ n _ => n | _ => 0))
      case atStart => exact ⟨0, Nat.zero_le _, by simpa using st⟩
      case round =>
        clear st x1 on b1 hg hat hfr
        obtain ⟨j, hj, hrel⟩ := hrel
        obtain ⟨F1, e1, rfl, x1, on, b1, hfr⟩ := hrel.out
        clear hrel
        have k1 := x1.three
        have hln : (([] : List (List UInt8)) ++ List.replicate j zero3).length = j := by simp
        have HLN := Lib.hid hln
        clear hln
        by_cases hjk : j < k
        · have hbX : Below wr.heap.size wr ((wr.alloc (.cells (madeCells #[.int .u8 0] 64) 5)).alloc (.cells #[.slice (some ⟨wr.heap.size, 0, none⟩) 64 64] 36)) := below_alloc (below_alloc (Below.refl _ _) _) _
          have oX := on.below hbX
          have xX := x1.keep hbX
          have zr := zero_row wr
          have hb9 : w.heap.size ≤ wr.heap.size := b1.size
          have OLT := Lib.hid on.lt
          go_wp2_with (at_builtin; go_loud (refine wl_app (v := .slice F1 (j) e1) (xs := ([] : List (List UInt8)) ++ List.replicate j zero3) (ys := [zero3]) rfl (.tmp 39) (.tmp 41) _ _ rfl hu infoL rfl _ 1 rfl (by rfl) oX zr (fun b t h e => by have := OLT.out b e; omega) (by rw [HLN.out]; show (_ + 1) * 24 ≤ _; omega) ?_); intro v2 w2 hg hat hn; have on2 := hn (Sof S w) (fun _ _ h _ => h) (fun b t h _ => .inr ⟨by have := h.1; omega, h.2⟩) (.inr ⟨by simp; omega, .inl rfl⟩); obtain ⟨F2, e2, hv2, _⟩ := on2.rd; have hl2 : ((([] : List (List UInt8)) ++ List.replicate j zero3) ++ [zero3]).length = j + 1 := (by rw [List.length_append, HLN.out]; rfl); rw [hl2] at hv2; subst hv2; rw [List.append_assoc, ← List.replicate_succ'] at on2; have fx : Hid (RFill w S (([] : List (List UInt8)) ++ List.replicate (j + 1) zero3) (j + 1) (.slice F2 (j + 1) e2) k data A3 c3 w2) := ⟨F2, e2, rfl, xX.grown hg (fun e => oX.ne_box xX (by decide) e.symm), on2, below_app (below_then b1 hbX) hg hfr, fun g hg' => (by rcases hat with h | h; exact hfr g (h.symm.trans hg'); have h2 := h.symm.trans hg'; simp at h2; omega)⟩; clear hn hl2 on2 hg hat)
          go_roundw
          case rel => exact ⟨j + 1, by omega, fx⟩
          case measure => first | omega | (simp; omega)
        · go_wp2
          go_ret
          have e9 : ([] : List (List UInt8)) ++ List.replicate (k - List.length ([] : List (List UInt8))) zero3 = ([] : List (List UInt8)) ++ List.replicate j zero3 := by rw [show k - List.length ([] : List (List UInt8)) = j by first | omega | (simp; omega)]
          rw [e9]
          exact rdone_end HLN.out b1 on
    | some ad =>
      go_enter Try.func51, Try.ntmps51
      go_wp2_with (at_builtin; go_loud (refine wl_app (v := .slice none 0 0) (xs := []) (ys := l) (S := fun _ _ => False) rfl (.tmp 25) (.tmp 32) _ _ rfl hu infoL rfl (some ad) c rfl (by rfl) .nil_ hvt (fun _ _ _ e => by cases e) (by simpa using hvt.room) ?_); intro v1 w1 hg hat hn; have on := hn (Sof S w) (fun _ _ h _ => h.elim) (fun b t h _ => .inl h) (.inr ⟨by simp, .inl rfl⟩); have hfr : ∀ g, v1.ownBlock = some g → w.heap.size ≤ g := (fun g hg' => by rcases hat with h | h; exact absurd (h.symm.trans hg') (by simp [Value.ownBlock]); have h2 := h.symm.trans hg'; simp at h2; omega); obtain ⟨F1, e1, rfl, _⟩ := on.rd; have x1 := x0.grown hg (fun e => by cases e); clear hn; simp only [List.nil_append] at on hfr)
      have b1 := below_app b0 hg (fun g e => by cases e)
      have st : Hid (RFill w S l l.length _ k data A3 c3 w1) := ⟨F1, e1, rfl, x1, on, b1, hfr⟩
      go_loopw [5] (fun v wr => ∃ j : Nat, j ≤ k - l.length ∧ Hid (RFill w S (l ++ List.replicate j zero3) (l.length + j) v k data A3 c3 wr)) (fun v _ => k - (match v with | .slice _ n _ => n | _ => 0))
      case atStart => exact ⟨0, Nat.zero_le _, by simpa using st⟩
      case round =>
        clear st x1 on b1 hg hat hfr
        obtain ⟨j, hj, hrel⟩ := hrel
        obtain ⟨F1, e1, rfl, x1, on, b1, hfr⟩ := hrel.out
        clear hrel
        have k1 := x1.three
        have hln : (l ++ List.replicate j zero3).length = l.length + j := by simp
        have HLN := Lib.hid hln
        clear hln
        by_cases hjk : l.length + j < k
        · have hbX : Below wr.heap.size wr ((wr.alloc (.cells (madeCells #[.int .u8 0] 64) 5)).alloc (.cells #[.slice (some ⟨wr.heap.size, 0, none⟩) 64 64] 36)) := below_alloc (below_alloc (Below.refl _ _) _) _
          have oX := on.below hbX
          have xX := x1.keep hbX
          have zr := zero_row wr
          have hb9 : w.heap.size ≤ wr.heap.size := b1.size
          have OLT := Lib.hid on.lt
          go_wp2_with (at_builtin; go_loud (refine wl_app (v := .slice F1 (l.length + j) e1) (xs := l ++ List.replicate j zero3) (ys := [zero3]) rfl (.tmp 39) (.tmp 41) _ _ rfl hu infoL rfl _ 1 rfl (by rfl) oX zr (fun b t h e => by have := OLT.out b e; omega) (by rw [HLN.out]; show (_ + 1) * 24 ≤ _; omega) ?_); intro v2 w2 hg hat hn; have on2 := hn (Sof S w) (fun _ _ h _ => h) (fun b t h _ => .inr ⟨by have := h.1; omega, h.2⟩) (.inr ⟨by simp; omega, .inl rfl⟩); obtain ⟨F2, e2, hv2, _⟩ := on2.rd; have hl2 : ((l ++ List.replicate j zero3) ++ [zero3]).length = l.length + j + 1 := (by rw [List.length_append, HLN.out]; rfl); rw [hl2] at hv2; subst hv2; rw [List.append_assoc, ← List.replicate_succ'] at on2; have fx : Hid (RFill w S (l ++ List.replicate (j + 1) zero3) (l.length + (j + 1)) (.slice F2 (l.length + j + 1) e2) k data A3 c3 w2) := ⟨F2, e2, rfl, xX.grown hg (fun e => oX.ne_box xX (by decide) e.symm), on2, below_app (below_then b1 hbX) hg hfr, fun g hg' => (by rcases hat with h | h; exact hfr g (h.symm.trans hg'); have h2 := h.symm.trans hg'; simp at h2; omega)⟩; clear hn hl2 on2 hg hat)
          go_roundw
          case rel => exact ⟨j + 1, by omega, fx⟩
          case measure => first | omega | (simp; omega)
        · go_wp2
          go_ret
          have e9 : l ++ List.replicate (k - List.length l) zero3 = l ++ List.replicate j zero3 := by rw [show k - List.length l = j by first | omega | (simp; omega)]
          rw [e9]
          exact rdone_end HLN.out b1 on
end Go.Proofs.Ytfmmbkggamojkaa
