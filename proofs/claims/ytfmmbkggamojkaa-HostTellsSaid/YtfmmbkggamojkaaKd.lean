/- The page's layer 3: a state behind those acts that are kept. No condition but that the state reads, and that it may be. -/
import Derived.Test.YtfmmbkggamojkaaKc
set_option linter.unusedVariables false
set_option linter.unusedSimpArgs false
namespace Go.Proofs.Ytfmmbkggamojkaa
open Go.RowKit


theorem rdone_any (l : List (List UInt8)) (a : Act3) (cap : Int) (S S3 : FP) (A A3 : Option Addr) (c c3 : Nat) (w : World) (h : Rd w S A c l) (h3 : Rd w S3 A3 c3 a.data) (hl : (l.length : Int) ≤ cap) (hc : cap ≤ 65536) (ha : may3 cap a = true) :
    Calls Try.prog 51 #[.slice A l.length c, .agg #[.int .i64 a.what, .int .i64 a.at_, .slice A3 a.data.length c3]] w (RDone (do3 l a) S w) := by
  rcases (may3_iff cap a).1 ha with ⟨h1, h2, h4, h5⟩ | ⟨h1, h2, h4, h5⟩
  · exact rdone_write l a S S3 A A3 c c3 w h h3 h1 h2
  · obtain ⟨what, at_, data⟩ := a
    dsimp only at h1 h2 h4
    subst h1
    obtain ⟨k, rfl⟩ := Int.eq_ofNat_of_zero_le h2
    have := rdone_length l k data S S3 A A3 c c3 w h (by omega) (by omega)
    have e : do3 l ⟨2, k, data⟩ = l.take k ++ List.replicate (k - l.length) zero3 := by unfold do3; rw [if_pos rfl]; rfl
    rw [e]
    exact this
/-- What the loads of a round read. -/
def SetHeld (B3 : Nat) (v0 v1 v2 : Value) (ad : Addr) (u0 u1 u2 : Value) (W : World) : Prop :=
  (W.cell? ⟨B3, 0, none⟩ = some v0 ∧ W.cell? ⟨B3, 1, none⟩ = some v1 ∧ W.cell? ⟨B3, 2, none⟩ = some v2) ∧ W.cell? ad = some u0 ∧ W.cell? ⟨ad.block, ad.off + 1, none⟩ = some u1 ∧ W.cell? ⟨ad.block, ad.off + 2, none⟩ = some u2
/-- What stands behind k acts. -/
def SInv (w : World) (s : St3) (kp : List Bool) (A1 A2 D2 : Option Addr) (c1 c2 d2 B3 k : Nat) (wr : World) : Prop := ∃ D1 d1 n, n = (run3 s.secs (s.waits.take k) kp).length ∧ Bx wr B3 [.slice D1 n d1, .slice D2 s.waits.length d2, .int .i64 s.cap] 25 ∧
  Bx wr (w.heap.size + 1) [.slice none 0 0, .slice none 0 0, .int .i64 0] 25 ∧ w.heap.size + 1 < B3 ∧ Below w.heap.size w wr ∧
  Ow wr 36 (FrS w) (.slice D1 n d1) (run3 s.secs (s.waits.take k) kp) ∧ Ow wr 39 (FrR w) (.slice D2 s.waits.length d2) s.waits
theorem SInv.below {w : World} {s : St3} {kp : List Bool} {A1 A2 D2 : Option Addr} {c1 c2 d2 B3 k : Nat} {wr w' : World} (h : SInv w s kp A1 A2 D2 c1 c2 d2 B3 k wr) (b : Below wr.heap.size wr w') : SInv w s kp A1 A2 D2 c1 c2 d2 B3 k w' := by
  obtain ⟨D1, d1, n, hn, x, y, h3, b0, o1, o2⟩ := h
  exact ⟨D1, d1, n, hn, x.keep b, y.keep b, h3, below_then b0 b, o1.below b, o2.below b⟩
theorem SInv.next {w w' : World} {s : St3} {kp : List Bool} {A1 A2 D2 : Option Addr} {c1 c2 d2 B3 k : Nat} {wr : World} (h : SInv w s kp A1 A2 D2 c1 c2 d2 B3 k wr) (hk : k < s.waits.length) (hp : kp.getD k false = false) : SInv w s kp A1 A2 D2 c1 c2 d2 B3 (k + 1) wr := by
  obtain ⟨D1, d1, n, hn, x, y, h3, b0, o1, o2⟩ := h
  have e : run3 s.secs (s.waits.take (k + 1)) kp = run3 s.secs (s.waits.take k) kp := by rw [run3_next s.secs s.waits kp k hk, hp]; rfl
  exact ⟨D1, d1, n, by rw [e]; exact hn, x, y, h3, b0, by rw [e]; exact o1, o2⟩
theorem SInv.did {w w' : World} {s : St3} {kp : List Bool} {A1 A2 D1 D2 A5 : Option Addr} {c1 c2 d1 d2 n c5 B3 k : Nat} {wr : World} (hk : k < s.waits.length) (hp : kp.getD k false = true) (x : Bx wr B3 [.slice D1 n d1, .slice D2 s.waits.length d2, .int .i64 s.cap] 25)
    (y : Bx wr (w.heap.size + 1) [.slice none 0 0, .slice none 0 0, .int .i64 0] 25) (h3 : w.heap.size + 1 < B3) (b0 : Below w.heap.size w wr) (o2 : Ow wr 39 (FrR w) (.slice D2 s.waits.length d2) s.waits)
    (b : Below wr.heap.size wr w') (o : Ow w' 36 (Sof (FrS w) wr) (.slice A5 (do3 (run3 s.secs (s.waits.take k) kp) s.waits[k]).length c5) (do3 (run3 s.secs (s.waits.take k) kp) s.waits[k])) :
    SInv w s kp A1 A2 D2 c1 c2 d2 B3 (k + 1) (w'.setCell ⟨B3, 0, none⟩ (.slice A5 (do3 (run3 s.secs (s.waits.take k) kp) s.waits[k]).length c5)) := by
  have e : run3 s.secs (s.waits.take (k + 1)) kp = do3 (run3 s.secs (s.waits.take k) kp) s.waits[k] := by rw [run3_next s.secs s.waits kp k hk, hp]; rfl
  have hz : w.heap.size ≤ wr.heap.size := b0.size
  have x' := x.keep b
  refine ⟨A5, c5, _, by rw [e], x'.set_ 0 _, (y.keep b).far (by simp; omega) _, h3, (below_then b0 b).setCell (by simp; omega) _, ?_, ?_⟩
  · rw [e]
    exact (o.mono fun b t h => by
      rcases h with h | h
      · exact h.1
      · exact ⟨by have := h.1; omega, h.2⟩).move (Kp.box x' (rrS_ne (w := w)) 0 _)
  · exact (o2.below b).move (Kp.box x' (rrR_ne (w := w)) 0 _)
set_option maxHeartbeats 2000000 in
theorem rsettled_all (s : St3) (hs : ok3 s = true) (S1 S2 : FP) (A1 A2 : Option Addr) (c1 c2 : Nat) (w : World) (h1 : Rd w S1 A1 c1 s.secs) (h2 : Rd w S2 A2 c2 s.waits) :
    Calls Try.prog 44 #[.agg #[.slice A1 s.secs.length c1, .slice A2 s.waits.length c2, .int .i64 s.cap], .slice none 0 0, .bool true] w (Own3 (crash3 s (List.replicate s.waits.length true)) w) := by
  obtain ⟨kp, hkp⟩ : ∃ kp, kp = List.replicate s.waits.length true := ⟨_, rfl⟩
  have HKP := Lib.hid hkp
  rw [← hkp]
  clear hkp
  have hok := (ok3_iff s).1 hs
  have HOK := Lib.hid hok
  have hcap : s.cap ≤ 65536 := hok.2.1
  clear hok hs
  have l1 := h1.len
  have l2 := h2.len
  have b0 : Below w.heap.size w ((w.alloc (.cells #[.slice A1 s.secs.length c1, .slice A2 s.waits.length c2, .int .i64 s.cap] 25)).alloc (.cells #[.slice none 0 0, .slice none 0 0, .int .i64 0] 25)) := below_alloc (below_alloc (Below.refl _ _) _) _
  have x0 := (Bx.new w [.slice A1 s.secs.length c1, .slice A2 s.waits.length c2, .int .i64 s.cap] 25).alloc (.cells #[.slice none 0 0, .slice none 0 0, .int .i64 0] 25)
  have y0 := Bx.new (w.alloc (.cells #[.slice A1 s.secs.length c1, .slice A2 s.waits.length c2, .int .i64 s.cap] 25)) [.slice none 0 0, .slice none 0 0, .int .i64 0] 25
  simp only [World.size_alloc] at y0
  go_enter Try.func44, Try.ntmps44
  go_wp2_with (go_at_call 42; go_loud (refine (rown_any s S1 S2 A1 A2 c1 c2 _ (h1.below b0) (h2.below b0)).mono ?_); rintro e w1 ⟨D1, d1, D2, d2, rfl, b1, o1, o2⟩)
  have hz1 : w.heap.size + 2 ≤ w1.heap.size := by have := b1.size; simpa using this
  have HI : Hid (SInv w s kp A1 A2 D2 c1 c2 d2 w1.heap.size 0 (w1.alloc (.cells #[.slice D1 s.secs.length d1, .slice D2 s.waits.length d2, .int .i64 s.cap] 25))) :=
    ⟨D1, d1, s.secs.length, rfl, Bx.new w1 _ _, (y0.keep b1).alloc _, by omega, below_alloc (below_then b0 b1) _, (o1.mono fun b t h => ⟨by have := h.1; simp at this; omega, h.2⟩).move (Kp.alloc _ _ _), (o2.mono fun b t h => ⟨by have := h.1; simp at this; omega, h.2⟩).move (Kp.alloc _ _ _)⟩
  obtain ⟨B3, hB3⟩ : ∃ B3, B3 = w1.heap.size := ⟨_, rfl⟩
  clear x0 y0 b0 b1 o1 o2 hz1
  go_loopw [8] (fun i wr => ∃ k : Nat, k ≤ s.waits.length ∧ i = .int .i64 k ∧ Hid (SInv w s kp A1 A2 D2 c1 c2 d2 w1.heap.size k wr)) (fun i _ => s.waits.length - (intOf i).toNat)
  case atStart => exact ⟨0, Nat.zero_le _, rfl, HI⟩
  case round =>
    clear HI
    obtain ⟨k, hk, rfl, hinv⟩ := hrel
    obtain ⟨D1, d1, n, hn, x, y, h3, b, o1, o2⟩ := id hinv.out
    have HN := Lib.hid hn
    clear hn
    have kx := x.three
    by_cases hlt : k < s.waits.length
    · have hp : kp.getD k false = true := by rw [HKP.out, List.getD_eq_getElem?_getD, List.getElem?_replicate, if_pos hlt]; rfl
      have HP := Lib.hid hp
      clear hp
      obtain ⟨ad2, A', c', hD2, hr, i1, i2, q0, q1, q2⟩ := acts_at o2.rdS k hlt
      subst hD2
      have hq : wr.cell? (ad2.add (k * 3)) = some (.int .i64 s.waits[k].what) ∧ wr.cell? ⟨(ad2.add (k * 3)).block, (ad2.add (k * 3)).off + 1, none⟩ = some (.int .i64 s.waits[k].at_) ∧ wr.cell? ⟨(ad2.add (k * 3)).block, (ad2.add (k * 3)).off + 2, none⟩ = some (.slice A' s.waits[k].data.length c') := ⟨q0, q1, q2⟩
      clear q0 q1 q2
      go_wp2
      have b := b.drew
      have x := x.drew
      have y := y.drew
      have o1 := o1.move (Kp.drewN _ 1 _)
      have o2 := o2.move (Kp.drewN _ 1 _)
      have hr := hr.move (Kp.drewN _ 1 _)
      have hq : wr.drew.cell? (ad2.add (k * 3)) = some (.int .i64 s.waits[k].what) ∧ wr.drew.cell? ⟨(ad2.add (k * 3)).block, (ad2.add (k * 3)).off + 1, none⟩ = some (.int .i64 s.waits[k].at_) ∧ wr.drew.cell? ⟨(ad2.add (k * 3)).block, (ad2.add (k * 3)).off + 2, none⟩ = some (.slice A' s.waits[k].data.length c') := hq
      have hS : SetHeld w1.heap.size (.slice D1 n d1) (.slice (some ad2) s.waits.length d2) (.int .i64 s.cap) (ad2.add (k * 3)) (.int .i64 s.waits[k].what) (.int .i64 s.waits[k].at_) (.slice A' s.waits[k].data.length c') wr.drew := ⟨⟨kx.1.1, kx.1.2.1, kx.1.2.2⟩, hq.1, hq.2.1, hq.2.2⟩
      have o1' := o1
      rw [HN.out] at o1'
      have hd := rdone_any (run3 s.secs (s.waits.take k) kp) s.waits[k] s.cap (FrS w) (FrR w) D1 A' d1 c' wr.drew o1'.rdS hr (run3_len (keep := kp) HOK.out.2.2.1 s.waits HOK.out.2.2.2.2.2 k hk) hcap (HOK.out.2.2.2.2.2 _ (List.getElem_mem hlt))
      rw [← HN.out] at hd
      have HD := Lib.hid hd
      clear hd o1'
      refine wp_region_noPanic ?_
      refine wp_region_E 9 (SetHeld w1.heap.size (.slice D1 n d1) (.slice (some ad2) s.waits.length d2) (.int .i64 s.cap) (ad2.add (k * 3)) (.int .i64 s.waits[k].what) (.int .i64 s.waits[k].at_) (.slice A' s.waits[k].data.length c')) (by kernel_rfl) (fun inv => ?_)
      refine wpE_take (i := 0) (v := ?_) (by kernel_rfl) inv (by simp only [List.getElem?_toArray, List.getElem?_cons_succ, List.getElem?_cons_zero]; rfl) (by decide) (by kernel_rfl) (by kernel_rfl) (fun _ _ _ h => h) hS (Or.inl ⟨by rfl, ?_⟩) ?_
      rotate_left
      · (intro w' hSw; obtain ⟨⟨p0, p1, p2⟩, p3, p4, p5⟩ := hSw; go_simp; try (with_reducible rfl))
      intro inv1
      clear inv
      have inv := inv1
      clear inv1
      try simp only [Act.put, List.setIfInBounds_toArray, List.set_cons_zero, List.set_cons_succ]
      refine wpE_take (i := 1) (v := ?_) (by kernel_rfl) inv (by simp only [List.getElem?_toArray, List.getElem?_cons_succ, List.getElem?_cons_zero]; rfl) (by decide) (by kernel_rfl) (by kernel_rfl) (fun _ _ _ h => h) hS (Or.inl ⟨by rfl, ?_⟩) ?_
      rotate_left
      · (intro w' hSw; obtain ⟨⟨p0, p1, p2⟩, p3, p4, p5⟩ := hSw; go_simp; try (with_reducible rfl))
      intro inv1
      clear inv
      have inv := inv1
      clear inv1
      try simp only [Act.put, List.setIfInBounds_toArray, List.set_cons_zero, List.set_cons_succ]
      refine wpE_take (i := 2) (v := ?_) (by kernel_rfl) inv (by simp only [List.getElem?_toArray, List.getElem?_cons_succ, List.getElem?_cons_zero]; rfl) (by decide) (by kernel_rfl) (by kernel_rfl) (fun _ _ _ h => h) hS (Or.inl ⟨by rfl, ?_⟩) ?_
      rotate_left
      · (intro w' hSw; obtain ⟨⟨p0, p1, p2⟩, p3, p4, p5⟩ := hSw; go_simp; try (with_reducible rfl))
      intro inv1
      clear inv
      have inv := inv1
      clear inv1
      try simp only [Act.put, List.setIfInBounds_toArray, List.set_cons_zero, List.set_cons_succ]
      refine wpE_take (i := 3) (v := ?_) (by kernel_rfl) inv (by simp only [List.getElem?_toArray, List.getElem?_cons_succ, List.getElem?_cons_zero]; rfl) (by decide) (by kernel_rfl) (by kernel_rfl) (fun _ _ _ h => h) hS (Or.inl ⟨by rfl, ?_⟩) ?_
      rotate_left
      · (intro w' hSw; obtain ⟨⟨p0, p1, p2⟩, p3, p4, p5⟩ := hSw; go_simp; try (with_reducible rfl))
      intro inv1
      clear inv
      have inv := inv1
      clear inv1
      try simp only [Act.put, List.setIfInBounds_toArray, List.set_cons_zero, List.set_cons_succ]
      refine wpE_take (i := 4) (v := ?_) (by kernel_rfl) inv (by simp only [List.getElem?_toArray, List.getElem?_cons_succ, List.getElem?_cons_zero]; rfl) (by decide) (by kernel_rfl) (by kernel_rfl) (fun _ _ _ h => h) hS (Or.inl ⟨by rfl, ?_⟩) ?_
      rotate_left
      · (intro w' hSw; obtain ⟨⟨p0, p1, p2⟩, p3, p4, p5⟩ := hSw; go_simp; try (with_reducible rfl))
      intro inv1
      clear inv
      have inv := inv1
      clear inv1
      try simp only [Act.put, List.setIfInBounds_toArray, List.set_cons_zero, List.set_cons_succ]
      refine wpE_take (i := 5) (v := ?_) (by kernel_rfl) inv (by simp only [List.getElem?_toArray, List.getElem?_cons_succ, List.getElem?_cons_zero]; rfl) (by decide) (by kernel_rfl) (by kernel_rfl) (fun _ _ _ h => h) hS (Or.inl ⟨by rfl, ?_⟩) ?_
      rotate_left
      · (intro w' hSw; obtain ⟨⟨p0, p1, p2⟩, p3, p4, p5⟩ := hSw; go_simp; try (with_reducible rfl))
      intro inv1
      clear inv
      have inv := inv1
      clear inv1
      try simp only [Act.put, List.setIfInBounds_toArray, List.set_cons_zero, List.set_cons_succ]
      refine wpE_take (i := 6) (v := ?_) (by kernel_rfl) inv (by simp only [List.getElem?_toArray, List.getElem?_cons_succ, List.getElem?_cons_zero]; rfl) (by decide) (by kernel_rfl) (by kernel_rfl) (fun _ _ _ h => h) hS (Or.inl ⟨by rfl, ?_⟩) ?_
      rotate_left
      · (intro w' hSw; obtain ⟨⟨p0, p1, p2⟩, p3, p4, p5⟩ := hSw; go_simp; try (with_reducible rfl))
      intro inv1
      clear inv
      have inv := inv1
      clear inv1
      try simp only [Act.put, List.setIfInBounds_toArray, List.set_cons_zero, List.set_cons_succ]
      refine wpE_one (i := 7) (by kernel_rfl) (by simp only [List.getElem?_toArray, List.getElem?_cons_succ, List.getElem?_cons_zero]; rfl) (fun K hK => ?_)
      go_simp
      go_at_call 51
      refine HD.out.mono ?_
      rintro e w3 ⟨A5, c5, rfl, hb3, o5⟩
      have x3 := x.keep hb3
      have hS3 : SetHeld w1.heap.size (.slice D1 n d1) (.slice (some ad2) s.waits.length d2) (.int .i64 s.cap) (ad2.add (k * 3)) (.int .i64 s.waits[k].what) (.int .i64 s.waits[k].at_) (.slice A' s.waits[k].data.length c') w3 := ⟨⟨x3.three.1.1, x3.three.1.2.1, x3.three.1.2.2⟩, (acts_keep hb3 hq).1, (acts_keep hb3 hq).2.1, (acts_keep hb3 hq).2.2⟩
      refine hK.out _ _ (fun _ => hS3) (fun _ => ?_)
      clear hK K
      try simp only [Act.put, List.setIfInBounds_toArray, List.set_cons_zero, List.set_cons_succ]
      have hS := hS3
      clear inv
      refine wpE_one (i := 8) (by kernel_rfl) (by simp only [List.getElem?_toArray, List.getElem?_cons_succ, List.getElem?_cons_zero]; rfl) (fun K hK => ?_)
      go_simp
      refine hK.out _ _ (fun _ => hS3) (fun _ => ?_)
      clear hK K
      try simp only [Act.put, List.setIfInBounds_toArray, List.set_cons_zero, List.set_cons_succ]
      have hS := hS3
      refine wpE_one (i := 9) (by kernel_rfl) (by simp only [List.getElem?_toArray, List.getElem?_cons_succ, List.getElem?_cons_zero]; rfl) (fun K hK => ?_)
      have k7 := x3.three
      go_simp
      refine hK.out _ _ (fun h => absurd rfl h) (fun _ => ?_)
      clear hK K
      try simp only [Act.put, List.setIfInBounds_toArray, List.set_cons_zero, List.set_cons_succ]
      refine wpE_done (by kernel_rfl) ?_ _
      refine NoPanic.normal ?_
      go_wp2
      go_roundw
      case rel => exact ⟨k + 1, by omega, by go_num, SInv.did (A1 := A1) (A2 := A2) (c1 := c1) (c2 := c2) hlt HP.out x y h3 b o2 hb3 o5⟩
      case measure => simp [intOf]; omega
    · have hkl : k = s.waits.length := by omega
      have ky := y.three
      subst hkl
      rw [List.take_length] at o1
      go_wp2
      have x' := x.set_ 1 (.slice none 0 0)
      have ye := y.far (p := ⟨w1.heap.size, 1, none⟩) (by simp; omega) (.slice none 0 0)
      have yn := (((ye.set_ 0 (.slice D1 n d1)).set_ 1 (.slice none 0 0)).set_ 2 (.int .i64 s.cap)).three
      refine bodyPost_ret (v := .agg #[.slice D1 n d1, .slice none 0 0, .int .i64 s.cap]) (by simp [results, Try.results44, go_sem, yn]) rfl ?_
      have hn := HN.out
      rw [List.take_length] at hn
      subst hn
      exact ⟨D1, d1, none, 0, rfl, (((b.setCell (by simp; omega) _).setCell (by simp) _).setCell (by simp) _).setCell (by simp) _, (o1.move (Kp.box x (rrS_ne (w := w)) 1 _)).move (Kp.box3 ye (rrS_ne (w := w)) _ _ _), .nil_⟩
set_option maxRecDepth 8000 in
set_option maxHeartbeats 2000000 in
theorem rsettled_some (s : St3) (hs : ok3 s = true) (keep : List Bool) (S1 S2 S3 : FP) (A1 A2 A3 : Option Addr) (c1 c2 c3 : Nat) (w : World) (h1 : Rd w S1 A1 c1 s.secs) (h2 : Rd w S2 A2 c2 s.waits) (h4 : Rd w S3 A3 c3 keep) :
    Calls Try.prog 44 #[.agg #[.slice A1 s.secs.length c1, .slice A2 s.waits.length c2, .int .i64 s.cap], .slice A3 keep.length c3, .bool false] w (Own3 (crash3 s keep) w) := by
  have l3 := h4.len
  have hok := (ok3_iff s).1 hs
  have HOK := Lib.hid hok
  have hcap : s.cap ≤ 65536 := hok.2.1
  clear hok hs
  have l1 := h1.len
  have l2 := h2.len
  have b0 : Below w.heap.size w ((w.alloc (.cells #[.slice A1 s.secs.length c1, .slice A2 s.waits.length c2, .int .i64 s.cap] 25)).alloc (.cells #[.slice none 0 0, .slice none 0 0, .int .i64 0] 25)) := below_alloc (below_alloc (Below.refl _ _) _) _
  have x0 := (Bx.new w [.slice A1 s.secs.length c1, .slice A2 s.waits.length c2, .int .i64 s.cap] 25).alloc (.cells #[.slice none 0 0, .slice none 0 0, .int .i64 0] 25)
  have y0 := Bx.new (w.alloc (.cells #[.slice A1 s.secs.length c1, .slice A2 s.waits.length c2, .int .i64 s.cap] 25)) [.slice none 0 0, .slice none 0 0, .int .i64 0] 25
  simp only [World.size_alloc] at y0
  go_enter Try.func44, Try.ntmps44
  go_wp2_with (go_at_call 42; go_loud (refine (rown_any s S1 S2 A1 A2 c1 c2 _ (h1.below b0) (h2.below b0)).mono ?_); rintro e w1 ⟨D1, d1, D2, d2, rfl, b1, o1, o2⟩)
  have hz1 : w.heap.size + 2 ≤ w1.heap.size := by have := b1.size; simpa using this
  have HI : Hid (SInv w s keep A1 A2 D2 c1 c2 d2 w1.heap.size 0 (w1.alloc (.cells #[.slice D1 s.secs.length d1, .slice D2 s.waits.length d2, .int .i64 s.cap] 25))) :=
    ⟨D1, d1, s.secs.length, rfl, Bx.new w1 _ _, (y0.keep b1).alloc _, by omega, below_alloc (below_then b0 b1) _, (o1.mono fun b t h => ⟨by have := h.1; simp at this; omega, h.2⟩).move (Kp.alloc _ _ _), (o2.mono fun b t h => ⟨by have := h.1; simp at this; omega, h.2⟩).move (Kp.alloc _ _ _)⟩
  obtain ⟨B3, hB3⟩ : ∃ B3, B3 = w1.heap.size := ⟨_, rfl⟩
  clear x0 y0 b0 b1 o1 o2 hz1
  go_loopw [8] (fun i wr => ∃ k : Nat, k ≤ s.waits.length ∧ i = .int .i64 k ∧ Hid (SInv w s keep A1 A2 D2 c1 c2 d2 w1.heap.size k wr)) (fun i _ => s.waits.length - (intOf i).toNat)
  case atStart => exact ⟨0, Nat.zero_le _, rfl, HI⟩
  case round =>
    clear HI
    obtain ⟨k, hk, rfl, hinv⟩ := hrel
    obtain ⟨D1, d1, n, hn, x, y, h3, b, o1, o2⟩ := id hinv.out
    have HN := Lib.hid hn
    clear hn
    have kx := x.three
    by_cases hlt : k < s.waits.length
    · by_cases hkk : k < keep.length
      · obtain ⟨ad4, v4, hA3, hc4, hv4⟩ := (h4.below b).at1 rfl k hkk
        simp only [Rep.has, List.cons.injEq, and_true] at hv4
        subst hv4
        subst hA3
        have hpk : keep.getD k false = keep[k] := by rw [List.getD_eq_getElem?_getD, List.getElem?_eq_getElem hkk]; rfl
        cases e4 : keep[k]
        · rw [e4] at hc4 hpk
          have HP := Lib.hid hpk
          clear hpk e4
          go_wp2
          all_goals exact ⟨⟨k + 1, by omega, by go_num, SInv.next (w' := w) hinv.out hlt HP.out⟩, by simp [intOf]; omega⟩
        · rw [e4] at hc4 hpk
          have HP := Lib.hid hpk
          clear hpk e4
          obtain ⟨ad2, A', c', hD2, hr, i1, i2, q0, q1, q2⟩ := acts_at o2.rdS k hlt
          subst hD2
          have hq : wr.cell? (ad2.add (k * 3)) = some (.int .i64 s.waits[k].what) ∧ wr.cell? ⟨(ad2.add (k * 3)).block, (ad2.add (k * 3)).off + 1, none⟩ = some (.int .i64 s.waits[k].at_) ∧ wr.cell? ⟨(ad2.add (k * 3)).block, (ad2.add (k * 3)).off + 2, none⟩ = some (.slice A' s.waits[k].data.length c') := ⟨q0, q1, q2⟩
          clear q0 q1 q2
          go_wp2
          have b := b.drew
          have x := x.drew
          have y := y.drew
          have o1 := o1.move (Kp.drewN _ 1 _)
          have o2 := o2.move (Kp.drewN _ 1 _)
          have hr := hr.move (Kp.drewN _ 1 _)
          have hq : wr.drew.cell? (ad2.add (k * 3)) = some (.int .i64 s.waits[k].what) ∧ wr.drew.cell? ⟨(ad2.add (k * 3)).block, (ad2.add (k * 3)).off + 1, none⟩ = some (.int .i64 s.waits[k].at_) ∧ wr.drew.cell? ⟨(ad2.add (k * 3)).block, (ad2.add (k * 3)).off + 2, none⟩ = some (.slice A' s.waits[k].data.length c') := hq
          have hS : SetHeld w1.heap.size (.slice D1 n d1) (.slice (some ad2) s.waits.length d2) (.int .i64 s.cap) (ad2.add (k * 3)) (.int .i64 s.waits[k].what) (.int .i64 s.waits[k].at_) (.slice A' s.waits[k].data.length c') wr.drew := ⟨⟨kx.1.1, kx.1.2.1, kx.1.2.2⟩, hq.1, hq.2.1, hq.2.2⟩
          have o1' := o1
          rw [HN.out] at o1'
          have hd := rdone_any (run3 s.secs (s.waits.take k) keep) s.waits[k] s.cap (FrS w) (FrR w) D1 A' d1 c' wr.drew o1'.rdS hr (run3_len (keep := keep) HOK.out.2.2.1 s.waits HOK.out.2.2.2.2.2 k hk) hcap (HOK.out.2.2.2.2.2 _ (List.getElem_mem hlt))
          rw [← HN.out] at hd
          have HD := Lib.hid hd
          clear hd o1'
          refine wp_region_noPanic ?_
          refine wp_region_E 9 (SetHeld w1.heap.size (.slice D1 n d1) (.slice (some ad2) s.waits.length d2) (.int .i64 s.cap) (ad2.add (k * 3)) (.int .i64 s.waits[k].what) (.int .i64 s.waits[k].at_) (.slice A' s.waits[k].data.length c')) (by kernel_rfl) (fun inv => ?_)
          refine wpE_take (i := 0) (v := ?_) (by kernel_rfl) inv (by simp only [List.getElem?_toArray, List.getElem?_cons_succ, List.getElem?_cons_zero]; rfl) (by decide) (by kernel_rfl) (by kernel_rfl) (fun _ _ _ h => h) hS (Or.inl ⟨by rfl, ?_⟩) ?_
          rotate_left
          · (intro w' hSw; obtain ⟨⟨p0, p1, p2⟩, p3, p4, p5⟩ := hSw; go_simp; try (with_reducible rfl))
          intro inv1
          clear inv
          have inv := inv1
          clear inv1
          try simp only [Act.put, List.setIfInBounds_toArray, List.set_cons_zero, List.set_cons_succ]
          refine wpE_take (i := 1) (v := ?_) (by kernel_rfl) inv (by simp only [List.getElem?_toArray, List.getElem?_cons_succ, List.getElem?_cons_zero]; rfl) (by decide) (by kernel_rfl) (by kernel_rfl) (fun _ _ _ h => h) hS (Or.inl ⟨by rfl, ?_⟩) ?_
          rotate_left
          · (intro w' hSw; obtain ⟨⟨p0, p1, p2⟩, p3, p4, p5⟩ := hSw; go_simp; try (with_reducible rfl))
          intro inv1
          clear inv
          have inv := inv1
          clear inv1
          try simp only [Act.put, List.setIfInBounds_toArray, List.set_cons_zero, List.set_cons_succ]
          refine wpE_take (i := 2) (v := ?_) (by kernel_rfl) inv (by simp only [List.getElem?_toArray, List.getElem?_cons_succ, List.getElem?_cons_zero]; rfl) (by decide) (by kernel_rfl) (by kernel_rfl) (fun _ _ _ h => h) hS (Or.inl ⟨by rfl, ?_⟩) ?_
          rotate_left
          · (intro w' hSw; obtain ⟨⟨p0, p1, p2⟩, p3, p4, p5⟩ := hSw; go_simp; try (with_reducible rfl))
          intro inv1
          clear inv
          have inv := inv1
          clear inv1
          try simp only [Act.put, List.setIfInBounds_toArray, List.set_cons_zero, List.set_cons_succ]
          refine wpE_take (i := 3) (v := ?_) (by kernel_rfl) inv (by simp only [List.getElem?_toArray, List.getElem?_cons_succ, List.getElem?_cons_zero]; rfl) (by decide) (by kernel_rfl) (by kernel_rfl) (fun _ _ _ h => h) hS (Or.inl ⟨by rfl, ?_⟩) ?_
          rotate_left
          · (intro w' hSw; obtain ⟨⟨p0, p1, p2⟩, p3, p4, p5⟩ := hSw; go_simp; try (with_reducible rfl))
          intro inv1
          clear inv
          have inv := inv1
          clear inv1
          try simp only [Act.put, List.setIfInBounds_toArray, List.set_cons_zero, List.set_cons_succ]
          refine wpE_take (i := 4) (v := ?_) (by kernel_rfl) inv (by simp only [List.getElem?_toArray, List.getElem?_cons_succ, List.getElem?_cons_zero]; rfl) (by decide) (by kernel_rfl) (by kernel_rfl) (fun _ _ _ h => h) hS (Or.inl ⟨by rfl, ?_⟩) ?_
          rotate_left
          · (intro w' hSw; obtain ⟨⟨p0, p1, p2⟩, p3, p4, p5⟩ := hSw; go_simp; try (with_reducible rfl))
          intro inv1
          clear inv
          have inv := inv1
          clear inv1
          try simp only [Act.put, List.setIfInBounds_toArray, List.set_cons_zero, List.set_cons_succ]
          refine wpE_take (i := 5) (v := ?_) (by kernel_rfl) inv (by simp only [List.getElem?_toArray, List.getElem?_cons_succ, List.getElem?_cons_zero]; rfl) (by decide) (by kernel_rfl) (by kernel_rfl) (fun _ _ _ h => h) hS (Or.inl ⟨by rfl, ?_⟩) ?_
          rotate_left
          · (intro w' hSw; obtain ⟨⟨p0, p1, p2⟩, p3, p4, p5⟩ := hSw; go_simp; try (with_reducible rfl))
          intro inv1
          clear inv
          have inv := inv1
          clear inv1
          try simp only [Act.put, List.setIfInBounds_toArray, List.set_cons_zero, List.set_cons_succ]
          refine wpE_take (i := 6) (v := ?_) (by kernel_rfl) inv (by simp only [List.getElem?_toArray, List.getElem?_cons_succ, List.getElem?_cons_zero]; rfl) (by decide) (by kernel_rfl) (by kernel_rfl) (fun _ _ _ h => h) hS (Or.inl ⟨by rfl, ?_⟩) ?_
          rotate_left
          · (intro w' hSw; obtain ⟨⟨p0, p1, p2⟩, p3, p4, p5⟩ := hSw; go_simp; try (with_reducible rfl))
          intro inv1
          clear inv
          have inv := inv1
          clear inv1
          try simp only [Act.put, List.setIfInBounds_toArray, List.set_cons_zero, List.set_cons_succ]
          refine wpE_one (i := 7) (by kernel_rfl) (by simp only [List.getElem?_toArray, List.getElem?_cons_succ, List.getElem?_cons_zero]; rfl) (fun K hK => ?_)
          go_simp
          go_at_call 51
          refine HD.out.mono ?_
          rintro e w3 ⟨A5, c5, rfl, hb3, o5⟩
          have x3 := x.keep hb3
          have hS3 : SetHeld w1.heap.size (.slice D1 n d1) (.slice (some ad2) s.waits.length d2) (.int .i64 s.cap) (ad2.add (k * 3)) (.int .i64 s.waits[k].what) (.int .i64 s.waits[k].at_) (.slice A' s.waits[k].data.length c') w3 := ⟨⟨x3.three.1.1, x3.three.1.2.1, x3.three.1.2.2⟩, (acts_keep hb3 hq).1, (acts_keep hb3 hq).2.1, (acts_keep hb3 hq).2.2⟩
          refine hK.out _ _ (fun _ => hS3) (fun _ => ?_)
          clear hK K
          try simp only [Act.put, List.setIfInBounds_toArray, List.set_cons_zero, List.set_cons_succ]
          have hS := hS3
          clear inv
          refine wpE_one (i := 8) (by kernel_rfl) (by simp only [List.getElem?_toArray, List.getElem?_cons_succ, List.getElem?_cons_zero]; rfl) (fun K hK => ?_)
          go_simp
          refine hK.out _ _ (fun _ => hS3) (fun _ => ?_)
          clear hK K
          try simp only [Act.put, List.setIfInBounds_toArray, List.set_cons_zero, List.set_cons_succ]
          have hS := hS3
          refine wpE_one (i := 9) (by kernel_rfl) (by simp only [List.getElem?_toArray, List.getElem?_cons_succ, List.getElem?_cons_zero]; rfl) (fun K hK => ?_)
          have k7 := x3.three
          go_simp
          refine hK.out _ _ (fun h => absurd rfl h) (fun _ => ?_)
          clear hK K
          try simp only [Act.put, List.setIfInBounds_toArray, List.set_cons_zero, List.set_cons_succ]
          refine wpE_done (by kernel_rfl) ?_ _
          refine NoPanic.normal ?_
          go_wp2
          go_roundw
          case rel => exact ⟨k + 1, by omega, by go_num, SInv.did (A1 := A1) (A2 := A2) (c1 := c1) (c2 := c2) hlt HP.out x y h3 b o2 hb3 o5⟩
          case measure => simp [intOf]; omega
      · have hpk : keep.getD k false = false := by rw [List.getD_eq_getElem?_getD, List.getElem?_eq_none (by omega)]; rfl
        have HP := Lib.hid hpk
        clear hpk
        go_wp2
        all_goals exact ⟨⟨k + 1, by omega, by go_num, SInv.next (w' := w) hinv.out hlt HP.out⟩, by simp [intOf]; omega⟩
    · have hkl : k = s.waits.length := by omega
      have ky := y.three
      subst hkl
      rw [List.take_length] at o1
      go_wp2
      have x' := x.set_ 1 (.slice none 0 0)
      have ye := y.far (p := ⟨w1.heap.size, 1, none⟩) (by simp; omega) (.slice none 0 0)
      have yn := (((ye.set_ 0 (.slice D1 n d1)).set_ 1 (.slice none 0 0)).set_ 2 (.int .i64 s.cap)).three
      refine bodyPost_ret (v := .agg #[.slice D1 n d1, .slice none 0 0, .int .i64 s.cap]) (by simp [results, Try.results44, go_sem, yn]) rfl ?_
      have hn := HN.out
      rw [List.take_length] at hn
      subst hn
      exact ⟨D1, d1, none, 0, rfl, (((b.setCell (by simp; omega) _).setCell (by simp) _).setCell (by simp) _).setCell (by simp) _, (o1.move (Kp.box x (rrS_ne (w := w)) 1 _)).move (Kp.box3 ye (rrS_ne (w := w)) _ _ _), .nil_⟩
end Go.Proofs.Ytfmmbkggamojkaa
