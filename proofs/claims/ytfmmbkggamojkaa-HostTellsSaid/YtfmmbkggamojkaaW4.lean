/- HostOwn: the walk. No condition but that the arguments read. -/
import Derived.Test.YtfmmbkggamojkaaW2
import Derived.Test.YtfmmbkggamojkaaAl
import Derived.Test.YtfmmbkggamojkaaSp
set_option linter.unusedVariables false
set_option linter.unusedSimpArgs false
namespace Go.Proofs.Ytfmmbkggamojkaa
open Go.RowKit

/-- Memory from one world on. -/
abbrev Gz (w : World) : FP := fun b t => w.heap.size ≤ b ∧ t.2 = (0, 0)
/-- A state reads. -/
structure Rs (w : World) (S : FP) (A1 : Option Addr) (c1 : Nat) (A2 : Option Addr) (c2 : Nat) (s : St3) : Prop where
  secs : Rd w S A1 c1 s.secs
  waits : Rd w S A2 c2 s.waits
section
variable {w w' : World} {S S' : FP} {A1 A2 : Option Addr} {c1 c2 : Nat} {s : St3}
theorem Rs.below (h : Rs w S A1 c1 A2 c2 s) (b : Below w.heap.size w w') : Rs w' S A1 c1 A2 c2 s := ⟨h.secs.below b, h.waits.below b⟩
theorem Rs.alloc (h : Rs w S A1 c1 A2 c2 s) (o : Obj) : Rs (w.alloc o) S A1 c1 A2 c2 s := ⟨h.secs.move (Kp.alloc _ _ _), h.waits.move (Kp.alloc _ _ _)⟩
theorem Rs.mono (h : Rs w S A1 c1 A2 c2 s) (hS : ∀ b t, S b t → S' b t) : Rs w S' A1 c1 A2 c2 s := ⟨h.secs.mono hS, h.waits.mono hS⟩
theorem Rs.old (h : Rs w S A1 c1 A2 c2 s) : Rs w (fun b t => S b t ∧ b < w.heap.size) A1 c1 A2 c2 s := ⟨h.secs.old, h.waits.old⟩
theorem Rs.sp {T : FP} (h : Rs w S A1 c1 A2 c2 s) (k : SpW T w w') (hS : ∀ b t, S b t → ¬ T b t) : Rs w' S A1 c1 A2 c2 s := ⟨h.secs.move (k.kp hS), h.waits.move (k.kp hS)⟩
end
/-- What is answered, in the words of this text. -/
def RetG (r : St3) (err : Int) (w : World) (e : Ending) (w' : World) : Prop := ∃ A1 c1 A2 c2, e = .returned (.tuple #[.agg #[.slice A1 r.secs.length c1, .slice A2 r.waits.length c2, .int .i64 r.cap], .int .i64 err]) ∧ Below w.heap.size w w' ∧ Rs w' (Gz w) A1 c1 A2 c2 r
theorem frS_z {w : World} : ∀ b t, FrS w b t → Gz w b t := fun b t h => ⟨h.1, by rcases h.2 with h | h <;> (rw [h])⟩
theorem frA_z {w : World} : ∀ b t, FrA w b t → Gz w b t := fun b t h => ⟨h.1, by rcases h.2 with h | h <;> (rw [h])⟩
theorem frR_z {w : World} : ∀ b t, FrR w b t → Gz w b t := fun b t h => ⟨h.1, by rcases h.2 with h | h <;> (rw [h])⟩
theorem RetSt.g {r : St3} {err : Int} {w w' : World} {e : Ending} (h : RetSt r err w e w') : RetG r err w e w' := by
  obtain ⟨A1, c1, A2, c2, he, b, o1, o2⟩ := h
  exact ⟨A1, c1, A2, c2, he, b, o1.rdS.mono frS_z, o2.rdS.mono frA_z⟩
theorem RetR.g {r : St3} {err : Int} {w w' : World} {e : Ending} (h : RetR r err w e w') : RetG r err w e w' := by
  obtain ⟨A1, c1, A2, c2, he, b, o1, o2⟩ := h
  exact ⟨A1, c1, A2, c2, he, b, o1.rdS.mono frS_z, o2.rdS.mono frR_z⟩
section
variable {S1 S2 S3 : FP} {A1 A2 A3 : Option Addr} {c1 c2 c3 : Nat} {w : World} {s r : St3} {err : Int}
theorem of_g (h1 : Rd w S1 A1 c1 s.secs) (h2 : Rd w S2 A2 c2 s.waits) :
    Calls Try.prog 10 #[.agg #[.slice A1 s.secs.length c1, .slice A2 s.waits.length c2, .int .i64 s.cap]] w fun e w' => ∃ A3 c3 A4 c4, e = .returned (.agg #[.slice A3 s.secs.length c3, .slice A4 s.waits.length c4, .int .i64 s.cap]) ∧ Below w.heap.size w w' ∧ Rs w' (Gz w) A3 c3 A4 c4 s :=
  (of_any s S1 S2 A1 A2 c1 c2 w h1 h2).mono fun e w' ⟨A3, c3, A4, c4, he, b, o1, o2⟩ => ⟨A3, c3, A4, c4, he, b, o1.rdS.mono frS_z, o2.rdS.mono frA_z⟩
theorem copy_g {xs : List UInt8} (h : Rd w S1 A1 c1 xs) :
    Calls Try.prog 14 #[.slice A1 xs.length c1] w fun e w' => ∃ A2 c2, e = .returned (.slice A2 xs.length c2) ∧ Below w.heap.size w w' ∧ Rd w' (Gz w) A2 c2 xs :=
  (copy_bytes S1 A1 c1 xs w h).mono fun e w' ⟨v, he, b, _, o⟩ => by
    obtain ⟨A2, c2, rfl, r⟩ := o.rd
    exact ⟨A2, c2, he, b, r.mono fun b t h => ⟨h.1, by rw [h.2]⟩⟩
theorem write_g {at_ : Int} {data : List UInt8} (hr : writeR s at_ data = (r, err)) (ha : InK .i64 at_) (h : Rs w S1 A1 c1 A2 c2 s) (h3 : Rd w S3 A3 c3 data) :
    Calls Try.prog 15 #[.agg #[.slice A1 s.secs.length c1, .slice A2 s.waits.length c2, .int .i64 s.cap], .int .i64 at_, .slice A3 data.length c3] w (RetG r err w) :=
  (write_to hr ha h.secs h.waits h3).mono fun e w' h => h.g
theorem crash_g {keep : List Bool} (hr : crashR s keep = r) (he : err3 (ok3 s) = err) (h : Rs w S1 A1 c1 A2 c2 s) (h3 : Rd w S3 A3 c3 keep) :
    Calls Try.prog 9 #[.agg #[.slice A1 s.secs.length c1, .slice A2 s.waits.length c2, .int .i64 s.cap], .slice A3 keep.length c3] w (RetG r err w) :=
  (crash_to hr he h.secs h.waits h3).mono fun e w' h => h.g
theorem rwrite_g {at_ : Int} {data : List UInt8} (hr : writeR s at_ data = (r, err)) (ha : InK .i64 at_) (h1 : Rd w S1 A1 c1 s.secs) (h2 : Rd w S2 A2 c2 s.waits) (h3 : Rd w S3 A3 c3 data) :
    Calls Try.prog 16 #[.agg #[.slice A1 s.secs.length c1, .slice A2 s.waits.length c2, .int .i64 s.cap], .int .i64 at_, .slice A3 data.length c3] w (RetG r err w) := by
  have h := (rwrite_any s at_ ha data S1 S2 S3 A1 A2 A3 c1 c2 c3 w h1 h2 h3).mono fun e w' h => h.g
  rw [hr] at h
  exact h
theorem rcrash_g {keep : List Bool} (hr : crashR s keep = r) (he : err3 (ok3 s) = err) (h1 : Rd w S1 A1 c1 s.secs) (h2 : Rd w S2 A2 c2 s.waits) (h3 : Rd w S3 A3 c3 keep) :
    Calls Try.prog 17 #[.agg #[.slice A1 s.secs.length c1, .slice A2 s.waits.length c2, .int .i64 s.cap], .slice A3 keep.length c3] w (RetG r err w) := by
  subst hr
  subst he
  exact (rcrash_any s keep S1 S2 S3 A1 A2 A3 c1 c2 c3 w h1 h2 h3).mono fun e w' h => h.g
theorem alike_g {S : FP} {B1 B2 : Option Addr} {d1 d2 : Nat} (h : Rs w S1 A1 c1 A2 c2 s) (k : Rs w S B1 d1 B2 d2 s) :
    Calls Try.prog 20 #[.agg #[.slice A1 s.secs.length c1, .slice A2 s.waits.length c2, .int .i64 s.cap], .agg #[.slice B1 s.secs.length d1, .slice B2 s.waits.length d2, .int .i64 s.cap]] w fun e w' => e = .returned (.int .i64 0) ∧ Below w.heap.size w w' :=
  alike_same s S1 S1 S S A1 A2 B1 B2 c1 c2 d1 d2 w h.secs h.waits k.secs k.waits
end
/-- Acts' octets that may be written. -/
structure Rk (w : World) (S : FP) (A : Option Addr) (n c : Nat) : Prop where
  cap : n ≤ c
  len : n ≤ 140737488351232
  cells : ∀ j, j < n → ∃ ad A' m c', A = some ad ∧ w.cell? ⟨(ad.add (j * 3)).block, (ad.add (j * 3)).off + 2, none⟩ = some (.slice A' m c') ∧ Rb w S A' m c'
theorem SpW.cell {S : FP} {w w1 : World} {b o : Nat} {A : Option Addr} {n c : Nat} (h : SpW S w w1) (hc : w.cell? ⟨b, o, none⟩ = some (.slice A n c)) : w1.cell? ⟨b, o, none⟩ = some (.slice A n c) := by
  obtain ⟨_, cur, t, hb, hv⟩ : (⟨b, o, none⟩ : Addr).spot = none ∧ ∃ (cur : Array Value) (t : BT), w.heap[b]? = some (.cells cur t.1 t.2) ∧ cur[o]? = some (.slice A n c) := by
    unfold World.cell? at hc
    split at hc
    · rename_i c e f hb
      exact ⟨rfl, c, (e, f), hb, by simpa using hc⟩
    · cases hc
  rcases h.block b with e | ⟨d, d', t', e1, e2, _, hj⟩
  · rw [cell_of_row w1 b _ cur t.1 t.2 (e.trans hb)]; exact hv
  · rw [e1] at hb
    injection hb with hb
    injection hb with hb _ _
    subst hb
    rw [cell_of_row w1 b _ d' t'.1 t'.2 e2, (hj o).2 (by rw [hv]; exact no_byte)]
    exact hv
theorem Rk.move {S S2 : FP} {w w1 : World} {A : Option Addr} {n c : Nat} (h : Rk w S A n c) (k : SpW S2 w w1) : Rk w1 S A n c :=
  ⟨h.cap, h.len, fun j hj => by
    obtain ⟨ad, A', m, c', e, h1, h2⟩ := h.cells j hj
    exact ⟨ad, A', m, c', e, k.cell h1, h2.move k⟩⟩
theorem Rd.rk {w : World} {S : FP} {A : Option Addr} {c : Nat} {xs : List Act3} (h : Rd w S A c xs) (hS : ∀ b t, S b t → t.2 = (0, 0)) : Rk w S A xs.length c :=
  ⟨h.cap, h.len, fun j hj => by
    obtain ⟨ad, A', c', e, hr, _, _, _, _, q2⟩ := acts_at h j hj
    exact ⟨ad, A', _, c', e, q2, hr.rb hS⟩⟩
theorem Bx.sp {S : FP} {w w1 : World} {g : Nat} {cs : List Value} {t : TypeId} (x : Bx w g cs t) (h : SpW S w w1) (hg : ∀ t, ¬ S g t) : Bx w1 g cs t := ⟨by
  rcases h.block g with e | ⟨d, d', t', e1, e2, hs, hj⟩
  · exact e.trans x.blk
  · exact absurd hs (hg t')⟩
/-- The memory of the host and the octets that were made for the program. -/
abbrev Mine (W1 W3 : World) : FP := fun b t => (W1.heap.size ≤ b ∧ t.2 = (0, 0)) ∧ b < W3.heap.size
abbrev stv (A1 : Option Addr) (c1 : Nat) (A2 : Option Addr) (c2 : Nat) (s : St3) : List Value := [.slice A1 s.secs.length c1, .slice A2 s.waits.length c2, .int .i64 s.cap]
structure OwnInv (w W1 W3 : World) (s Y C : St3) (gO gA gB gC gD : Nat) (a5 a6 b1 b2 b3 b4 b5 b6 b7 b8 : Option Addr) (c5 c6 f1 f2 f3 f4 f5 f6 f7 f8 : Nat) (wr : World) : Prop where
  hw : w.heap.size ≤ W1.heap.size
  hO : W3.heap.size ≤ gO
  hA : W3.heap.size ≤ gA
  hB : W3.heap.size ≤ gB
  hC : W3.heap.size ≤ gC
  hD : W3.heap.size ≤ gD
  bo : Bx wr gO [.slice a5 s.secs.length c5, .slice a6 s.waits.length c6, .int .i64 s.cap] 30
  ba : Bx wr gA [.slice b1 Y.secs.length f1, .slice b2 Y.waits.length f2, .int .i64 Y.cap] 30
  bb : Bx wr gB [.slice b3 Y.secs.length f3, .slice b4 Y.waits.length f4, .int .i64 Y.cap] 25
  bc : Bx wr gC [.slice b5 C.secs.length f5, .slice b6 C.waits.length f6, .int .i64 C.cap] 30
  bd : Bx wr gD [.slice b7 C.secs.length f7, .slice b8 C.waits.length f8, .int .i64 C.cap] 25
  rl : Rl wr (Mine W1 W3) a5 s.secs.length c5
  rk : Rk wr (Mine W1 W3) a6 s.waits.length c6
  ra : Rs wr (Gz W3) b1 f1 b2 f2 Y
  rb : Rs wr (Gz W3) b3 f3 b4 f4 Y
  rc : Rs wr (Gz W3) b5 f5 b6 f6 C
  rd : Rs wr (Gz W3) b7 f7 b8 f8 C
  bl : Below w.heap.size w wr
theorem OwnInv.sp {w W1 W3 : World} {s Y C : St3} {gO gA gB gC gD : Nat} {a5 a6 b1 b2 b3 b4 b5 b6 b7 b8 : Option Addr} {c5 c6 f1 f2 f3 f4 f5 f6 f7 f8 : Nat} {wr w' : World} (h : OwnInv w W1 W3 s Y C gO gA gB gC gD a5 a6 b1 b2 b3 b4 b5 b6 b7 b8 c5 c6 f1 f2 f3 f4 f5 f6 f7 f8 wr) (k : SpW (Mine W1 W3) wr w') :
    OwnInv w W1 W3 s Y C gO gA gB gC gD a5 a6 b1 b2 b3 b4 b5 b6 b7 b8 c5 c6 f1 f2 f3 f4 f5 f6 f7 f8 w' :=
  have far : ∀ g, W3.heap.size ≤ g → ∀ t, ¬ Mine W1 W3 g t := fun g hg t hm => by have := hm.2; omega
  have ne : ∀ b t, Gz W3 b t → ¬ Mine W1 W3 b t := fun b t hz hm => by have := hm.2; have := hz.1; omega
  ⟨h.hw, h.hO, h.hA, h.hB, h.hC, h.hD, h.bo.sp k (far _ h.hO), h.ba.sp k (far _ h.hA), h.bb.sp k (far _ h.hB), h.bc.sp k (far _ h.hC), h.bd.sp k (far _ h.hD), h.rl.move k, h.rk.move k, h.ra.sp k ne, h.rb.sp k ne, h.rc.sp k ne, h.rd.sp k ne, SpW.below h.bl k fun b t hm => by have := hm.1.1; have := h.hw; omega⟩
set_option maxRecDepth 100000 in
set_option maxHeartbeats 2000000 in
theorem own_any {s Y C : St3} {at_ : Int} {data : List UInt8} {keep : List Bool} {ey ec : Int} {S1 S2 S3 S4 : FP} {A1 A2 A3 A4 : Option Addr} {c1 c2 c3 c4 : Nat} {w : World} (HY : Hid (writeR s at_ data = (Y, ey))) (HC : Hid (crashR s keep = C)) (HE : Hid (err3 (ok3 s) = ec)) (ha : InK .i64 at_)
    (h1 : Rd w S1 A1 c1 s.secs) (h2 : Rd w S2 A2 c2 s.waits) (h3 : Rd w S3 A3 c3 data) (h4 : Rd w S4 A4 c4 keep) :
    Calls Try.prog 4 #[.agg #[.slice A1 s.secs.length c1, .slice A2 s.waits.length c2, .int .i64 s.cap], .int .i64 at_, .slice A3 data.length c3, .slice A4 keep.length c4] w fun e w' => e = .returned (.bool true) ∧ Below w.heap.size w w' := by
  have l1 := h1.len
  have l2 := h2.len
  have l3 := h3.len
  have l4 := h4.len
  have b0 : Below w.heap.size w (w.alloc (.cells #[.slice A1 s.secs.length c1, .slice A2 s.waits.length c2, .int .i64 s.cap] 25)) := below_alloc (Below.refl _ _) _
  have x0 := Bx.new w [.slice A1 s.secs.length c1, .slice A2 s.waits.length c2, .int .i64 s.cap] 25
  go_enter Try.func4, Try.ntmps4
  go_wp2_with (first
    | (go_at_call 8; refine (alive_any _).mono ?_; rintro e w1 ⟨rfl, b1⟩; have x1 := x0.keep b1; have k1 := x1.three; have d1 := below_then b0 b1)
    | (go_at_call 10; refine (of_g (h1.below d1) (h2.below d1)).mono ?_; rintro e w2 ⟨A5, c5, A6, c6, rfl, b2, ro⟩; have d2 := below_then d1 b2; have x2 := x1.keep b2)
    | (go_at_call 14; refine (copy_g (h3.below d2)).mono ?_; rintro e w3 ⟨A7, c7, rfl, b3, ri⟩; have hz2 := b2.size; have hz3 := b3.size; have ro := (ro.below b3).old.mono (S' := Mine w1 w3) (fun b t h => h); have ri := ri.old.mono (S' := Mine w1 w3) (fun b t h => ⟨⟨by have := h.1.1; omega, h.1.2⟩, h.2⟩); have d3 := below_alloc (below_then d2 b3) (.cells #[.slice A5 s.secs.length c5, .slice A6 s.waits.length c6, .int .i64 s.cap] 30); have x3 := (x2.keep b3).alloc (.cells #[.slice A5 s.secs.length c5, .slice A6 s.waits.length c6, .int .i64 s.cap] 30); have y3 := Bx.new w3 [.slice A5 s.secs.length c5, .slice A6 s.waits.length c6, .int .i64 s.cap] 30; have k3 := y3.three; have ro := ro.alloc (.cells #[.slice A5 s.secs.length c5, .slice A6 s.waits.length c6, .int .i64 s.cap] 30); have ri := ri.alloc (.cells #[.slice A5 s.secs.length c5, .slice A6 s.waits.length c6, .int .i64 s.cap] 30))
    | (go_at_call 15; refine (write_g HY.out ha ro ri).mono ?_; rintro e w4 ⟨B1, f1, B2, f2, rfl, b4, ra⟩; have hz4 := b4.size; have o4 := (.cells #[.slice B1 Y.secs.length f1, .slice B2 Y.waits.length f2, .int .i64 Y.cap] 30 : Obj); have d4 := below_alloc (below_then d3 b4) (.cells #[.slice B1 Y.secs.length f1, .slice B2 Y.waits.length f2, .int .i64 Y.cap] 30); have x4 := (x3.keep b4).alloc (.cells #[.slice B1 Y.secs.length f1, .slice B2 Y.waits.length f2, .int .i64 Y.cap] 30); have k4 := x4.three; have y4 := (y3.keep b4).alloc (.cells #[.slice B1 Y.secs.length f1, .slice B2 Y.waits.length f2, .int .i64 Y.cap] 30); have a4 := Bx.new w4 [.slice B1 Y.secs.length f1, .slice B2 Y.waits.length f2, .int .i64 Y.cap] 30; have ro := (ro.below b4).alloc (.cells #[.slice B1 Y.secs.length f1, .slice B2 Y.waits.length f2, .int .i64 Y.cap] 30); have ri := (ri.below b4).alloc (.cells #[.slice B1 Y.secs.length f1, .slice B2 Y.waits.length f2, .int .i64 Y.cap] 30); have ra := (ra.mono (S' := Gz w3) (fun b t h => ⟨by have := h.1; simp at this; omega, h.2⟩)).alloc (.cells #[.slice B1 Y.secs.length f1, .slice B2 Y.waits.length f2, .int .i64 Y.cap] 30); clear o4)
    | (go_at_call 16; refine (rwrite_g HY.out ha (h1.below d4) (h2.below d4) (h3.below d4)).mono ?_; rintro e w5 ⟨B3, f3, B4, f4, rfl, b5, rb⟩; have hz5 := b5.size; have d5 := below_alloc (below_then d4 b5) (.cells #[.slice B3 Y.secs.length f3, .slice B4 Y.waits.length f4, .int .i64 Y.cap] 25); have x5 := (x4.keep b5).alloc (.cells #[.slice B3 Y.secs.length f3, .slice B4 Y.waits.length f4, .int .i64 Y.cap] 25); have y5 := (y4.keep b5).alloc (.cells #[.slice B3 Y.secs.length f3, .slice B4 Y.waits.length f4, .int .i64 Y.cap] 25); have k5 := y5.three; have a5 := (a4.keep b5).alloc (.cells #[.slice B3 Y.secs.length f3, .slice B4 Y.waits.length f4, .int .i64 Y.cap] 25); have bb5 := Bx.new w5 [.slice B3 Y.secs.length f3, .slice B4 Y.waits.length f4, .int .i64 Y.cap] 25; have ro := (ro.below b5).alloc (.cells #[.slice B3 Y.secs.length f3, .slice B4 Y.waits.length f4, .int .i64 Y.cap] 25); have ri := (ri.below b5).alloc (.cells #[.slice B3 Y.secs.length f3, .slice B4 Y.waits.length f4, .int .i64 Y.cap] 25); have ra := (ra.below b5).alloc (.cells #[.slice B3 Y.secs.length f3, .slice B4 Y.waits.length f4, .int .i64 Y.cap] 25); have rb := (rb.mono (S' := Gz w3) (fun b t h => ⟨by have := h.1; simp at this; simp at hz4; omega, h.2⟩)).alloc (.cells #[.slice B3 Y.secs.length f3, .slice B4 Y.waits.length f4, .int .i64 Y.cap] 25))
    | (go_at_call 9; refine (crash_g HC.out HE.out ro (h4.below d5)).mono ?_; rintro e w6 ⟨B5, f5, B6, f6, rfl, b6, rc⟩; have hz6 := b6.size; have d6 := below_alloc (below_then d5 b6) (.cells #[.slice B5 C.secs.length f5, .slice B6 C.waits.length f6, .int .i64 C.cap] 30); have x6 := (x5.keep b6).alloc (.cells #[.slice B5 C.secs.length f5, .slice B6 C.waits.length f6, .int .i64 C.cap] 30); have k6 := x6.three; have y6 := (y5.keep b6).alloc (.cells #[.slice B5 C.secs.length f5, .slice B6 C.waits.length f6, .int .i64 C.cap] 30); have a6 := (a5.keep b6).alloc (.cells #[.slice B5 C.secs.length f5, .slice B6 C.waits.length f6, .int .i64 C.cap] 30); have bb6 := (bb5.keep b6).alloc (.cells #[.slice B5 C.secs.length f5, .slice B6 C.waits.length f6, .int .i64 C.cap] 30); have cc6 := Bx.new w6 [.slice B5 C.secs.length f5, .slice B6 C.waits.length f6, .int .i64 C.cap] 30; have ro := (ro.below b6).alloc (.cells #[.slice B5 C.secs.length f5, .slice B6 C.waits.length f6, .int .i64 C.cap] 30); have ri := (ri.below b6).alloc (.cells #[.slice B5 C.secs.length f5, .slice B6 C.waits.length f6, .int .i64 C.cap] 30); have ra := (ra.below b6).alloc (.cells #[.slice B5 C.secs.length f5, .slice B6 C.waits.length f6, .int .i64 C.cap] 30); have rb := (rb.below b6).alloc (.cells #[.slice B5 C.secs.length f5, .slice B6 C.waits.length f6, .int .i64 C.cap] 30); have rc := (rc.mono (S' := Gz w3) (fun b t h => ⟨by have := h.1; simp at this; simp at hz4 hz5; omega, h.2⟩)).alloc (.cells #[.slice B5 C.secs.length f5, .slice B6 C.waits.length f6, .int .i64 C.cap] 30))
    | (go_at_call 17; refine (rcrash_g HC.out HE.out (h1.below d6) (h2.below d6) (h4.below d6)).mono ?_; rintro e w7 ⟨B7, f7, B8, f8, rfl, b7, rd⟩; have hz7 := b7.size; have HI : Hid (OwnInv w w1 w3 s Y C w3.heap.size w4.heap.size w5.heap.size w6.heap.size w7.heap.size A5 A6 B1 B2 B3 B4 B5 B6 B7 B8 c5 c6 f1 f2 f3 f4 f5 f6 f7 f8 (w7.alloc (.cells #[.slice B7 C.secs.length f7, .slice B8 C.waits.length f8, .int .i64 C.cap] 25))) := ⟨d1.size, Nat.le_refl _, by simp at hz4; omega, by simp at hz4 hz5; omega, by simp at hz4 hz5 hz6; omega, by simp at hz4 hz5 hz6 hz7; omega, (y6.keep b7).alloc _, (a6.keep b7).alloc _, (bb6.keep b7).alloc _, (cc6.keep b7).alloc _, Bx.new w7 _ _, ((ro.below b7).alloc _).secs.rl (fun b t h => h.1.2), ((ro.below b7).alloc _).waits.rk (fun b t h => h.1.2), (ra.below b7).alloc _, (rb.below b7).alloc _, (rc.below b7).alloc _, (rd.mono (fun b t h => ⟨by have := h.1; simp at this; simp at hz4 hz5 hz6; omega, h.2⟩)).alloc _, below_alloc (below_then d6 b7) _⟩; have HR : Hid (Rb _ (Mine w1 w3) A7 data.length c7) := ((ri.below b7).alloc (.cells #[.slice B7 C.secs.length f7, .slice B8 C.waits.length f8, .int .i64 C.cap] 25)).rb (fun b t h => h.1.2); clear x1 x2 x3 x4 x5 x6 y3 y4 y5 y6 a4 a5 a6 bb5 bb6 cc6 ro ri ra rb rc rd k1 k3 k4 k5 k6)
    | (go_at_call 18; refine (spoil_any (Mine w1 w3) A7 data.length c7 _ HR.out).mono ?_; rintro e w8 ⟨rfl, s8⟩; have HI8 := Lib.hid (HI.out.sp s8); have k8 := HI8.out.bo.three)
    | (go_at_call 19; refine (spoil_list (Mine w1 w3) A5 s.secs.length c5 _ HI8.out.rl).mono ?_; rintro e w9 ⟨rfl, s9⟩; have HI9 := Lib.hid (HI8.out.sp s9); clear k8))
  go_loopw [19] (fun i wr => ∃ k : Nat, k ≤ s.waits.length ∧ i = .int .i64 k ∧ Hid (OwnInv w w1 w3 s Y C w3.heap.size w4.heap.size w5.heap.size w6.heap.size w7.heap.size A5 A6 B1 B2 B3 B4 B5 B6 B7 B8 c5 c6 f1 f2 f3 f4 f5 f6 f7 f8 wr)) (fun i _ => s.waits.length - (intOf i).toNat)
  case atStart => exact ⟨0, Nat.zero_le _, rfl, HI9⟩
  case round =>
    clear HI HI8 HI9 HR s8 s9 hz7 hz6 hz5 hz4 hz3 hz2 b7 b6 b5 b4 b3 b2 b1 d1 d2 d3 d4 d5 d6 x0 b0
    obtain ⟨k, hk, rfl, hinv⟩ := hrel
    have kO := hinv.out.bo.three
    by_cases hlt : k < s.waits.length
    · obtain ⟨ad, A', m, c', hA6, hc, hr⟩ := hinv.out.rk.cells k hlt
      subst hA6
      go_wp2_with (go_at_call 18; refine (spoil_any (Mine w1 w3) A' m c' _ hr).mono ?_; rintro e w' ⟨rfl, s10⟩; have HI10 := Lib.hid (hinv.out.sp s10); clear s10)
      go_roundw
      case rel => exact ⟨k + 1, by omega, by go_num, HI10⟩
      case measure => simp [intOf]; omega
    · have ka := hinv.out.ba.three
      have kb := hinv.out.bb.three
      have kc := hinv.out.bc.three
      have kd := hinv.out.bd.three
      have te : (ey == ey) = true := by simp
      have tc : (ec == ec) = true := by simp
      go_wp2_with (first
        | (go_at_call 20; ((with_reducible refine (alike_g hinv.out.ra hinv.out.rb).mono ?_); rintro e w10 ⟨rfl, b10⟩; have q1 := (hinv.out.bc.keep b10).three; have q2 := (hinv.out.bd.keep b10).three; have bl := below_then hinv.out.bl b10; clear ka kb kc kd))
        | (go_at_call 20; ((with_reducible refine (alike_g (hinv.out.rc.below b10) (hinv.out.rd.below b10)).mono ?_); rintro e w11 ⟨rfl, b11⟩))
        | (go_at_call 11; refine (num_any _ _).mono ?_; rintro e w' ⟨rfl, rfl⟩))
      go_ret
      exact ⟨rfl, below_then bl b11⟩
end Go.Proofs.Ytfmmbkggamojkaa
