/- The words of memory that this claim's texts share: what a slice reads as, what a call owns, and how both last over what a call does. No condition. -/
import Derived.WalkKit
import Derived.Below
import Derived.Deep.Draws
import Derived.Deep.AppendLies
import Derived.Maps.AppendAt
import Derived.OwnWalk
import Derived.Laws.OwnMore
import Derived.Laws.Rows
import Derived.Laws.MakeOwn
import Derived.Laws.IdiomCopy
import Derived.KernelRfl
import Derived.Laws.BytesArg
import Derived.Lib.SliceRun
set_option linter.unusedVariables false
set_option linter.unusedSimpArgs false
namespace Go.Proofs.Ytfmmbkggamojkaa
open Go.RowKit

/-- A block's element type, and what of it may not be written. -/
abbrev BT := TypeId × (Nat × Nat)
/-- A footprint: blocks by number and kind. -/
abbrev FP := Nat → BT → Prop

/-- What stood in w on S stands in w', there within S'. -/
def Kp (w w' : World) (S S' : FP) : Prop := ∀ b t c, S b t → w.heap[b]? = some (.cells c t.1 t.2) → S' b t ∧ w'.heap[b]? = some (.cells c t.1 t.2)

/-- So many elements of so many bytes are within the reach of the form. -/
def Fit (n bytes : Nat) : Prop := n * bytes ≤ 140737488351232
theorem Fit.le {n b : Nat} (h : Fit n b) : n * b ≤ 140737488351232 := h
theorem Fit.mono {n m b b' : Nat} (h : Fit n b) (hm : m ≤ n) (hb : b' ≤ b) : Fit m b' := Nat.le_trans (Nat.mul_le_mul hm hb) h
theorem Fit.zero (b : Nat) : Fit 0 b := by unfold Fit; simp

class Rep (α : Type) where
  size : Nat
  bytes : Nat
  has : World → FP → α → List Value → Prop
  pos : 0 < size
  bpos : 0 < bytes
  len : ∀ {w S x cs}, has w S x cs → cs.length = size
  one : ∀ {w S x cs}, has w S x cs → ∀ u ∈ cs, u.oneCell' = true
  move : ∀ {w w' S S' x cs}, has w S x cs → Kp w w' S S' → has w' S' x cs

/-- A slice value at A, of capacity c, reads as xs. -/
structure Rd {α : Type} [Rep α] (w : World) (S : FP) (A : Option Addr) (c : Nat) (xs : List α) : Prop where
  cap : xs.length ≤ c
  room : Fit xs.length (Rep.bytes α)
  cells : xs ≠ [] → ∃ ad cur t, A = some ad ∧ ad.spot = none ∧ w.heap[ad.block]? = some (.cells cur t.1 t.2) ∧ S ad.block t ∧
    ∀ j (hj : j < xs.length), Rep.has w S xs[j] ((cur.toList.drop (ad.off + j * Rep.size α)).take (Rep.size α))

theorem Kp.refl (w : World) (S : FP) : Kp w w S S := fun _ _ _ h k => ⟨h, k⟩
theorem Kp.mono {w : World} {S S' : FP} (h : ∀ b t, S b t → S' b t) : Kp w w S S' := fun b t _ hs k => ⟨h b t hs, k⟩
theorem Kp.trans {w w1 w2 : World} {S S1 S2 : FP} (h : Kp w w1 S S1) (k : Kp w1 w2 S1 S2) : Kp w w2 S S2 := fun b t c hs hb => have h1 := h b t c hs hb; k b t c h1.1 h1.2
/-- All that lay in w lies in w'. -/
theorem Kp.below {w w' : World} (h : Below w.heap.size w w') (S : FP) : Kp w w' S S := fun b t c hs hb => ⟨hs, by rw [h.block b (Array.getElem?_eq_some_iff.1 hb).1]; exact hb⟩
theorem Kp.alloc (w : World) (o : Obj) (S : FP) : Kp w (w.alloc o) S S := fun b t c hs hb => ⟨hs, by rw [Below.heap_alloc w o b (Array.getElem?_eq_some_iff.1 hb).1]; exact hb⟩
theorem Kp.grown {w w' : World} {row : Option Nat} (h : w.grownBy w' row) {S : FP} (hne : ∀ b t, S b t → some b ≠ row) : Kp w w' S S := fun b t c hs hb => ⟨hs, by rw [h.block b (Array.getElem?_eq_some_iff.1 hb).1 (hne b t hs)]; exact hb⟩
theorem Kp.setCell {w : World} {p : Addr} {u : Value} {S : FP} (hne : ∀ b t, S b t → b ≠ p.block) : Kp w (w.setCell p u) S S := fun b t c hs hb => ⟨hs, by rw [Below.heap_setCell w p u b (hne b t hs)]; exact hb⟩
theorem Kp.drewN (w : World) (n : Nat) (S : FP) : Kp w (w.drewN n) S S := fun _ _ _ h k => ⟨h, k⟩

section
variable {α : Type} [Rep α] {w w' : World} {S S' : FP} {A : Option Addr} {c : Nat} {xs : List α}
theorem Rd.move (h : Rd w S A c xs) (hk : Kp w w' S S') : Rd w' S' A c xs :=
  ⟨h.cap, h.room, fun hne => by
    obtain ⟨ad, cur, t, e, hs, hb, hS, hc⟩ := h.cells hne
    have h1 := hk _ _ _ hS hb
    exact ⟨ad, cur, t, e, hs, h1.2, h1.1, fun j hj => Rep.move (hc j hj) hk⟩⟩
theorem Rd.below (h : Rd w S A c xs) (hb : Below w.heap.size w w') : Rd w' S A c xs := h.move (Kp.below hb S)
theorem Rd.mono (h : Rd w S A c xs) (hS : ∀ b t, S b t → S' b t) : Rd w S' A c xs := h.move (Kp.mono hS)
theorem Rd.nil (w : World) (S : FP) (A : Option Addr) (c : Nat) : Rd (α := α) w S A c [] := ⟨Nat.zero_le _, Fit.zero _, fun h => absurd rfl h⟩
theorem Rd.len (h : Rd w S A c xs) : xs.length ≤ 140737488351232 := Nat.le_trans (Nat.le_mul_of_pos_right _ Rep.bpos) h.room.le
end

instance listRep {α : Type} [Rep α] : Rep (List α) where
  size := 1
  bytes := 24
  has w S xs cs := ∃ A c, cs = [.slice A xs.length c] ∧ Rd w S A c xs
  pos := by decide
  bpos := by decide
  len := by rintro w S x cs ⟨A, c, rfl, _⟩; rfl
  one := by rintro w S x cs ⟨A, c, rfl, _⟩ u hu; simp at hu; subst hu; rfl
  move := by rintro w w' S S' x cs ⟨A, c, rfl, h⟩ hk; exact ⟨A, c, rfl, h.move hk⟩

/-- Whole numbers of one kind, in their bounds. -/
def InK (k : IntKind) (x : Int) : Prop := (Lit.int k x).wf = true
structure Num (k : IntKind) where
  val : Int
instance numRep (k : IntKind) : Rep (Num k) where
  size := 1
  bytes := 8
  has _ _ x cs := cs = [.int k x.val] ∧ InK k x.val
  pos := by decide
  bpos := by decide
  len := by rintro w S x cs ⟨rfl, _⟩; rfl
  one := by rintro w S x cs ⟨rfl, _⟩ u hu; simp at hu; subst hu; rfl
  move := by rintro w w' S S' x cs h _; exact h
instance intRep : Rep Int where
  size := 1
  bytes := 8
  has _ _ x cs := cs = [.int .i64 x] ∧ InK .i64 x
  pos := by decide
  bpos := by decide
  len := by rintro w S x cs ⟨rfl, _⟩; rfl
  one := by rintro w S x cs ⟨rfl, _⟩ u hu; simp at hu; subst hu; rfl
  move := by rintro w w' S S' x cs h _; exact h
instance byteRep : Rep UInt8 where
  size := 1
  bytes := 1
  has _ _ x cs := cs = [.int .u8 (x.toNat : Int)]
  pos := by decide
  bpos := by decide
  len := by rintro w S x cs rfl; rfl
  one := by rintro w S x cs rfl u hu; simp at hu; subst hu; rfl
  move := by rintro w w' S S' x cs h _; exact h
instance boolRep : Rep Bool where
  size := 1
  bytes := 1
  has _ _ x cs := cs = [.bool x]
  pos := by decide
  bpos := by decide
  len := by rintro w S x cs rfl; rfl
  one := by rintro w S x cs rfl u hu; simp at hu; subst hu; rfl
  move := by rintro w w' S S' x cs h _; exact h
instance strRep : Rep ByteArray where
  size := 1
  bytes := 16
  has _ _ x cs := cs = [.string x] ∧ x.size ≤ 140737488351232
  pos := by decide
  bpos := by decide
  len := by rintro w S x cs ⟨rfl, _⟩; rfl
  one := by rintro w S x cs ⟨rfl, _⟩ u hu; simp at hu; subst hu; rfl
  move := by rintro w w' S S' x cs h _; exact h
instance pairRep {α β : Type} [Rep α] [Rep β] : Rep (α × β) where
  size := Rep.size α + Rep.size β
  bytes := Rep.bytes α + Rep.bytes β
  has w S x cs := ∃ c1 c2, cs = c1 ++ c2 ∧ Rep.has w S x.1 c1 ∧ Rep.has w S x.2 c2
  pos := Nat.add_pos_left Rep.pos _
  bpos := Nat.add_pos_left Rep.bpos _
  len := by rintro w S x cs ⟨c1, c2, rfl, h1, h2⟩; rw [List.length_append, Rep.len h1, Rep.len h2]
  one := by
    rintro w S x cs ⟨c1, c2, rfl, h1, h2⟩ u hu
    rcases List.mem_append.1 hu with h | h
    · exact Rep.one h1 u h
    · exact Rep.one h2 u h
  move := by rintro w w' S S' x cs ⟨c1, c2, rfl, h1, h2⟩ hk; exact ⟨c1, c2, rfl, Rep.move h1 hk, Rep.move h2 hk⟩
/-- A type that is told by another one. -/
@[reducible] def Rep.iso {α β : Type} [Rep α] (f : β → α) (bytes : Nat) (hb : 0 < bytes) : Rep β where
  size := Rep.size α
  bytes := bytes
  has w S x cs := Rep.has w S (f x) cs
  pos := Rep.pos
  bpos := hb
  len := Rep.len
  one := Rep.one
  move := Rep.move

/-! ### Reading one element -/
section
variable {α : Type} [Rep α] {w w' : World} {S S' : FP} {A : Option Addr} {c : Nat} {xs : List α}
theorem take_drop_get {l : List Value} {a s k : Nat} (hk : k < s) (h : ((l.drop a).take s).length = s) : ∃ v, l[a + k]? = some v ∧ ((l.drop a).take s)[k]? = some v := by
  have h1 : k < ((l.drop a).take s).length := by omega
  refine ⟨((l.drop a).take s)[k], ?_, List.getElem?_eq_getElem h1⟩
  rw [← List.getElem?_drop, ← List.getElem?_eq_getElem h1, List.getElem?_take, if_pos hk]
theorem Rd.at_ (h : Rd w S A c xs) (j : Nat) (hj : j < xs.length) :
    ∃ ad cs, A = some ad ∧ Rep.has w S xs[j] cs ∧ ad.spot = none ∧ ∀ k v, cs[k]? = some v → w.cell? ⟨ad.block, ad.off + j * Rep.size α + k, none⟩ = some v := by
  obtain ⟨ad, cur, t, e, hs, hb, hS, hc⟩ := h.cells (by intro h0; subst h0; simp at hj)
  refine ⟨ad, _, e, hc j hj, hs, fun k v hv => ?_⟩
  have hl := Rep.len (hc j hj)
  have hk : k < Rep.size α := by rw [← hl]; exact (List.getElem?_eq_some_iff.1 hv).1
  obtain ⟨u, h1, h2⟩ := take_drop_get hk hl
  rw [h2] at hv
  cases hv
  rw [cell_of_row w ad.block _ cur t.1 t.2 hb, ← Array.getElem?_toList]
  exact h1
theorem add_eq' (ad : Addr) (hs : ad.spot = none) (n : Nat) : ad.add n = ⟨ad.block, ad.off + n, none⟩ := by
  unfold Addr.add
  split
  · rename_i h; subst h; cases ad; simp_all
  · rfl
/-- An element's cells, as the walk reads them. -/
theorem Rd.atk (h : Rd w S A c xs) (j : Nat) (hj : j < xs.length) : ∃ ad cs, A = some ad ∧ Rep.has w S xs[j] cs ∧ (∀ v, cs[0]? = some v → w.cell? (ad.add (j * Rep.size α)) = some v) ∧
    ∀ k v, cs[k]? = some v → w.cell? ⟨(ad.add (j * Rep.size α)).block, (ad.add (j * Rep.size α)).off + k, none⟩ = some v := by
  obtain ⟨ad, cs, e, hh, hs, hc⟩ := h.at_ j hj
  refine ⟨ad, cs, e, hh, fun v hv => ?_, fun k v hv => ?_⟩
  · rw [add_eq' ad hs]; exact hc 0 v hv
  · rw [add_eq' ad hs]; exact hc k v hv
/-- An element of one cell. -/
theorem Rd.at1 (h : Rd w S A c xs) (hsz : Rep.size α = 1) (j : Nat) (hj : j < xs.length) : ∃ ad v, A = some ad ∧ w.cell? (ad.add j) = some v ∧ Rep.has w S xs[j] [v] := by
  obtain ⟨ad, cs, e, hh, hs, hc⟩ := h.at_ j hj
  have hl := Rep.len hh
  rw [hsz] at hl
  obtain ⟨v, rfl⟩ := List.length_eq_one_iff.1 hl
  refine ⟨ad, v, e, ?_, hh⟩
  have := hc 0 v rfl
  rw [hsz, Nat.mul_one, Nat.add_zero] at this
  rw [add_eq' ad hs]
  exact this
theorem add_eq (ad : Addr) (hs : ad.spot = none) (n : Nat) : ad.add n = ⟨ad.block, ad.off + n, none⟩ := by
  unfold Addr.add
  split
  · rename_i h; subst h; cases ad; simp_all
  · rfl
end

/-! ### What a call owns -/
/-- A slice value that starts its own block, not frozen; its elements lie elsewhere. -/
inductive Ow {α : Type} [Rep α] (w : World) (e : TypeId) (S : FP) : Value → List α → Prop where
  | nil_ : Ow w e S (.slice none 0 0) []
  | row_ (g cap : Nat) (cur : Array Value) (xs : List α) (hb : w.heap[g]? = some (.cells cur e (0, 0))) (hS : S g (e, 0, 0)) (hc : xs.length ≤ cap) (hm : cap ≤ maxLen) (hz : cur.size = cap * Rep.size α)
      (hr : Fit xs.length (Rep.bytes α))
      (h : ∀ j (hj : j < xs.length), Rep.has w (fun b t => S b t ∧ b ≠ g) xs[j] ((cur.toList.drop (j * Rep.size α)).take (Rep.size α))) : Ow w e S (.slice (some ⟨g, 0, none⟩) xs.length cap) xs

section
variable {α : Type} [Rep α] {w w' : World} {e : TypeId} {S S' : FP} {v : Value} {xs : List α}
theorem Ow.rd (h : Ow w e S v xs) : ∃ A c, v = .slice A xs.length c ∧ Rd w S A c xs := by
  cases h with
  | nil_ => exact ⟨_, _, rfl, Rd.nil _ _ _ _⟩
  | row_ g cap cur xs hb hS hc hm hz hr h =>
    refine ⟨_, _, rfl, hc, hr, fun _ => ⟨⟨g, 0, none⟩, cur, (e, 0, 0), rfl, rfl, hb, hS, fun j hj => ?_⟩⟩
    simpa using Rep.move (h j hj) (Kp.mono fun b t h => h.1)
theorem Ow.move (h : Ow w e S v xs) (hk : Kp w w' S S') : Ow w' e S' v xs := by
  cases h with
  | nil_ => exact .nil_
  | row_ g cap cur xs hb hS hc hm hz hr h =>
    have h1 := hk g (e, 0, 0) _ hS hb
    exact .row_ g cap cur xs h1.2 h1.1 hc hm hz hr fun j hj => Rep.move (h j hj) fun b t c hs hb => ⟨⟨(hk b t c hs.1 hb).1, hs.2⟩, (hk b t c hs.1 hb).2⟩
theorem Ow.below (h : Ow w e S v xs) (hb : Below w.heap.size w w') : Ow w' e S v xs := h.move (Kp.below hb S)
theorem Ow.mono (h : Ow w e S v xs) (hS : ∀ b t, S b t → S' b t) : Ow w e S' v xs := h.move (Kp.mono hS)
theorem flatten_get {css : List (List Value)} {s : Nat} (h : ∀ cs ∈ css, cs.length = s) : ∀ j, j < css.length → (css.flatten.drop (j * s)).take s = css[j]?.getD [] := by
  induction css with
  | nil => intro j hj; simp at hj
  | cons c css ih =>
    intro j hj
    have hc := h c (by simp)
    cases j with
    | zero => simp [← hc]
    | succ j =>
      have := ih (fun cs hcs => h cs (by simp [hcs])) j (by simpa using hj)
      rw [List.flatten_cons, show (j + 1) * s = s + j * s by rw [Nat.add_mul]; omega, ← List.drop_drop, ← hc, List.drop_left, hc, this]
      simp
/-- The cells of elements that are told one by one. -/
theorem gather {xs : List α} {f : Nat → List Value} {w : World} {S : FP} (h : ∀ j (hj : j < xs.length), Rep.has w S xs[j] (f j)) : ((List.range xs.length).map f).flatten.length = xs.length * Rep.size α ∧
    (∀ u ∈ ((List.range xs.length).map f).flatten, u.oneCell' = true) ∧ ∀ j (hj : j < xs.length), ((((List.range xs.length).map f).flatten.drop (j * Rep.size α)).take (Rep.size α)) = f j := by
  have hl : ∀ cs ∈ (List.range xs.length).map f, cs.length = Rep.size α := by
    intro cs hcs
    obtain ⟨j, hj, rfl⟩ := List.mem_map.1 hcs
    exact Rep.len (h j (List.mem_range.1 hj))
  refine ⟨?_, ?_, ?_⟩
  · rw [List.length_flatten]
    have : ((List.range xs.length).map f).map List.length = (List.range xs.length).map fun _ => Rep.size α := by
      rw [List.map_map]
      apply List.map_congr_left
      intro j hj
      exact Rep.len (h j (List.mem_range.1 hj))
    rw [this, List.map_const', List.sum_replicate_nat, List.length_range]
  · intro u hu
    obtain ⟨cs, hcs, hu⟩ := List.mem_flatten.1 hu
    obtain ⟨j, hj, rfl⟩ := List.mem_map.1 hcs
    exact Rep.one (h j (List.mem_range.1 hj)) u hu
  · intro j hj
    rw [flatten_get hl j (by simpa using hj)]
    simp [hj]
theorem take_take_drop {l : List Value} {n s j : Nat} (hj : j < n) : ((l.take (n * s)).drop (j * s)).take s = (l.drop (j * s)).take s := by
  have h1 : j * s + s ≤ n * s := by have := Nat.mul_le_mul_right s hj; rw [Nat.succ_mul] at this; exact this
  rw [List.drop_take, List.take_take, Nat.min_eq_left (by omega)]
/-- In the kit's own words. -/
theorem Ow.row (h : Ow w e S v xs) {base : Nat} (hbase : ∀ b t, S b t → base ≤ b) : ∃ cells, w.ownsRow base e (Rep.size α) v xs.length cells ∧ (∀ j (hj : j < xs.length), Rep.has w (fun b t => S b t ∧ v.ownBlock ≠ some b) xs[j] ((cells.drop (j * Rep.size α)).take (Rep.size α))) ∧ Fit xs.length (Rep.bytes α) ∧ (∀ g, v.ownBlock = some g → S g (e, 0, 0)) := by
  cases h with
  | nil_ => exact ⟨[], ⟨by simp, .inl ⟨rfl, rfl⟩⟩, fun j hj => by simp at hj, Fit.zero _, fun g hg => by simp [Value.ownBlock] at hg⟩
  | row_ g cap cur xs hb hS hc hm hz hr h =>
    have hle : xs.length * Rep.size α ≤ cap * Rep.size α := Nat.mul_le_mul_right _ hc
    have e0 : cur.toList.length = cap * Rep.size α := by rw [Array.length_toList]; exact hz
    refine ⟨cur.toList.take (xs.length * Rep.size α), ⟨by rw [List.length_take, e0]; exact Nat.min_eq_left hle, .inr ⟨g, cap, cur, rfl, hbase _ _ hS, hb, hc, hm, hz, rfl⟩⟩, fun j hj => ?_, hr, fun g' hg' => ?_⟩
    · rw [take_take_drop hj]
      exact Rep.move (h j hj) (Kp.mono fun b t h => ⟨h.1, fun e => h.2 (by simpa [Value.ownBlock] using e.symm)⟩)
    · have : g = g' := by simpa [Value.ownBlock] using hg'
      subst this
      exact hS
/-- .. and back. -/
theorem Ow.of_row {base : Nat} {cells : List Value} (h : w.ownsRow base e (Rep.size α) v xs.length cells) (hS : ∀ g, v.ownBlock = some g → S g (e, 0, 0)) (hr : Fit xs.length (Rep.bytes α))
    (hc : ∀ j (hj : j < xs.length), Rep.has w (fun b t => S b t ∧ v.ownBlock ≠ some b) xs[j] ((cells.drop (j * Rep.size α)).take (Rep.size α))) : Ow w e S v xs := by
  rcases h.2 with ⟨rfl, h0⟩ | ⟨g, cap, cur, rfl, hg, hb, hn, hm, hz, hcs⟩
  · have : xs = [] := List.eq_nil_of_length_eq_zero h0
    subst this
    exact .nil_
  · refine .row_ g cap cur xs hb (hS g rfl) hn hm hz hr fun j hj => ?_
    have := hc j hj
    rw [← hcs, take_take_drop hj] at this
    exact Rep.move this (Kp.mono fun b t h => ⟨h.1, fun e => h.2 (by rw [e]; rfl)⟩)
end

/-! ### append -/
section
variable {α : Type} [Rep α] {P : Program} {w : World} {e : TypeId} {S S2 : FP} {v : Value} {xs ys : List α}
/-- 'append(v, ys...)', v the call's own, ys whatever is read: the elements' inner memory is shared. -/
theorem run_app (t ty : TypeId) (z : Value) (ht : P.underlying t = some (.slice e)) (hinfo : (P.info? e).map (fun i => (i.zero, i.size, i.bytes)) = some (some z, Rep.size α, Rep.bytes α)) (hzs : z.cells.size = Rep.size α)
    (hv : Ow w e S v xs) (A : Option Addr) (c : Nat) (hy : Rd w S2 A c ys) (hap : ∀ b t, S2 b t → v.ownBlock ≠ some b) (hr : Fit (xs.length + ys.length) (Rep.bytes α)) :
    ∃ v' w', (Builtin.append_ #[t, t] ty #[v, .slice A ys.length c]).run P w = .ok v' w' ∧ w.grownBy w' v.ownBlock ∧ (v'.ownBlock = v.ownBlock ∨ v'.ownBlock = some w.heap.size) ∧
      ∀ S' : FP, (∀ b t, S b t → b < w.heap.size → S' b t) → (∀ b t, S2 b t → b < w.heap.size → S' b t) → S' w.heap.size (e, 0, 0) → Ow w' e S' v' (xs ++ ys) := by
  obtain ⟨i, hi, hzz⟩ := Option.map_eq_some_iff.1 hinfo
  simp only [Prod.mk.injEq] at hzz
  obtain ⟨hz0, hz1, hz2⟩ := hzz
  obtain ⟨cells, hown, hcs, hrm, hSo⟩ := hv.row (base := 0) (fun _ _ _ => Nat.zero_le _)
  have hpos := Rep.pos (α := α)
  by_cases hne : ys = []
  · subst hne
    have hrun : (Builtin.append_ #[t, t] ty #[v, .slice A (0 : Nat) c]).run P w = .ok v w := by
      rcases hown.2 with ⟨rfl, hn⟩ | ⟨g, cap, cur, rfl, _, _, hnc, _⟩
      · rcases A with _ | ad <;> simp [Builtin.append_, run_underlying ht, sizeOf, typeInfo, hi, Builtin.lenOf, Builtin.firstCells, loadCells, loadCellsFrom]
      · rcases A with _ | ad <;> simp [Builtin.append_, run_underlying ht, sizeOf, typeInfo, hi, Builtin.lenOf, Builtin.firstCells, hnc, storeCells, loadCells, loadCellsFrom]
    refine ⟨v, w, hrun, World.grownBy.refl w _, .inl rfl, fun S' h1 _ _ => ?_⟩
    rw [List.append_nil]
    exact hv.move fun b t c hs hb => ⟨h1 b t hs (Array.getElem?_eq_some_iff.1 hb).1, hb⟩
  · obtain ⟨ad, cur, u, rfl, hsp, hb, hS2, hyc⟩ := hy.cells hne
    obtain ⟨hl, h1, hget⟩ := gather hyc
    have hl63 : xs.length + ys.length ≤ maxLen := by
      have := Nat.le_mul_of_pos_right (xs.length + ys.length) (Rep.bpos (α := α))
      have := hr.le
      simp only [maxLen]
      omega
    have hnews : ∀ j q, (((List.range ys.length).map fun j => (cur.toList.drop (ad.off + j * Rep.size α)).take (Rep.size α)).flatten)[j]? = some q → w.cell? (ad.add j) = some q := by
      intro j q hq
      have hlt : j < ((List.range ys.length).map fun j => (cur.toList.drop (ad.off + j * Rep.size α)).take (Rep.size α)).flatten.length := (List.getElem?_eq_some_iff.1 hq).1
      rw [hl] at hlt
      have hdiv : j / Rep.size α < ys.length := Nat.div_lt_of_lt_mul (by rw [Nat.mul_comm]; exact hlt)
      have hmod : j % Rep.size α < Rep.size α := Nat.mod_lt _ hpos
      have hjj : j / Rep.size α * Rep.size α + j % Rep.size α = j := by rw [Nat.mul_comm]; exact Nat.div_add_mod j _
      obtain ⟨u1, hu1, hu2⟩ := take_drop_get hmod (Rep.len (hyc _ hdiv))
      have hq' : ((((List.range ys.length).map fun j => (cur.toList.drop (ad.off + j * Rep.size α)).take (Rep.size α)).flatten.drop (j / Rep.size α * Rep.size α)).take (Rep.size α))[j % Rep.size α]? = some q := by
        rw [List.getElem?_take, if_pos hmod, List.getElem?_drop, hjj]
        exact hq
      rw [hget _ hdiv, hu2] at hq'
      cases hq'
      rw [add_eq ad hsp, cell_of_row w ad.block _ cur u.1 u.2 hb, ← Array.getElem?_toList, ← hjj, ← Nat.add_assoc]
      exact hu1
    obtain ⟨v', w', hrun, hown', hg, _, hat⟩ := run_append_own_at (P := P) w 0 t ty e i z (Rep.size α) (Rep.bytes α) ht hi hz0 hz1 hz2 hzs hpos v xs.length cells hown ad ys.length c _ hl hnews h1 hl63 (by have := hr.le; omega) (Nat.zero_le _)
    refine ⟨v', w', hrun, hg, hat, fun S' hS1 hS2' hnew => Ow.of_row (base := 0) (by rw [List.length_append]; exact hown') ?_ (by rw [List.length_append]; exact hr) fun j hj => ?_⟩
    · intro g hg'
      rcases hat with h | h
      · rw [h] at hg'
        have := hSo g hg'
        rcases hown.2 with ⟨rfl, _⟩ | ⟨g0, cap, cur0, rfl, _, hb0, _⟩
        · simp [Value.ownBlock] at hg'
        · have : g0 = g := by simpa [Value.ownBlock] using hg'
          subst this
          exact hS1 _ _ this (Array.getElem?_eq_some_iff.1 hb0).1
      · rw [h] at hg'
        have : w.heap.size = g := by simpa using hg'
        subst this
        exact hnew
    · have hne' : ∀ b (t : BT) c, w.heap[b]? = some (.cells c t.1 t.2) → v.ownBlock ≠ some b → v'.ownBlock ≠ some b := by
        intro b t c hb hn
        rcases hat with h | h
        · rw [h]; exact hn
        · rw [h]
          intro e
          have : w.heap.size = b := by simpa using e
          have := (Array.getElem?_eq_some_iff.1 hb).1
          omega
      rcases Nat.lt_or_ge j xs.length with hjx | hjx
      · rw [List.getElem_append_left hjx]
        have h2 : j * Rep.size α + Rep.size α ≤ cells.length := by rw [hown.1]; have := Nat.mul_le_mul_right (Rep.size α) hjx; rw [Nat.succ_mul] at this; exact this
        rw [List.drop_append_of_le_length (by omega), List.take_append_of_le_length (by rw [List.length_drop]; omega)]
        exact Rep.move (hcs j hjx) fun b t c hs hb => ⟨⟨hS1 b t hs.1 (Array.getElem?_eq_some_iff.1 hb).1, hne' b t c hb hs.2⟩, by rw [hg.block b (Array.getElem?_eq_some_iff.1 hb).1 (fun e => hs.2 e.symm)]; exact hb⟩
      · rw [List.getElem_append_right hjx]
        have hj2 : j - xs.length < ys.length := by rw [List.length_append] at hj; omega
        have h3 : (cells ++ ((List.range ys.length).map fun j => (cur.toList.drop (ad.off + j * Rep.size α)).take (Rep.size α)).flatten).drop (j * Rep.size α) = (((List.range ys.length).map fun j => (cur.toList.drop (ad.off + j * Rep.size α)).take (Rep.size α)).flatten).drop ((j - xs.length) * Rep.size α) := by
          rw [List.drop_append, List.drop_eq_nil_of_le (by rw [hown.1]; exact Nat.mul_le_mul_right _ hjx), List.nil_append, hown.1, Nat.sub_mul]
        rw [h3, hget _ hj2]
        exact Rep.move (hyc _ hj2) fun b t c hs hb => ⟨⟨hS2' b t hs (Array.getElem?_eq_some_iff.1 hb).1, hne' b t c hb (hap b t hs)⟩, by rw [hg.block b (Array.getElem?_eq_some_iff.1 hb).1 (fun e => hap b t hs e.symm)]; exact hb⟩
end
/-- Elements that lead nowhere. -/
class Flat (α : Type) [Rep α] : Prop where
  any : ∀ {w w' S S'} {x : α} {cs}, Rep.has w S x cs → Rep.has w' S' x cs
instance (k : IntKind) : Flat (Num k) := ⟨fun h => h⟩
instance : Flat Int := ⟨fun h => h⟩
instance : Flat UInt8 := ⟨fun h => h⟩
instance : Flat Bool := ⟨fun h => h⟩
instance : Flat ByteArray := ⟨fun h => h⟩

section
variable {α : Type} [Rep α] {P : Program} {w w0 : World} {e : TypeId} {S S2 : FP} {v : Value} {xs ys : List α}
theorem Ow.flat [Flat α] (h : Ow w e S v xs) {S' : FP} (hS : ∀ g, v.ownBlock = some g → S' g (e, 0, 0)) : Ow w e S' v xs := by
  cases h with
  | nil_ => exact .nil_
  | row_ g cap cur xs hb _ hc hm hz hr h => exact .row_ g cap cur xs hb (hS g rfl) hc hm hz hr fun j hj => Flat.any (h j hj)
/-- An empty literal. -/
theorem Ow.lit0 (w : World) (e : TypeId) (S : FP) (hS : S w.heap.size (e, 0, 0)) : Ow (α := α) (w.alloc (.cells #[] e)) e S (.slice (some ⟨w.heap.size, 0, none⟩) 0 0) [] :=
  .row_ w.heap.size 0 #[] [] (heap_alloc_new w _) hS (Nat.le_refl _) (Nat.zero_le _) (by simp) (Fit.zero _) (fun j hj => by simp at hj)
theorem Ow.lt (h : Ow w e S v xs) : ∀ g, v.ownBlock = some g → g < w.heap.size := by
  cases h with
  | nil_ => intro g hg; simp [Value.ownBlock] at hg
  | row_ g cap cur xs hb _ hc hm hz hr h => intro g' hg; have : g = g' := by simpa [Value.ownBlock] using hg
                                            subst this; exact (Array.getElem?_eq_some_iff.1 hb).1
theorem Ow.at_S (h : Ow w e S v xs) : ∀ g, v.ownBlock = some g → S g (e, 0, 0) := by
  cases h with
  | nil_ => intro g hg; simp [Value.ownBlock] at hg
  | row_ g cap cur xs hb hS hc hm hz hr h => intro g' hg; have : g = g' := by simpa [Value.ownBlock] using hg
                                             subst this; exact hS
/-- 'append(v, ys...)' in the walk, behind 'at_builtin'. -/
theorem wl_app {ops : Array Oper} {rest : List Oper} {o : Oper} {a : Act} {Q : Exit → Act → World → Prop} (hgd : o.guard = none) (s x : Operand) (t : TypeId) (z : Value)
    (ho : o.op = .call { callee := .builtin .append, args := #[s, x], argTypes := #[t, t] })
    (ht : P.underlying t = some (.slice e)) (hinfo : (P.info? e).map (fun i => (i.zero, i.size, i.bytes)) = some (some z, Rep.size α, Rep.bytes α)) (hzs : z.cells.size = Rep.size α)
    (A : Option Addr) (c : Nat) (hs : a.eval s = v) (hx : a.eval x = .slice A ys.length c) (hv : Ow w e S v xs) (hy : Rd w S2 A c ys) (hap : ∀ b t, S2 b t → v.ownBlock ≠ some b)
    (hr : Fit (xs.length + ys.length) (Rep.bytes α))
    (h : ∀ v' w', w.grownBy w' v.ownBlock → (v'.ownBlock = v.ownBlock ∨ v'.ownBlock = some w.heap.size) →
      (∀ S' : FP, (∀ b t, S b t → b < w.heap.size → S' b t) → (∀ b t, S2 b t → b < w.heap.size → S' b t) → S' w.heap.size (e, 0, 0) → Ow w' e S' v' (xs ++ ys)) → wpList P ops Q rest (a.put o.dst v') w') : wpList P ops Q (o :: rest) a w := by
  obtain ⟨v', w', hrun, h2, h3, h4⟩ := run_app (P := P) t o.type z ht hinfo hzs hv A c hy hap hr
  refine wpList_plain hgd fun K hK => ?_
  unfold Oper.wp execOp
  simp only [ho, resolve, invoke, builtin, Sem.run_bind, Sem.run_pure, Result.andThen_ok, List.map_toArray, List.map_cons, List.map_nil, hs, hx, hrun]
  exact hK _ _ (h v' w' h2 h3 h4)
/-- What lies below g isn't g's. -/
theorem ap_lt {S2 : FP} {g n c : Nat} (h : ∀ b t, S2 b t → b < g) : ∀ b t, S2 b t → (Value.slice (some ⟨g, 0, none⟩) n c).ownBlock ≠ some b := fun b t hs e => by
  have : g = b := by simpa [Value.ownBlock] using e
  have := h b t hs
  omega
/-- What 'append(s[:0:0], s...)' comes to. -/
theorem clone_end {w w' : World} {e : TypeId} {S : FP} {v' : Value} {xs : List α} (hg : (w.alloc (.cells #[] e)).grownBy w' (Value.slice (some ⟨w.heap.size, 0, none⟩) 0 0).ownBlock)
    (hat : v'.ownBlock = (Value.slice (some ⟨w.heap.size, 0, none⟩) 0 0).ownBlock ∨ v'.ownBlock = some (w.alloc (.cells #[] e)).heap.size)
    (hn : ∀ S' : FP, (∀ b t, (w.heap.size ≤ b ∧ t = (e, 0, 0)) → b < (w.alloc (.cells #[] e)).heap.size → S' b t) → (∀ b t, (S b t ∧ b < w.heap.size) → b < (w.alloc (.cells #[] e)).heap.size → S' b t) → S' (w.alloc (.cells #[] e)).heap.size (e, 0, 0) → Ow w' e S' v' ([] ++ xs)) :
    Below w.heap.size w w' ∧ (∀ g, v'.ownBlock = some g → w.heap.size ≤ g) ∧ Ow w' e (fun b t => (S b t ∧ b < w.heap.size) ∨ (w.heap.size ≤ b ∧ t = (e, 0, 0))) v' xs := by
  refine ⟨((Below.refl _ w).alloc (Nat.le_refl _) _).grown hg (by simp) (by simp [Value.ownBlock]), fun g hg' => ?_, ?_⟩
  · rcases hat with h | h
    · rw [h] at hg'; simp [Value.ownBlock] at hg'; omega
    · rw [h] at hg'; simp at hg'; omega
  · exact hn _ (fun b t h _ => .inr h) (fun b t h _ => .inl h) (.inr ⟨by simp, rfl⟩)
theorem nil_of_none {w : World} {S : FP} {c : Nat} {xs : List α} (h : Rd w S none c xs) : xs = [] := by
  rcases xs with _ | ⟨x, xs⟩
  · rfl
  · obtain ⟨ad, _, _, e, _⟩ := h.cells (by simp)
    cases e
theorem Rd.old {w : World} {S : FP} {A : Option Addr} {c : Nat} {xs : List α} (h : Rd w S A c xs) : Rd w (fun b t => S b t ∧ b < w.heap.size) A c xs := h.move fun b t c hs hb => ⟨⟨hs, (Array.getElem?_eq_some_iff.1 hb).1⟩, hb⟩
theorem Rd.alloc {w : World} {S : FP} {A : Option Addr} {c : Nat} {xs : List α} (h : Rd w S A c xs) (o : Obj) : Rd (w.alloc o) S A c xs := h.move (Kp.alloc w o S)
theorem below_alloc {w W : World} (h : Below w.heap.size w W) (o : Obj) : Below w.heap.size w (W.alloc o) := h.alloc h.size o
theorem below_drewN {B : Nat} {w W : World} (h : Below B w W) (n : Nat) : Below B w (W.drewN n) := ⟨h.os, h.tape, h.output, h.size, h.block⟩
theorem below_then {w w1 w2 : World} (h : Below w.heap.size w w1) (k : Below w1.heap.size w1 w2) : Below w.heap.size w w2 := h.trans (k.mono h.size)
theorem bcell {W w1 : World} (hb : Below W.heap.size W w1) : (∀ b o, b < W.heap.size → w1.cell? ⟨b, o, none⟩ = W.cell? ⟨b, o, none⟩) ∧ (∀ b o, b < W.heap.size → w1.frozen? ⟨b, o, none⟩ = W.frozen? ⟨b, o, none⟩) :=
  ⟨fun b o h => hb.cell (p := ⟨b, o, none⟩) h, fun b o h => hb.frozen (p := ⟨b, o, none⟩) h⟩
end
/-- 'string(b)'. -/
theorem run_str {P : Program} {w : World} {S : FP} {A : Option Addr} {c : Nat} {xs : List UInt8} (h : Rd w S A c xs) (src e dst : TypeId) (hs : P.underlying src = some (.slice e)) (he : P.underlying e = some (.int .u8)) (hd : P.underlying dst = some .string) :
    (convert src dst (.slice A xs.length c)).run P w = .ok (.string ⟨xs.toArray⟩) w := by
  rcases A with _ | ad
  · obtain rfl := nil_of_none h
    exact run_convert_bytes_nil w src e hs he _ _ dst hd
  · by_cases hne : xs = []
    · subst hne
      rw [run_convert_bytes_string w src dst e _ _ _ hs he hd]
      simp [Conv.bytesToString, loadCells, loadCellsFrom]
      rfl
    · obtain ⟨ad', cur, t, e', hsp, hb, hS, hc⟩ := h.cells hne
      cases e'
      have key := run_convert_bytes_arg (P := P) w src e hs he ad.block ad.off xs.length c (xs.map fun b => (b.toNat : Int)) (by simp) (fun i hi => by
        obtain ⟨ad2, v, e2, hv, hh⟩ := h.at1 rfl i hi
        cases e2
        rw [add_eq' ad hsp] at hv
        simp only [Rep.has, List.cons.injEq, and_true] at hh
        rw [hv, hh]
        simp [List.getD_eq_getElem?_getD, List.getElem?_eq_getElem hi]) dst hd
      have e1 : (⟨ad.block, ad.off, none⟩ : Addr) = ad := by cases ad; simp_all
      rw [e1] at key
      rw [key]
      simp only [strOfNums, List.map_map]
      congr 3
      show (List.map (fun b : UInt8 => UInt8.ofNat ((b.toNat : Int).toNat)) xs).toArray = xs.toArray
      simp
/-- Behind an append, from one's own beginning on. -/
theorem below_app {w W W' : World} {v : Value} (h : Below w.heap.size w W) (hg : W.grownBy W' v.ownBlock) (hv : ∀ g, v.ownBlock = some g → w.heap.size ≤ g) : Below w.heap.size w W' := h.grown hg h.size hv
section
variable {α : Type} [Rep α] {P : Program} {w : World} {e : TypeId} {S S2 : FP} {v : Value} {xs : List α}
theorem Rd.lit1 (w : World) (e : TypeId) {S : FP} {x : α} {cs : List Value} (h : Rep.has w S x cs) (hf : Fit 1 (Rep.bytes α)) : Rd (w.alloc (.cells cs.toArray e)) (fun b t => (S b t ∧ b < w.heap.size) ∨ (b = w.heap.size ∧ t = (e, 0, 0))) (some ⟨w.heap.size, 0, none⟩) 1 [x] :=
  ⟨Nat.le_refl _, hf, fun _ => ⟨_, cs.toArray, (e, 0, 0), rfl, rfl, heap_alloc_new w _, .inr ⟨rfl, rfl⟩, fun j hj => by
    obtain rfl : j = 0 := by simpa using hj
    have h1 : (List.drop (0 + 0 * Rep.size α) cs.toArray.toList).take (Rep.size α) = cs := by
      have := Rep.len h
      simp [← this]
    rw [h1]
    exact Rep.move h fun b t c hs hb => ⟨.inl ⟨hs, (Array.getElem?_eq_some_iff.1 hb).1⟩, (Kp.alloc w _ S b t c hs hb).2⟩⟩⟩
/-- 'append(v, x)' in the walk, behind 'at_builtin'. -/
theorem wl_app1 {ops : Array Oper} {rest : List Oper} {o : Oper} {a : Act} {Q : Exit → Act → World → Prop} {x : α} {cs : List Value} (hgd : o.guard = none) (s y : Operand) (t : TypeId) (z : Value)
    (ho : o.op = .call { callee := .builtin .append, args := #[s, y], argTypes := #[t, t] })
    (ht : P.underlying t = some (.slice e)) (hinfo : (P.info? e).map (fun i => (i.zero, i.size, i.bytes)) = some (some z, Rep.size α, Rep.bytes α)) (hzs : z.cells.size = Rep.size α)
    {B : Nat} (hs : a.eval s = v) (hx : a.eval y = .slice (some ⟨B, 0, none⟩) 1 1) (hB : B = w.heap.size) (hv : Ow w e S v xs) (hy : Rep.has w S2 x cs) (hap : ∀ b t, S2 b t → v.ownBlock ≠ some b)
    (hr : Fit (xs.length + 1) (Rep.bytes α))
    (h : ∀ v' w', w.grownBy w' v.ownBlock → (v'.ownBlock = v.ownBlock ∨ ∃ g, v'.ownBlock = some g ∧ w.heap.size ≤ g) →
      (∀ S' : FP, (∀ b t, S b t → b < w.heap.size → S' b t) → (∀ b t, S2 b t → b < w.heap.size → S' b t) → (∀ b, w.heap.size ≤ b → S' b (e, 0, 0)) → Ow w' e S' v' (xs ++ [x])) → wpList P ops Q rest (a.put o.dst v') w') :
    wpList P ops Q (o :: rest) a (w.alloc (.cells cs.toArray e)) := by
  subst hB
  have hv1 : Ow (w.alloc (.cells cs.toArray e)) e (fun b t => S b t ∧ b < w.heap.size) v xs := hv.move fun b t c hs hb => ⟨⟨hs, (Array.getElem?_eq_some_iff.1 hb).1⟩, (Kp.alloc w _ S b t c hs hb).2⟩
  refine wl_app hgd s y t z ho ht hinfo hzs _ _ hs hx hv1 (Rd.lit1 w e hy (hr.mono (by omega) (Nat.le_refl _))) (fun b t h => ?_) hr fun v' w' hg hat hn => h v' w' ?_ ?_ fun S' h1 h2 h3 => ?_
  · rcases h with h | h
    · exact hap b t h.1
    · intro e
      have := hv.lt b e
      omega
  · exact World.grownBy.trans (World.grownBy_alloc w _ _) hg
  · rcases hat with h | h
    · exact .inl h
    · exact .inr ⟨_, h, by simp⟩
  · refine hn S' (fun b t h _ => h1 b t h.1 h.2) (fun b t h _ => ?_) (h3 _ (by simp))
    rcases h with h | h
    · exact h2 b t h.1 h.2
    · rw [h.1, h.2]; exact h3 _ (Nat.le_refl _)
end
theorem keep_cell {W w1 : World} {b o : Nat} {v : Value} (hb : Below W.heap.size W w1) (h : W.cell? ⟨b, o, none⟩ = some v) : w1.cell? ⟨b, o, none⟩ = some v := (hb.cell (World.block_lt_of_cell? W _ h)).trans h
/-- A variable's block, known whole. -/
structure Bx (w : World) (g : Nat) (cs : List Value) (t : TypeId) : Prop where
  blk : w.heap[g]? = some (.cells cs.toArray t (0, 0))
section
variable {w w1 : World} {g : Nat} {cs : List Value} {t : TypeId}
theorem Bx.lt (h : Bx w g cs t) : g < w.heap.size := (Array.getElem?_eq_some_iff.1 h.blk).1
theorem Bx.keep (h : Bx w g cs t) (hb : Below w.heap.size w w1) : Bx w1 g cs t := ⟨(hb.block g h.lt).trans h.blk⟩
theorem Bx.new (w : World) (cs : List Value) (t : TypeId) : Bx (w.alloc (.cells cs.toArray t)) w.heap.size cs t := ⟨heap_alloc_new w _⟩
theorem Bx.alloc (h : Bx w g cs t) (o : Obj) : Bx (w.alloc o) g cs t := ⟨(Below.heap_alloc w o g h.lt).trans h.blk⟩
theorem Bx.drewN (h : Bx w g cs t) (n : Nat) : Bx (w.drewN n) g cs t := ⟨h.blk⟩
theorem Bx.drew (h : Bx w g cs t) : Bx w.drew g cs t := ⟨h.blk⟩
theorem Bx.set_ (h : Bx w g cs t) (i : Nat) (u : Value) : Bx (w.setCell ⟨g, i, none⟩ u) g (cs.set i u) t := ⟨by
  have := h.blk
  simp [World.setCell, Array.getElem?_modify, this]⟩
theorem Bx.far (h : Bx w g cs t) {p : Addr} (hp : g ≠ p.block) (u : Value) : Bx (w.setCell p u) g cs t := ⟨(Below.heap_setCell w p u g hp).trans h.blk⟩
theorem Bx.grown {row : Option Nat} (h : Bx w g cs t) (hg : w.grownBy w1 row) (hne : some g ≠ row) : Bx w1 g cs t := ⟨(hg.block g h.lt hne).trans h.blk⟩
theorem Bx.cell (h : Bx w g cs t) (i : Nat) (hi : i < cs.length) : w.cell? ⟨g, i, none⟩ = some cs[i] := by rw [cell_of_row w g i _ t (0, 0) h.blk]; simp [hi]
theorem Bx.frozen (h : Bx w g cs t) (i : Nat) : w.frozen? ⟨g, i, none⟩ = false := by simp [World.frozen?, h.blk]
/-- Its first two cells, its first three, as the walk asks them. -/
theorem Bx.two {a b : Value} {r : List Value} (h : Bx w g (a :: b :: r) t) : (w.cell? ⟨g, 0, none⟩ = some a ∧ w.cell? ⟨g, 1, none⟩ = some b) ∧ w.frozen? ⟨g, 0, none⟩ = false ∧ w.frozen? ⟨g, 1, none⟩ = false := ⟨⟨h.cell 0 (by simp), h.cell 1 (by simp)⟩, h.frozen 0, h.frozen 1⟩
theorem Bx.three {a b c : Value} {r : List Value} (h : Bx w g (a :: b :: c :: r) t) : (w.cell? ⟨g, 0, none⟩ = some a ∧ w.cell? ⟨g, 1, none⟩ = some b ∧ w.cell? ⟨g, 2, none⟩ = some c) ∧ w.frozen? ⟨g, 0, none⟩ = false ∧ w.frozen? ⟨g, 1, none⟩ = false ∧ w.frozen? ⟨g, 2, none⟩ = false := ⟨⟨h.cell 0 (by simp), h.cell 1 (by simp), h.cell 2 (by simp)⟩, h.frozen 0, h.frozen 1, h.frozen 2⟩
end
/-- A row of one's own at block g, each element within a footprint of its own. -/
def OwG {α : Type} [Rep α] (w : World) (e : TypeId) (g cap : Nat) (F : Nat → FP) (xs : List α) : Prop :=
  ∃ cur : Array Value, w.heap[g]? = some (.cells cur e (0, 0)) ∧ xs.length ≤ cap ∧ cap ≤ maxLen ∧ cur.size = cap * Rep.size α ∧ Fit xs.length (Rep.bytes α) ∧
    ∀ j (hj : j < xs.length), Rep.has w (fun b t => F j b t ∧ b ≠ g) xs[j] ((cur.toList.drop (j * Rep.size α)).take (Rep.size α))
section
variable {α : Type} [Rep α] {w w' : World} {e : TypeId} {g cap : Nat} {F F' : Nat → FP} {xs : List α} {S S' : FP} {v : Value}
theorem Ow.form (h : Ow w e S v xs) (hne : xs ≠ []) : ∃ g cap, v = .slice (some ⟨g, 0, none⟩) xs.length cap ∧ S g (e, 0, 0) ∧ OwG w e g cap (fun _ => S) xs := by
  cases h with
  | nil_ => exact absurd rfl hne
  | row_ g cap cur xs hb hS hc hm hz hr h => exact ⟨g, cap, rfl, hS, cur, hb, hc, hm, hz, hr, h⟩
theorem OwG.ow (h : OwG w e g cap F xs) (hS : S g (e, 0, 0)) (hF : ∀ j b t, j < xs.length → F j b t → S b t) : Ow w e S (.slice (some ⟨g, 0, none⟩) xs.length cap) xs := by
  obtain ⟨cur, hb, hc, hm, hz, hr, h⟩ := h
  exact .row_ g cap cur xs hb hS hc hm hz hr fun j hj => Rep.move (h j hj) (Kp.mono fun b t h => ⟨hF j b t hj h.1, h.2⟩)
theorem OwG.move (h : OwG w e g cap F xs) (hg : w'.heap[g]? = w.heap[g]?) (hk : ∀ j, Kp w w' (fun b t => F j b t ∧ b ≠ g) (fun b t => F' j b t ∧ b ≠ g)) : OwG w' e g cap F' xs := by
  obtain ⟨cur, hb, hc, hm, hz, hr, h⟩ := h
  exact ⟨cur, hg.trans hb, hc, hm, hz, hr, fun j hj => Rep.move (h j hj) (hk j)⟩
theorem OwG.below (h : OwG w e g cap F xs) (hb : Below w.heap.size w w') : OwG w' e g cap F xs := by
  obtain ⟨cur, hg, _⟩ := id h
  exact h.move (hb.block g (Array.getElem?_eq_some_iff.1 hg).1) fun j => Kp.below hb _
theorem OwG.lt (h : OwG w e g cap F xs) : g < w.heap.size := by
  obtain ⟨cur, hg, _⟩ := h
  exact (Array.getElem?_eq_some_iff.1 hg).1
theorem OwG.cap_le (h : OwG w e g cap F xs) : xs.length ≤ cap := by
  obtain ⟨cur, hg, h, _⟩ := h
  exact h
/-- An element's cells. -/
theorem OwG.at_ (h : OwG w e g cap F xs) (j : Nat) (hj : j < xs.length) : ∃ cs, Rep.has w (fun b t => F j b t ∧ b ≠ g) xs[j] cs ∧ (∀ k v, cs[k]? = some v → w.cell? ⟨g, j * Rep.size α + k, none⟩ = some v) ∧ ∀ k, w.frozen? ⟨g, k, none⟩ = false := by
  obtain ⟨cur, hb, hc, hm, hz, hr, h⟩ := h
  refine ⟨_, h j hj, fun k v hv => ?_, fun k => by simp [World.frozen?, hb]⟩
  have hl := Rep.len (h j hj)
  have hk : k < Rep.size α := by rw [← hl]; exact (List.getElem?_eq_some_iff.1 hv).1
  obtain ⟨u, h1, h2⟩ := take_drop_get hk hl
  rw [h2] at hv
  cases hv
  rw [cell_of_row w g _ cur e (0, 0) hb, ← Array.getElem?_toList]
  exact h1
theorem take_drop_set {l : List Value} {s i j k : Nat} {u : Value} (hk : k < s) : ((l.set (i * s + k) u).drop (j * s)).take s = if i = j then ((l.drop (j * s)).take s).set k u else (l.drop (j * s)).take s := by
  split
  · rename_i h
    subst h
    rw [List.drop_set, if_neg (by omega), List.take_set]
    congr 1
    omega
  · rename_i h
    apply List.ext_getElem?
    intro m
    rw [List.getElem?_take, List.getElem?_take]
    split
    · rename_i hm
      rw [List.getElem?_drop, List.getElem?_drop, List.getElem?_set, if_neg]
      intro e
      apply h
      have h1 : (i * s + k) / s = i := by rw [Nat.mul_comm, Nat.mul_add_div (by omega)]; simp [Nat.div_eq_of_lt hk]
      have h2 : (j * s + m) / s = j := by rw [Nat.mul_comm, Nat.mul_add_div (by omega)]; simp [Nat.div_eq_of_lt hm]
      rw [← h1, ← h2, e]
    · rfl
/-- One cell of element i is written. -/
theorem OwG.put (h : OwG w e g cap F xs) (i : Nat) (hi : i < xs.length) (k : Nat) (hk : k < Rep.size α) (u : Value) (x : α) (T : FP)
    (hx : ∀ cs, Rep.has w (fun b t => F i b t ∧ b ≠ g) xs[i] cs → Rep.has w (fun b t => T b t ∧ b ≠ g) x (cs.set k u)) :
    OwG (w.setCell ⟨g, i * Rep.size α + k, none⟩ u) e g cap (fun j => if j = i then T else F j) (xs.set i x) := by
  obtain ⟨cur, hb, hc, hm, hz, hr, h⟩ := h
  refine ⟨cur.setIfInBounds (i * Rep.size α + k) u, by simp [World.setCell, Array.getElem?_modify, hb], by simpa using hc, hm, by simpa using hz, by simpa using hr, fun j hj => ?_⟩
  have hj' : j < xs.length := by simpa using hj
  rw [Array.toList_setIfInBounds, take_drop_set hk]
  have kp : ∀ S : FP, Kp w (w.setCell ⟨g, i * Rep.size α + k, none⟩ u) (fun b t => S b t ∧ b ≠ g) (fun b t => S b t ∧ b ≠ g) := fun S => Kp.setCell fun b t h => h.2
  by_cases hij : i = j
  · subst hij
    rw [if_pos rfl]
    simp only [List.getElem_set_self, if_true]
    exact Rep.move (hx _ (h i hi)) (kp T)
  · rw [if_neg hij]
    simp only [List.getElem_set_ne hij, if_neg (Ne.symm hij)]
    exact Rep.move (h j hj') (kp _)
end
theorem keep_frozen {W w1 : World} {b o : Nat} {v : Value} (hb : Below W.heap.size W w1) (h : W.cell? ⟨b, o, none⟩ = some v) (hf : W.frozen? ⟨b, o, none⟩ = false) : w1.frozen? ⟨b, o, none⟩ = false := (hb.frozen (World.block_lt_of_cell? W _ h)).trans hf
/-- Blocks of two kinds are two. -/
theorem OwG.ne_ {α : Type} [Rep α] {w : World} {e : TypeId} {g cap b : Nat} {F : Nat → FP} {xs : List α} {t : BT} {c : Array Value} (h : OwG w e g cap F xs) (hb : w.heap[b]? = some (.cells c t.1 t.2)) (ht : t ≠ (e, 0, 0)) : b ≠ g := by
  rintro rfl
  obtain ⟨cur, hg, _⟩ := h
  rw [hg] at hb
  injection hb with hb
  injection hb with _ h1 h2
  exact ht (by cases t; simp_all)
/-- A store into a row of another kind. -/
theorem Kp.otherRow {α : Type} [Rep α] {w : World} {e : TypeId} {g cap i : Nat} {F : Nat → FP} {xs : List α} {S : FP} {u : Value} (h : OwG w e g cap F xs) (hS : ∀ b t, S b t → b ≠ g ∨ t ≠ (e, 0, 0)) : Kp w (w.setCell ⟨g, i, none⟩ u) S S := fun b t c hs hb =>
  ⟨hs, by rw [Below.heap_setCell w _ u b (by rcases hS b t hs with h1 | h1; exact h1; exact h.ne_ hb h1)]; exact hb⟩
theorem Ow.of_empty {α : Type} [Rep α] {w : World} {e : TypeId} {S S' : FP} {v : Value} {xs : List α} (h : Ow w e S v xs) (hx : xs = []) (hS : ∀ g, v.ownBlock = some g → S' g (e, 0, 0)) : Ow w e S' v xs := by
  cases h with
  | nil_ => exact .nil_
  | row_ g cap cur xs hb _ hc hm hz hr h => exact .row_ g cap cur xs hb (hS g rfl) hc hm hz hr fun j hj => by subst hx; simp at hj
/-- A store into a variable's block. -/
theorem Kp.box {w : World} {g : Nat} {cs : List Value} {t : TypeId} (x : Bx w g cs t) {S : FP} (hS : ∀ b u, S b u → b ≠ g ∨ u ≠ (t, 0, 0)) (i : Nat) (u : Value) : Kp w (w.setCell ⟨g, i, none⟩ u) S S := fun b q c hs hb =>
  ⟨hs, by
    rw [Below.heap_setCell w _ u b ?_]
    · exact hb
    · rcases hS b q hs with h1 | h1
      · exact h1
      · rintro rfl
        have := x.blk
        rw [hb] at this
        injection this with this
        injection this with _ h2 h3
        exact h1 (by cases q; simp_all)⟩
theorem Kp.box3 {w : World} {g : Nat} {cs : List Value} {t : TypeId} (x : Bx w g cs t) {S : FP} (hS : ∀ b u, S b u → b ≠ g ∨ u ≠ (t, 0, 0)) (u0 u1 u2 : Value) : Kp w (((w.setCell ⟨g, 0, none⟩ u0).setCell ⟨g, 1, none⟩ u1).setCell ⟨g, 2, none⟩ u2) S S :=
  ((Kp.box x hS 0 u0).trans (Kp.box (x.set_ 0 u0) hS 1 u1)).trans (Kp.box ((x.set_ 0 u0).set_ 1 u1) hS 2 u2)
/-- An append to a row of one's own leaves all others. -/
theorem Kp.app {w w' : World} {v : Value} {S : FP} (hg : w.grownBy w' v.ownBlock) (hS : ∀ b t, S b t → v.ownBlock ≠ some b) : Kp w w' S S := Kp.grown hg fun b t h e => hS b t h e.symm
/-- As 'Rd', the elements' own memory told apart. -/
structure RdI {α : Type} [Rep α] (w : World) (S I : FP) (A : Option Addr) (c : Nat) (xs : List α) : Prop where
  cap : xs.length ≤ c
  room : Fit xs.length (Rep.bytes α)
  cells : xs ≠ [] → ∃ ad cur t, A = some ad ∧ ad.spot = none ∧ w.heap[ad.block]? = some (.cells cur t.1 t.2) ∧ S ad.block t ∧
    ∀ j (hj : j < xs.length), Rep.has w I xs[j] ((cur.toList.drop (ad.off + j * Rep.size α)).take (Rep.size α))
section
variable {α : Type} [Rep α] {w w' : World} {S S' I I' T : FP} {A : Option Addr} {c : Nat} {xs : List α}
theorem RdI.move (h : RdI w S I A c xs) (hk : Kp w w' S S') (hi : Kp w w' I I') : RdI w' S' I' A c xs :=
  ⟨h.cap, h.room, fun hne => by
    obtain ⟨ad, cur, t, e, hs, hb, hS, hc⟩ := h.cells hne
    have h1 := hk _ _ _ hS hb
    exact ⟨ad, cur, t, e, hs, h1.2, h1.1, fun j hj => Rep.move (hc j hj) hi⟩⟩
theorem RdI.below (h : RdI w S I A c xs) (hb : Below w.heap.size w w') : RdI w' S I A c xs := h.move (Kp.below hb S) (Kp.below hb I)
theorem RdI.rd (h : RdI w S I A c xs) (h1 : ∀ b t, S b t → T b t) (h2 : ∀ b t, I b t → T b t) : Rd w T A c xs :=
  ⟨h.cap, h.room, fun hne => by
    obtain ⟨ad, cur, t, e, hs, hb, hS, hc⟩ := h.cells hne
    exact ⟨ad, cur, t, e, hs, hb, h1 _ _ hS, fun j hj => Rep.move (hc j hj) (Kp.mono h2)⟩⟩
theorem RdI.nil (w : World) (S I : FP) (A : Option Addr) (c : Nat) : RdI (α := α) w S I A c [] := ⟨Nat.zero_le _, Fit.zero _, fun h => absurd rfl h⟩
theorem OwG.rdI {e : TypeId} {g : Nat} {F : Nat → FP} (h : OwG w e g c F xs) (hS : S g (e, 0, 0)) (hF : ∀ j b t, j < xs.length → F j b t → I b t) : RdI w S I (some ⟨g, 0, none⟩) c xs := by
  obtain ⟨cur, hb, hc, hm, hz, hr, h⟩ := h
  refine ⟨hc, hr, fun _ => ⟨⟨g, 0, none⟩, cur, (e, 0, 0), rfl, rfl, hb, hS, fun j hj => ?_⟩⟩
  simpa using Rep.move (h j hj) (Kp.mono fun b t h => hF j b t hj h.1)
/-- The same element, in both words. -/
theorem RdI.atk (h : RdI w S I A c xs) (j : Nat) (hj : j < xs.length) : ∃ ad cs, A = some ad ∧ Rep.has w I xs[j] cs ∧ (∀ v, cs[0]? = some v → w.cell? (ad.add (j * Rep.size α)) = some v) ∧
    ∀ k v, cs[k]? = some v → w.cell? ⟨(ad.add (j * Rep.size α)).block, (ad.add (j * Rep.size α)).off + k, none⟩ = some v := by
  obtain ⟨ad, cur, t, e, hs, hb, hS, hc⟩ := h.cells (by intro h0; subst h0; simp at hj)
  have hl := Rep.len (hc j hj)
  have key : ∀ k v, ((cur.toList.drop (ad.off + j * Rep.size α)).take (Rep.size α))[k]? = some v → w.cell? ⟨ad.block, ad.off + j * Rep.size α + k, none⟩ = some v := fun k v hv => by
    have hk : k < Rep.size α := by rw [← hl]; exact (List.getElem?_eq_some_iff.1 hv).1
    obtain ⟨u, h1, h2⟩ := take_drop_get hk hl
    rw [h2] at hv
    cases hv
    rw [cell_of_row w ad.block _ cur t.1 t.2 hb, ← Array.getElem?_toList]
    exact h1
  refine ⟨ad, _, e, hc j hj, fun v hv => ?_, fun k v hv => ?_⟩
  · rw [add_eq' ad hs]; exact key 0 v hv
  · rw [add_eq' ad hs]; exact key k v hv
end
end Go.Proofs.Ytfmmbkggamojkaa
