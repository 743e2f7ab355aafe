/- How data that came in are opened: whatever can be read as data reads as a value of the claim's own words. No condition. -/
import Derived.Test.YtfmmbkggamojkaaL0
import Derived.Deep.Slices
import Derived.Deep.Strs
import Derived.SizedLaws
import Derived.DataReads
import Derived.ChangeShapes
import Derived.WideShapes
set_option linter.unusedVariables false
namespace Go.Proofs.Ytfmmbkggamojkaa
open Go.RowKit Go.Deep Go.ChangeShapes Go.WideShapes

abbrev AllF : FP := fun _ _ => True
/-- Type t's data read as values of α. -/
structure Opens (P : Program) (t : TypeId) (α : Type) [Rep α] : Prop where
  size : P.cellsOf t = Rep.size α
  open_ : ∀ {H : Type} {enc : TypeId × Value → H} {W : World} {spare : Nat → Bool} {held : Bool} {fuel : Nat} {cs : List Value} {x : DataW H × List MemPlace},
    DataW.trod enc P W 0 spare held fuel t cs = some x → (∀ n ∈ x.1.weights P t, n ≤ reachBytes) → ∃ a : α, Rep.has W AllF a cs
section
variable {P : Program} {t e : TypeId}
theorem cells_get {W : World} {a : Addr} {n : Nat} {cs : List Value} (h : W.cells? 0 a n = some cs) : cs.length = n ∧ ∀ i, i < n → W.cell? (a.add i) = cs[i]? := by
  unfold World.cells? at h
  rw [if_pos (Nat.zero_le _)] at h
  refine ⟨by simpa using mapM_some_length h, fun i hi => mapM_some_get h i i (by simp [hi])⟩
theorem add_add' (a : Addr) (h : a.spot = none) (i j : Nat) : (a.add i).add j = ⟨a.block, a.off + i + j, none⟩ := by
  rw [add_eq' a h]
  rw [add_eq' _ rfl]
theorem cell_block {W : World} {a : Addr} {v : Value} (h : W.cell? a = some v) : a.spot = none ∧ ∃ (cur : Array Value) (t : BT), W.heap[a.block]? = some (.cells cur t.1 t.2) ∧ cur[a.off]? = some v := by
  unfold World.cell? at h
  split at h
  · rename_i c e f hb
    split at h
    · cases h
    · rename_i hs
      exact ⟨by simpa using hs, c, (e, f), hb, h⟩
  · cases h
theorem spot_add (a : Addr) (n : Nat) (h : (a.add n).spot = none) (h0 : n = 0 ∨ a.spot = none) : a.spot = none := by
  rcases h0 with rfl | h0
  · simpa [Addr.add] using h
  · exact h0
/-- The cells of element j, of so many that are read one by one. -/
theorem row_cells {W : World} {a : Addr} {n s : Nat} {css : Nat → List Value} (hs : 0 < s) (hn : 0 < n) (h : ∀ j, j < n → W.cells? 0 (a.add (j * s)) s = some (css j)) :
    a.spot = none ∧ ∃ (cur : Array Value) (t : BT), W.heap[a.block]? = some (.cells cur t.1 t.2) ∧ ∀ j, j < n → (cur.toList.drop (a.off + j * s)).take s = css j := by
  have h0 := (cells_get (h 0 hn)).2 0 hs
  have hl0 := (cells_get (h 0 hn)).1
  rw [List.getElem?_eq_getElem (by omega)] at h0
  have e0 : (a.add (0 * s)).add 0 = a := by simp [Addr.add]
  rw [e0] at h0
  obtain ⟨hsp, cur, t, hb, hc⟩ := cell_block h0
  refine ⟨hsp, cur, t, hb, fun j hj => ?_⟩
  obtain ⟨hl, hg⟩ := cells_get (h j hj)
  apply List.ext_getElem?
  intro i
  by_cases hi : i < s
  · have := hg i hi
    rw [add_add' a hsp, cell_of_row W a.block _ cur t.1 t.2 hb, ← Array.getElem?_toList] at this
    rw [List.getElem?_take, if_pos hi, List.getElem?_drop, this]
  · rw [List.getElem?_eq_none (by rw [List.length_take]; omega), List.getElem?_eq_none (by omega)]
theorem Opens.slice {α : Type} [Rep α] (oe : Opens P e α) (hu : P.underlying t = some (.slice e)) (hb : P.bytesOf e = Rep.bytes α) (hs : P.cellsOf t = 1) : Opens P t (List α) where
  size := hs
  open_ := by
    intro H enc W spare held fuel cs x h hw
    rcases open_slice hu h with ⟨rfl, rfl⟩ | ⟨a, len, cap, m, n, D, Pl, rfl, _, hl, hm, hmm, rfl, hel⟩
    · exact ⟨[], none, 0, rfl, Rd.nil _ _ _ _⟩
    · have hlm : len ≤ m := by rw [hmm]; split <;> omega
      have hwt : ∀ n ∈ (DataW.slice ((List.range len).map D) ((List.range (m - len)).map fun j => D (len + j))).weights P t, n ≤ reachBytes := hw
      simp only [DataW.weights, hu, List.mem_cons, List.mem_append] at hwt
      have h1 := hwt _ (.inl rfl)
      simp only [List.length_map, List.length_range, hb] at h1
      have wAll : ∀ (l : List (DataW H)) (d : DataW H), d ∈ l → ∀ n ∈ d.weights P e, n ∈ DataW.weightsAll P e l := by
        intro l
        induction l with
        | nil => intro d hd; cases hd
        | cons d0 l ih =>
          intro d hd n hn
          simp only [DataW.weightsAll, List.mem_append]
          rcases List.mem_cons.1 hd with rfl | hd
          · exact .inl hn
          · exact .inr (ih d hd n hn)
      have key : ∀ i, ∃ (y : Option α) (c : List Value), i < len → W.cells? 0 (a.add (i * Rep.size α)) (Rep.size α) = some c ∧ ∃ z, y = some z ∧ Rep.has W AllF z c := by
        intro i
        by_cases hi : i < len
        · obtain ⟨c, hc, ht⟩ := hel i (by omega)
          rw [oe.size] at hc
          obtain ⟨z, hz⟩ := oe.open_ ht (fun k hk => hwt k (.inr (.inl (wAll _ (D i) (List.mem_map.2 ⟨i, by simpa using hi, rfl⟩) k hk))))
          exact ⟨some z, c, fun _ => ⟨hc, z, rfl, hz⟩⟩
        · exact ⟨none, [], fun h => absurd h hi⟩
      obtain ⟨Y, hY⟩ := Classical.axiomOfChoice key
      obtain ⟨C, hC⟩ := Classical.axiomOfChoice hY
      by_cases h0 : len = 0
      · subst h0
        exact ⟨[], some a, cap, rfl, ⟨Nat.zero_le _, Fit.zero _, fun h => absurd rfl h⟩⟩
      have y0 : α := (Y 0).get (by obtain ⟨_, z, hz, _⟩ := hC 0 (by omega); rw [hz]; rfl)
      obtain ⟨hsp, cur, tt, hblk, hrow⟩ := row_cells (n := len) (css := C) Rep.pos (by omega) (fun j hj => (hC j hj).1)
      refine ⟨(List.range len).map fun i => (Y i).getD y0, some a, cap, by simp, ⟨by simpa using hl, ?_, fun _ => ⟨a, cur, tt, rfl, hsp, hblk, trivial, fun j hj => ?_⟩⟩⟩
      · show _ * _ ≤ _
        rw [List.length_map, List.length_range]
        exact Nat.le_trans (Nat.mul_le_mul_right _ (by omega)) h1
      · have hj' : j < len := by simpa using hj
        obtain ⟨_, z, hz, hh⟩ := hC j hj'
        rw [hrow j hj']
        simp only [List.getElem_map, List.getElem_range, hz, Option.getD_some]
        exact hh
theorem Opens.int64 (hu : P.underlying t = some (.int .i64)) (hs : P.cellsOf t = 1) : Opens P t Int where
  size := hs
  open_ := by
    intro H enc W spare held fuel cs x h _
    obtain ⟨n, rfl, rfl, hw⟩ := DataW.trod_int hu h
    exact ⟨n, rfl, hw⟩
theorem Opens.byte (hu : P.underlying t = some (.int .u8)) (hs : P.cellsOf t = 1) : Opens P t UInt8 where
  size := hs
  open_ := by
    intro H enc W spare held fuel cs x h _
    obtain ⟨n, rfl, rfl, hw⟩ := DataW.trod_int hu h
    have hb : 0 ≤ n ∧ n ≤ 255 := by simp only [Lit.wf, Bool.and_eq_true, decide_eq_true_eq] at hw; exact hw
    refine ⟨UInt8.ofNat n.toNat, ?_⟩
    show [Value.int .u8 n] = [.int .u8 ((UInt8.ofNat n.toNat).toNat : Int)]
    rw [UInt8.toNat_ofNat']
    congr 2
    omega
theorem Opens.bool (hu : P.underlying t = some .bool) (hs : P.cellsOf t = 1) : Opens P t Bool where
  size := hs
  open_ := by
    intro H enc W spare held fuel cs x h _
    obtain ⟨b, rfl, rfl⟩ := DataW.trod_bool hu h
    exact ⟨b, rfl⟩
theorem Opens.str (hu : P.underlying t = some .string) (hs : P.cellsOf t = 1) : Opens P t ByteArray where
  size := hs
  open_ := by
    intro H enc W spare held fuel cs x h hw
    obtain ⟨s, rfl, rfl, hz⟩ := DataW.trod_string hu h
    refine ⟨s, rfl, ?_⟩
    have := hw s.data.toList.length (by simp [DataW.weights])
    rw [Array.length_toList] at this
    exact this
theorem Opens.iso {α β : Type} [Rep α] (f : β → α) (g : α → β) (hg : ∀ a, f (g a) = a) (bytes : Nat) (hb : 0 < bytes) (o : Opens P t α) : @Opens P t β (Rep.iso f bytes hb) :=
  @Opens.mk P t β (Rep.iso f bytes hb) o.size (by
    intro H enc W spare held fuel cs x h hw
    obtain ⟨a, ha⟩ := o.open_ h hw
    refine ⟨g a, ?_⟩
    show Rep.has W AllF (f (g a)) cs
    rw [hg]
    exact ha)
/-- A struct's fields, from one on. -/
structure OpensF (P : Program) (fs : List Field) (off : Nat) (β : Type) [Rep β] : Prop where
  open_ : ∀ {H : Type} {enc : TypeId × Value → H} {W : World} {spare : Nat → Bool} {held : Bool} {n : Nat} {cs : List Value} {xs : List (DataW H × List MemPlace)}, xs.length = fs.length →
    (∀ (i : Nat) (f : Field), fs[i]? = some f → DataW.trod enc P W 0 spare held n f.type ((cs.drop f.offset).take (P.cellsOf f.type)) = xs[i]?) →
    (∀ k ∈ DataW.weightsEach P (fs.map (·.type)) (xs.map (·.1)), k ≤ reachBytes) → ∃ b : β, Rep.has W AllF b ((cs.drop off).take (Rep.size β))
theorem OpensF.last {α : Type} [Rep α] {f : Field} {off : Nat} (o : Opens P f.type α) (ho : f.offset = off) : OpensF P [f] off α where
  open_ := by
    intro H enc W spare held n cs xs hl h hw
    obtain ⟨x, rfl⟩ := List.length_eq_one_iff.1 hl
    have h1 := h 0 f rfl
    rw [ho, o.size] at h1
    exact o.open_ h1 (fun k hk => hw k (by simpa [DataW.weightsEach] using hk))
theorem OpensF.cons {α β : Type} [Rep α] [Rep β] {f : Field} {fs : List Field} {off : Nat} (o : Opens P f.type α) (ho : f.offset = off) (r : OpensF P fs (off + Rep.size α) β) : OpensF P (f :: fs) off (α × β) where
  open_ := by
    intro H enc W spare held n cs xs hl h hw
    cases xs with
    | nil => simp at hl
    | cons x xs =>
      have h1 := h 0 f rfl
      rw [ho, o.size] at h1
      simp only [List.map_cons, DataW.weightsEach, List.mem_append] at hw
      obtain ⟨a, ha⟩ := o.open_ h1 (fun k hk => hw k (.inl hk))
      obtain ⟨b, hb⟩ := r.open_ (by simpa using hl) (fun i f' hf => by simpa using h (i + 1) f' (by simpa using hf)) (fun k hk => hw k (.inr hk))
      refine ⟨(a, b), _, _, ?_, ha, hb⟩
      show (cs.drop off).take (Rep.size α + Rep.size β) = _
      rw [List.take_add, List.drop_drop]
theorem Opens.struct {β : Type} [Rep β] {fs : Array Field} (hu : P.underlying t = some (.struct fs)) (hs : P.cellsOf t = Rep.size β) (o : OpensF P fs.toList 0 β) : Opens P t β where
  size := hs
  open_ := by
    intro H enc W spare held fuel cs x h hw
    obtain ⟨xs, n, _, rfl, hl, hlen, hf⟩ := DataW.trod_struct hu h
    simp only [DataW.weights, hu] at hw
    obtain ⟨b, hb⟩ := o.open_ (by simpa using hlen) (fun i f hfi => hf i f (by simpa using hfi)) hw
    refine ⟨b, ?_⟩
    rw [List.drop_zero, List.take_of_length_le (by omega)] at hb
    exact hb
end
/-- One argument, opened. -/
theorem open_arg {P : Program} {t : TypeId} {α : Type} [Rep α] (o : Opens P t α) {H : Type} {enc : TypeId × Value → H} {W : World} {spare : Nat → Bool} {held : Bool} {v : Value} {d : DataW H} {ps : List MemPlace} {ts : List TypeId} {ds : List (DataW H)} {j : Nat}
    (hsz : (DataW.weightsEach P ts ds).all (· ≤ reachBytes) = true) (ht : ts[j]? = some t) (hd : ds[j]? = some d) (h : DataW.Trod enc P W 0 spare held t v d ps) : ∃ a : α, Rep.has W AllF a v.cells.toList := by
  obtain ⟨fuel, hf⟩ := h
  refine o.open_ hf fun n hn => ?_
  have := List.all_eq_true.1 hsz n (DataW.weights_mem_each ht hd n hn)
  simpa using this
end Go.Proofs.Ytfmmbkggamojkaa
