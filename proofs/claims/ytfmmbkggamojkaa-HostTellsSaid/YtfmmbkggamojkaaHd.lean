/- Layer 3, a state in memory of its own. No condition but that the state reads. -/
import Derived.Test.YtfmmbkggamojkaaHc
import Derived.Deep.RegionHeld3
import Derived.Deep.DeepCutAuto
import Derived.Deep.LoopGhost
set_option linter.unusedVariables false
set_option linter.unusedSimpArgs false
namespace Go.Proofs.Ytfmmbkggamojkaa
open Go.RowKit

/-- Kinds of fresh memory: a row of sectors, of acts, of octets. -/
abbrev tL : BT := (36, 0, 0)
abbrev tA : BT := (49, 0, 0)
abbrev tB : BT := (5, 0, 0)
/-- A row of which the first k elements are one's own, the others shared. -/
def Mix {α : Type} [Rep α] (B : Nat) (wr : World) (e : TypeId) (T : BT) (S : FP) (A : Option Addr) (c : Nat) (k : Nat) (xs : List α) : Prop :=
  (xs = [] → Ow wr e (fun b t => B ≤ b ∧ t = (e, 0, 0)) (.slice A xs.length c) xs) ∧
  (xs ≠ [] → ∃ g, A = some ⟨g, 0, none⟩ ∧ B ≤ g ∧ OwG wr e g c (fun j => if j < k then (fun b t => B ≤ b ∧ t = T) else S) xs)
theorem Mix.start {α : Type} [Rep α] {B : Nat} {wr : World} {e : TypeId} {T : BT} {S S0 : FP} {A : Option Addr} {c : Nat} {xs : List α} (h : Ow wr e S0 (.slice A xs.length c) xs) (hB : ∀ g, (Value.slice A xs.length c).ownBlock = some g → B ≤ g) (hS : ∀ b t, S0 b t → S b t) : Mix B wr e T S A c 0 xs := by
  refine ⟨fun he => ?_, fun hne => ?_⟩
  · exact h.of_empty he fun g hg => ⟨hB g hg, rfl⟩
  · obtain ⟨g, cap, hv, hg, ho⟩ := h.form hne
    injection hv with h1 h2 h3
    subst h1
    subst h3
    exact ⟨g, rfl, hB g rfl, ho.move rfl fun j => Kp.mono fun b t h => ⟨by simpa using hS b t h.1, h.2⟩⟩
theorem Mix.keep {α : Type} [Rep α] {B : Nat} {wr w1 : World} {e : TypeId} {T : BT} {S : FP} {A : Option Addr} {c k : Nat} {xs : List α} (h : Mix B wr e T S A c k xs) (hk : ∀ S' : FP, (∀ b t, S' b t → (B ≤ b ∧ t = (e, 0, 0)) ∨ (B ≤ b ∧ t = T) ∨ S b t) → Kp wr w1 S' S') : Mix B w1 e T S A c k xs :=
  ⟨fun he => (h.1 he).move (hk _ fun b t h => .inl h), fun hne => by
    obtain ⟨g, e', hg, ho⟩ := h.2 hne
    refine ⟨g, e', hg, ho.move ?_ fun j => hk _ fun b t h => ?_⟩
    · obtain ⟨cur, hc, _⟩ := ho
      rw [hc]
      exact (hk (fun b t => B ≤ b ∧ t = (e, 0, 0)) (fun b t h => .inl h) g (e, 0, 0) cur ⟨hg, rfl⟩ hc).2
    · have h2 := h.1
      split at h2
      · exact .inr (.inl h2)
      · exact .inr (.inr h2)⟩
theorem Mix.below {α : Type} [Rep α] {B : Nat} {wr w1 : World} {e : TypeId} {T : BT} {S : FP} {A : Option Addr} {c k : Nat} {xs : List α} (h : Mix B wr e T S A c k xs) (hb : Below wr.heap.size wr w1) : Mix B w1 e T S A c k xs := h.keep fun S' _ => Kp.below hb S'
theorem Mix.fullI {α : Type} [Rep α] {B : Nat} {wr : World} {e : TypeId} {T : BT} {S : FP} {A : Option Addr} {c k : Nat} {xs : List α} (h : Mix B wr e T S A c k xs) (hk : xs.length ≤ k) : RdI wr (fun b t => B ≤ b ∧ t = (e, 0, 0)) (fun b t => B ≤ b ∧ t = T) A c xs := by
  by_cases hne : xs = []
  · subst hne
    exact RdI.nil _ _ _ _ _
  · obtain ⟨g, rfl, hg, ho⟩ := h.2 hne
    exact ho.rdI ⟨hg, rfl⟩ fun j b t hj h => by rw [if_pos (by omega)] at h; exact h
/-- All of it is one's own. -/
theorem Mix.full {α : Type} [Rep α] {B : Nat} {wr : World} {e : TypeId} {T : BT} {S : FP} {A : Option Addr} {c k : Nat} {xs : List α} (h : Mix B wr e T S A c k xs) (hk : xs.length ≤ k) : Ow wr e (fun b t => B ≤ b ∧ (t = (e, 0, 0) ∨ t = T)) (.slice A xs.length c) xs := by
  by_cases hne : xs = []
  · exact (h.1 hne).mono fun b t h => ⟨h.1, .inl h.2⟩
  · obtain ⟨g, rfl, hg, ho⟩ := h.2 hne
    exact ho.ow ⟨hg, .inl rfl⟩ fun j b t hj h => by rw [if_pos (by omega)] at h; exact ⟨h.1, .inr h.2⟩

/-- One element more is one's own. -/
theorem Mix.step {α : Type} [Rep α] {B : Nat} {wr w1 : World} {e : TypeId} {T : BT} {S : FP} {g c k off : Nat} {xs : List α} {u : Value} (hB : B ≤ g) (og : OwG wr e g c (fun j => if j < k then (fun b t => B ≤ b ∧ t = T) else S) xs) (hb : Below wr.heap.size wr w1) (hk : k < xs.length) (ho : off < Rep.size α)
    (hx : ∀ cs, Rep.has w1 (fun b t => S b t ∧ b ≠ g) xs[k] cs → Rep.has w1 (fun b t => (B ≤ b ∧ t = T) ∧ b ≠ g) xs[k] (cs.set off u)) : Mix B (w1.setCell ⟨g, k * Rep.size α + off, none⟩ u) e T S (some ⟨g, 0, none⟩) c (k + 1) xs := by
  refine ⟨fun he => by subst he; simp at hk, fun _ => ?_⟩
  have h1 := (og.below hb).put k hk off ho u xs[k] (fun b t => B ≤ b ∧ t = T) (by rw [if_neg (Nat.lt_irrefl k)]; exact hx)
  rw [List.set_getElem_self] at h1
  refine ⟨g, rfl, hB, h1.move rfl fun j => Kp.mono fun b t h => ⟨?_, h.2⟩⟩
  have h2 := h.1
  by_cases hj : j = k
  · subst hj; rw [if_pos rfl] at h2; rw [if_pos (by omega)]; exact h2
  · rw [if_neg hj] at h2
    by_cases hl : j < k
    · rw [if_pos hl] at h2; rw [if_pos (by omega)]; exact h2
    · rw [if_neg hl] at h2; rw [if_neg (by omega)]; exact h2
/-- A store into a row of another kind leaves a row as it was. -/
theorem Mix.other {α β : Type} [Rep α] [Rep β] {B : Nat} {wr : World} {e e2 : TypeId} {T : BT} {S : FP} {A : Option Addr} {c k g cap i : Nat} {F : Nat → FP} {xs : List α} {ys : List β} {u : Value} (h : Mix B wr e T S A c k xs) (og : OwG wr e2 g cap F ys) (h1 : e ≠ e2) (h2 : T ≠ (e2, 0, 0)) (h3 : ∀ b t, S b t → b ≠ g ∨ t ≠ (e2, 0, 0)) : Mix B (wr.setCell ⟨g, i, none⟩ u) e T S A c k xs :=
  h.keep fun S' hS => Kp.otherRow og fun b t h => by
    rcases hS b t h with h | h | h
    · exact .inr (by rw [h.2]; intro e; apply h1; exact congrArg Prod.fst e)
    · exact .inr (by rw [h.2]; exact h2)
    · exact h3 b t h
/-- Fresh sectors, fresh acts. -/
abbrev FrS (w : World) : FP := fun b t => w.heap.size ≤ b ∧ (t = tL ∨ t = tB)
abbrev FrA (w : World) : FP := fun b t => w.heap.size ≤ b ∧ (t = tA ∨ t = tB)
/-- A state comes back in memory of its own. -/
def Cloned (s : St3) (w : World) (e : Ending) (w' : World) : Prop := ∃ A1 c1 A2 c2, e = .returned (.agg #[.slice A1 s.secs.length c1, .slice A2 s.waits.length c2, .int .i64 s.cap]) ∧ Below w.heap.size w w' ∧
  Ow w' 36 (FrS w) (.slice A1 s.secs.length c1) s.secs ∧ Ow w' 49 (FrA w) (.slice A2 s.waits.length c2) s.waits ∧
  RdI w' (fun b t => w.heap.size ≤ b ∧ t = tA) (fun b t => w.heap.size ≤ b ∧ t = tB) A2 c2 s.waits
/-- Both rows cloned, their elements still shared. -/
def Half (w wc : World) (S1 S2 : FP) (secs : List (List UInt8)) (waits : List Act3) (cap : Int) : Prop :=
  ∃ A1 c1 A2 c2, Bx wc w.heap.size [.slice A1 secs.length c1, .slice A2 waits.length c2, .int .i64 cap] 30 ∧ Bx wc (w.heap.size + 1) [.slice none 0 0, .slice none 0 0, .int .i64 0] 30 ∧
    Below w.heap.size w wc ∧ Ow wc 36 (fun b t => S1 b t ∧ b < w.heap.size ∨ w.heap.size + 2 ≤ b ∧ t = tL) (.slice A1 secs.length c1) secs ∧ Ow wc 49 (fun b t => S2 b t ∧ b < w.heap.size ∨ w.heap.size + 2 ≤ b ∧ t = tA) (.slice A2 waits.length c2) waits ∧
    (∀ g, (Value.slice A1 secs.length c1).ownBlock = some g → w.heap.size + 2 ≤ g) ∧ (∀ g, (Value.slice A2 waits.length c2).ownBlock = some g → w.heap.size + 2 ≤ g)

theorem half_mk {w w1 w2 : World} {S1 S2 : FP} {secs : List (List UInt8)} {waits : List Act3} {cap : Int} {A1 A2 B1 B2 : Option Addr} {c1 c2 d1 d2 : Nat}
    (W : World) (hW : W = ((w.alloc (.cells #[.slice A1 secs.length c1, .slice A2 waits.length c2, .int .i64 cap] 30)).alloc (.cells #[.slice none 0 0, .slice none 0 0, .int .i64 0] 30)).drew)
    (hb1 : Below W.heap.size W w1) (hb2 : Below w1.heap.size w1 w2) (hf1 : ∀ g, (Value.slice B1 secs.length d1).ownBlock = some g → W.heap.size ≤ g) (hf2 : ∀ g, (Value.slice B2 waits.length d2).ownBlock = some g → w1.heap.size ≤ g)
    (ho1 : Ow w1 36 (fun b t => (S1 b t ∧ b < W.heap.size) ∨ (W.heap.size ≤ b ∧ t = tL)) (.slice B1 secs.length d1) secs) (ho2 : Ow w2 49 (fun b t => (S2 b t ∧ b < w1.heap.size) ∨ (w1.heap.size ≤ b ∧ t = tA)) (.slice B2 waits.length d2) waits)
    (hS1 : ∀ b t, S1 b t → b < w.heap.size) (hS2 : ∀ b t, S2 b t → b < w.heap.size) :
    Half w ((w2.setCell ⟨w.heap.size, 0, none⟩ (.slice B1 secs.length d1)).setCell ⟨w.heap.size, 1, none⟩ (.slice B2 waits.length d2)) S1 S2 secs waits cap := by
  have hz : W.heap.size = w.heap.size + 2 := by subst hW; simp
  have b0 : Below w.heap.size w W := by subst hW; exact (below_alloc (below_alloc (Below.refl _ _) _) _).drew
  have x0 : Bx W w.heap.size [.slice A1 secs.length c1, .slice A2 waits.length c2, .int .i64 cap] 30 := by subst hW; exact ((Bx.new w _ _).alloc _).drew
  have y0 : Bx W (w.heap.size + 1) [.slice none 0 0, .slice none 0 0, .int .i64 0] 30 := by
    subst hW
    have := (Bx.new (w.alloc (.cells #[.slice A1 secs.length c1, .slice A2 waits.length c2, .int .i64 cap] 30)) [.slice none 0 0, .slice none 0 0, .int .i64 0] 30).drew
    rw [World.size_alloc] at this
    exact this
  have z1 := hb1.size
  have far : ∀ (S : FP) (u v : Value), (∀ b t, S b t → b ≠ w.heap.size) → Kp w2 ((w2.setCell ⟨w.heap.size, 0, none⟩ u).setCell ⟨w.heap.size, 1, none⟩ v) S S := fun S u v h => (Kp.setCell h).trans (Kp.setCell h)
  refine ⟨B1, d1, B2, d2, (((x0.keep hb1).keep hb2).set_ 0 _).set_ 1 _, (((y0.keep hb1).keep hb2).far (by simp) _).far (by simp) _, ?_, ?_, ?_, fun g h => by have := hf1 g h; omega, fun g h => by have := hf2 g h; omega⟩
  · exact ((below_then (below_then b0 hb1) hb2).setCell (Nat.le_refl _) _).setCell (Nat.le_refl _) _
  · refine (ho1.below hb2).move fun b t c hs hb => ?_
    have hs' : S1 b t ∧ b < w.heap.size ∨ w.heap.size + 2 ≤ b ∧ t = tL := by
      rcases hs with h | h
      · exact .inl ⟨h.1, hS1 b t h.1⟩
      · exact .inr ⟨by omega, h.2⟩
    exact far (fun b t => S1 b t ∧ b < w.heap.size ∨ w.heap.size + 2 ≤ b ∧ t = tL) _ _ (fun b t h => by rcases h with h | h <;> omega) b t c hs' hb
  · refine ho2.move fun b t c hs hb => ?_
    have hs' : S2 b t ∧ b < w.heap.size ∨ w.heap.size + 2 ≤ b ∧ t = tA := by
      rcases hs with h | h
      · exact .inl ⟨h.1, hS2 b t h.1⟩
      · exact .inr ⟨by omega, h.2⟩
    exact far (fun b t => S2 b t ∧ b < w.heap.size ∨ w.heap.size + 2 ≤ b ∧ t = tA) _ _ (fun b t h => by rcases h with h | h <;> omega) b t c hs' hb

set_option maxHeartbeats 1000000 in
theorem hclone_any (s : St3) (S1 S2 : FP) (A1 A2 : Option Addr) (c1 c2 : Nat) (w : World) (h1 : Rd w S1 A1 c1 s.secs) (h2 : Rd w S2 A2 c2 s.waits) (hS1 : Hid (∀ b t, S1 b t → b < w.heap.size)) (hS2 : Hid (∀ b t, S2 b t → b < w.heap.size)) :
    Calls Try.prog 31 #[.agg #[.slice A1 s.secs.length c1, .slice A2 s.waits.length c2, .int .i64 s.cap]] w fun e w' => Cloned s w e w' := by
  obtain ⟨secs, waits, cap⟩ := s
  dsimp only at h1 h2 ⊢
  have l1 := h1.len
  have l2 := h2.len
  go_enter Try.func31, Try.ntmps31
  go_upto_region 1 with fail
  go_cut [] (fun wc => Half w wc S1 S2 secs waits cap)
  case first =>
    go_region_with (first
     | (go_at_call 47; go_loud (refine (clone_list S1 A1 c1 secs _ (h1.below (below_alloc (below_alloc (Below.refl _ _) _) _).drew)).mono ?_); rintro e w1 ⟨v1, rfl, hb1, hf1, ho1⟩; obtain ⟨B1, d1, rfl, r1⟩ := ho1.rd; have x1 := (((Bx.new w [.slice A1 secs.length c1, .slice A2 waits.length c2, .int .i64 cap] 30).alloc (.cells #[.slice none 0 0, .slice none 0 0, .int .i64 0] 30)).drew).keep hb1; have k1 := x1.three)
     | (go_at_call 48; refine (clone_acts S2 A2 c2 waits _ (h2.below (below_then (below_alloc (below_alloc (Below.refl _ _) _) _).drew hb1))).mono ?_; rintro e w2 ⟨v2, rfl, hb2, hf2, ho2⟩; obtain ⟨B2, d2, rfl, r2⟩ := ho2.rd; have x2 := x1.keep hb2; have k2 := x2.three))
    all_goals (go_wp2_with fail; go_meet; exact half_mk _ rfl hb1 hb2 hf1 hf2 ho1 ho2 hS1.out hS2.out)
  case rest =>
    obtain ⟨B1, d1, B2, d2, x, y, hb, o1, o2, g1, g2⟩ := hcut
    have xc := x.three
    go_wp2
    go_loopw [3, 4, 18] (fun _ _ i wr => ∃ k : Nat, k ≤ secs.length ∧ i = .int .i64 k ∧ Bx wr w.heap.size [.slice B1 secs.length d1, .slice B2 waits.length d2, .int .i64 cap] 30 ∧ Bx wr (w.heap.size + 1) [.slice none 0 0, .slice none 0 0, .int .i64 0] 30 ∧
       Below w.heap.size w wr ∧ Mix (w.heap.size + 2) wr 36 tB (fun b t => S1 b t ∧ b < w.heap.size ∨ w.heap.size + 2 ≤ b ∧ t = tL) B1 d1 k secs ∧ Ow wr 49 (fun b t => S2 b t ∧ b < w.heap.size ∨ w.heap.size + 2 ≤ b ∧ t = tA) (.slice B2 waits.length d2) waits) (fun _ _ i _ => secs.length - (intOf i).toNat)
    case atStart => exact ⟨0, Nat.zero_le _, rfl, x, y, hb, Mix.start o1 g1 fun _ _ h => h, o2⟩
    case round =>
      clear x y hb o1 o2 xc
      obtain ⟨k, hk, rfl, x, y, hb, m1, o2⟩ := hrel
      have xc := x.three
      by_cases hlt : k < secs.length
      · obtain ⟨g, rfl, hg, og⟩ := m1.2 (by intro e; subst e; simp at hlt)
        obtain ⟨cs, hcs, hcell, hfr⟩ := og.at_ k hlt
        obtain ⟨A', c', rfl, hr⟩ := hcs
        have q0 := hcell 0 _ rfl
        rw [show k * Rep.size (List UInt8) + 0 = k from by show k * 1 + 0 = k; omega] at q0
        have q1 := hfr k
        go_wp2
        go_region_with (go_at_call 41; refine (clone_bytes _ A' c' secs[k] _ (hr.below (Below.refl _ _).drew)).mono ?_; rintro e w1 ⟨v1, rfl, hb1, hf1, ho1⟩; obtain ⟨D1, e1, rfl, r1⟩ := ho1.rd; have xn := ((x.drew).keep hb1).three; have qn := keep_cell hb1 (W := wr.drew) q0; have fn := keep_frozen hb1 (W := wr.drew) q0 q1)
        all_goals
          go_wp2_with fail
          have hz := hb1.size
          simp only [World.size_drew] at hz
          have hb2 : Below wr.heap.size wr w1 := (Below.refl _ wr).drew.trans hb1
          have m2 := Mix.step (u := .slice D1 secs[k].length e1) (off := 0) hg og hb2 hlt (by decide) (fun cs hcs => by
            obtain ⟨A2, c2, rfl, hr2⟩ := hcs
            exact ⟨D1, e1, rfl, r1.mono fun b t h => ⟨⟨by have := h.1; have := y.lt; simp only [World.size_drew] at *; omega, h.2⟩, by have := h.1; have := og.lt; simp only [World.size_drew] at *; omega⟩⟩)
          have e9 : k * Rep.size (List UInt8) + 0 = k := by show k * 1 + 0 = k; omega
          rw [e9] at m2
          have x2 := ((x.keep hb2).far (p := ⟨g, k, none⟩) (by show _ ≠ g; omega) (.slice D1 secs[k].length e1))
          have y2 := ((y.keep hb2).far (p := ⟨g, k, none⟩) (by show _ ≠ g; omega) (.slice D1 secs[k].length e1))
          have o3 : Ow (w1.setCell ⟨g, k, none⟩ (.slice D1 secs[k].length e1)) 49 (fun b t => S2 b t ∧ b < w.heap.size ∨ w.heap.size + 2 ≤ b ∧ t = tA) (.slice B2 waits.length d2) waits := (o2.below hb2).move (Kp.otherRow (og.below hb2) fun b t h => by
            rcases h with h | h
            · exact .inl (by omega)
            · exact .inr (by rw [h.2]; decide))
          go_roundw
          case rel => exact ⟨k + 1, by omega, by go_num, x2, y2, (below_then hb hb2).setCell (by show _ ≤ g; omega) _, m2, o3⟩
          case measure => simp [intOf]; omega
      · go_wp2
        go_loopw [5, 6, 33] (fun _ _ i wr => ∃ k : Nat, k ≤ waits.length ∧ i = .int .i64 k ∧ Bx wr w.heap.size [.slice B1 secs.length d1, .slice B2 waits.length d2, .int .i64 cap] 30 ∧ Bx wr (w.heap.size + 1) [.slice none 0 0, .slice none 0 0, .int .i64 0] 30 ∧
          Below w.heap.size w wr ∧ Ow wr 36 (FrS w) (.slice B1 secs.length d1) secs ∧ Mix (w.heap.size + 2) wr 49 tB (fun b t => S2 b t ∧ b < w.heap.size ∨ w.heap.size + 2 ≤ b ∧ t = tA) B2 d2 k waits) (fun _ _ i _ => waits.length - (intOf i).toNat)
        case atStart => exact ⟨0, Nat.zero_le _, rfl, x, y, hb, (m1.full (by omega)).mono (fun b t h => ⟨by omega, h.2⟩), Mix.start o2 g2 fun _ _ h => h⟩
        case round =>
          clear x y hb o2 xc m1
          obtain ⟨k, hk, rfl, x, y, hb, o1, m2⟩ := hrel
          have xc := x.three
          have yc := y.three
          by_cases hlt : k < waits.length
          · obtain ⟨g, rfl, hg, og⟩ := m2.2 (by intro e; subst e; simp at hlt)
            obtain ⟨cs, hcs, hcell, hfr⟩ := og.at_ k hlt
            obtain ⟨A', c', rfl, hr, i1, i2⟩ := act_cells hcs
            have q0 := hcell 0 _ rfl
            have q1 := hcell 1 _ rfl
            have q2 := hcell 2 _ rfl
            rw [show k * Rep.size Act3 = k * 3 from rfl] at q0 q1 q2
            have f2 := hfr (k * 3 + 2)
            rw [Nat.add_zero] at q0
            go_wp2
            have hlg := og.lt
            have hlx := x.lt
            have hnx : w.heap.size ≠ wr.heap.size := by omega
            have hng : g ≠ wr.heap.size := by omega
            have bx := (Bx.new wr [.int .i64 waits[k].what, .int .i64 waits[k].at_, .slice A' waits[k].data.length c'] 49).drew
            go_region_with (go_at_call 41; refine (clone_bytes _ A' c' waits[k].data _ (hr.below (below_alloc (Below.refl _ _) _).drew)).mono ?_; rintro e w1 ⟨v1, rfl, hb1, hf1, ho1⟩; obtain ⟨D1, e1, rfl, r1⟩ := ho1.rd; have xn := ((x.alloc _).drew.keep hb1).three; have bn := (bx.keep hb1).three; have qn := keep_cell hb1 (W := (wr.alloc (.cells #[.int .i64 waits[k].what, .int .i64 waits[k].at_, .slice A' waits[k].data.length c'] 49)).drew) (by rw [World.cell?_drew, World.cell?_alloc_lt _ _ _ hlg]; exact q2); have fn := keep_frozen hb1 (W := (wr.alloc (.cells #[.int .i64 waits[k].what, .int .i64 waits[k].at_, .slice A' waits[k].data.length c'] 49)).drew) (by rw [World.cell?_drew, World.cell?_alloc_lt _ _ _ hlg]; exact q2) ((Below.frozen (below_alloc (Below.refl _ _) _).drew hlg).trans f2))
            all_goals
              go_wp2_with fail
              have hz := hb1.size
              simp only [World.size_drew, World.size_alloc] at hz
              have hb2 : Below wr.heap.size wr w1 := below_then (below_alloc (Below.refl _ _) _).drew hb1
              have m3 := Mix.step (u := .slice D1 waits[k].data.length e1) (off := 2) hg og hb2 hlt (by decide) (fun cs hcs => by
                obtain ⟨A2, c2, rfl, hr2, j1, j2⟩ := act_cells hcs
                refine ⟨[.int .i64 waits[k].what], [.int .i64 waits[k].at_, .slice D1 waits[k].data.length e1], rfl, ⟨rfl, j1⟩, [.int .i64 waits[k].at_], [.slice D1 waits[k].data.length e1], rfl, ⟨rfl, j2⟩, D1, e1, rfl, r1.mono fun b t h => ⟨⟨?_, h.2⟩, ?_⟩⟩
                · have := h.1; have := y.lt; simp only [World.size_drew, World.size_alloc] at *; omega
                · have := h.1; simp only [World.size_drew, World.size_alloc] at *; omega)
              have x2 := ((x.keep hb2).far (p := ⟨g, k * 3 + 2, none⟩) (by show _ ≠ g; omega) (.slice D1 waits[k].data.length e1))
              have y2 := ((y.keep hb2).far (p := ⟨g, k * 3 + 2, none⟩) (by show _ ≠ g; omega) (.slice D1 waits[k].data.length e1))
              have o3 : Ow (w1.setCell ⟨g, k * 3 + 2, none⟩ (.slice D1 waits[k].data.length e1)) 36 (FrS w) (.slice B1 secs.length d1) secs := (o1.below hb2).move (Kp.otherRow (og.below hb2) fun b t h => by
                rcases h.2 with h | h
                · exact .inr (by rw [h]; decide)
                · exact .inr (by rw [h]; decide))
              go_roundw
              case rel => exact ⟨k + 1, by omega, by go_num, x2, y2, (below_then hb hb2).setCell (by show _ ≤ g; omega) _, o3, m3⟩
              case measure => simp [intOf]; omega
          · go_wp2
            have yn := (((y.set_ 0 (.slice B1 secs.length d1)).set_ 1 (.slice B2 waits.length d2)).set_ 2 (.int .i64 cap)).three
            refine bodyPost_ret (v := .agg #[.slice B1 secs.length d1, .slice B2 waits.length d2, .int .i64 cap]) (by simp [results, Try.results31, go_sem, yn]) rfl ?_
            have far : ∀ S : FP, (∀ b t, S b t → (w.heap.size ≤ b ∧ (t = tL ∨ t = tB)) ∨ (w.heap.size ≤ b ∧ (t = tA ∨ t = tB))) → Kp wr (((wr.setCell ⟨w.heap.size + 1, 0, none⟩ (.slice B1 secs.length d1)).setCell ⟨w.heap.size + 1, 1, none⟩ (.slice B2 waits.length d2)).setCell ⟨w.heap.size + 1, 2, none⟩ (.int .i64 cap)) S S := fun S hS => by
              have hne : ∀ b t c, S b t → wr.heap[b]? = some (.cells c t.1 t.2) → b ≠ w.heap.size + 1 := by
                rintro b t c hs hb rfl
                rw [y.blk] at hb
                injection hb with hb
                injection hb with _ h1 h2
                have ht : t = (30, 0, 0) := by cases t; simp_all
                subst ht
                rcases hS _ _ hs with ⟨_, h | h⟩ | ⟨_, h | h⟩ <;> simp [tL, tA, tB] at h
              intro b t c hs hb
              have := hne b t c hs hb
              refine ⟨hs, ?_⟩
              rw [Below.heap_setCell _ _ _ _ this, Below.heap_setCell _ _ _ _ this, Below.heap_setCell _ _ _ _ this]
              exact hb
            refine ⟨B1, d1, B2, d2, rfl, ((hb.setCell (Nat.le_succ _) _).setCell (Nat.le_succ _) _).setCell (Nat.le_succ _) _, o1.move (far _ fun b t h => .inl h), ((m2.full (by omega)).mono (fun b t h => ?_)).move (far _ fun b t h => .inr h), (m2.fullI (by omega)).move ((Kp.mono fun b t h => ⟨by have := h.1; omega, h.2⟩).trans (far _ fun b t h => .inr ⟨h.1, .inl h.2⟩)) ((Kp.mono fun b t h => ⟨by have := h.1; omega, h.2⟩).trans (far _ fun b t h => .inr ⟨h.1, .inr h.2⟩))⟩
            exact ⟨by have := h.1; omega, h.2⟩
end Go.Proofs.Ytfmmbkggamojkaa
