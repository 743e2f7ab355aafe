/- Layer 3, what an act on the length does to a state of one's own. The state may be; the act may wait. -/
import Derived.Test.YtfmmbkggamojkaaHg
import Derived.Deep.RegionLaw
import Derived.Deep.OwnRows
set_option linter.unusedVariables false
set_option linter.unusedSimpArgs false
namespace Go.Proofs.Ytfmmbkggamojkaa
open Go.RowKit

theorem Ow.form2 {α : Type} [Rep α] {w : World} {e : TypeId} {S : FP} {A : Option Addr} {c : Nat} {xs : List α} (o : Ow w e S (.slice A xs.length c) xs) : (A = none ∧ c = 0 ∧ xs = []) ∨ ∃ g, A = some ⟨g, 0, none⟩ ∧ S g (e, 0, 0) ∧ OwG w e g c (fun _ => S) xs := by
  generalize hv : Value.slice A xs.length c = v at o
  cases o with
  | nil_ => injection hv with h1 h2 h3; exact .inl ⟨h1, h3, rfl⟩
  | row_ g cap cur xs hb hS hc hm hz hr h => injection hv with h1 h2 h3; subst h3; exact .inr ⟨g, h1, hS, cur, hb, hc, hm, hz, hr, h⟩
theorem OwG.take_ {α : Type} [Rep α] {w : World} {e : TypeId} {g c : Nat} {F : Nat → FP} {xs : List α} (og : OwG w e g c F xs) (k : Nat) (hk : k ≤ xs.length) : OwG w e g c F (xs.take k) := by
  obtain ⟨cur, hb, hc, hm, hz, hr, h⟩ := og
  refine ⟨cur, hb, by rw [List.length_take]; omega, hm, hz, hr.mono (by rw [List.length_take]; omega) (Nat.le_refl _), fun j hj => ?_⟩
  have hj' : j < xs.length := by rw [List.length_take] at hj; omega
  rw [List.getElem_take]
  exact h j hj'

theorem step_app {α : Type} [Rep α] {P : Program} {w : World} {e : TypeId} {S S2 : FP} {v : Value} {xs ys : List α} {ops : Array Oper} {o : Oper} {a : Act} {K : Act → World → Prop} {Q : Exit → Act → World → Prop} {E : Prop} (hgd : o.guard = none) (s x : Operand) (t : TypeId) (z : Value)
    (ho : o.op = .call { callee := .builtin .append, args := #[s, x], argTypes := #[t, t] })
    (ht : P.underlying t = some (.slice e)) (hinfo : (P.info? e).map (fun i => (i.zero, i.size, i.bytes)) = some (some z, Rep.size α, Rep.bytes α)) (hzs : z.cells.size = Rep.size α)
    (A : Option Addr) (c : Nat) (hs : a.eval s = v) (hx : a.eval x = .slice A ys.length c) (hv : Ow w e S v xs) (hy : Rd w S2 A c ys) (hap : ∀ b t, S2 b t → v.ownBlock ≠ some b)
    (hr : Fit (xs.length + ys.length) (Rep.bytes α))
    (h : ∀ v' w', w.grownBy w' v.ownBlock → (v'.ownBlock = v.ownBlock ∨ v'.ownBlock = some w.heap.size) →
      (∀ S' : FP, (∀ b t, S b t → b < w.heap.size → S' b t) → (∀ b t, S2 b t → b < w.heap.size → S' b t) → S' w.heap.size (e, 0, 0) → Ow w' e S' v' (xs ++ ys)) → K (a.put o.dst v') w') :
    if Region.wanted o (yielded ops a.tmps) = true then Oper.wp P o a w K Q else E := by
  have hw : Region.wanted o (yielded ops a.tmps) = true := by simp [Region.wanted, hgd]
  rw [if_pos hw]
  obtain ⟨v', w', hrun, h2, h3, h4⟩ := run_app (P := P) t o.type z ht hinfo hzs hv A c hy hap hr
  unfold Oper.wp execOp
  simp only [ho, resolve, invoke, builtin, Sem.run_bind, Sem.run_pure, Result.andThen_ok, List.map_toArray, List.map_cons, List.map_nil, hs, hx, hrun]
  exact h v' w' h2 h3 h4

/-- A row that holds one sector of zeros, fresh. -/
theorem zero_row (W : World) : Rd ((W.alloc (.cells (madeCells #[.int .u8 0] 64) 5)).alloc (.cells #[.slice (some ⟨W.heap.size, 0, none⟩) 64 64] 36)) (fun b t => W.heap.size ≤ b ∧ (t = tL ∨ t = tB)) (some ⟨W.heap.size + 1, 0, none⟩) 1 [zero3] := by
  have hz : Rd (α := UInt8) (W.alloc (.cells (madeCells #[.int .u8 0] 64) 5)) (fun b t => W.heap.size ≤ b ∧ (t = tL ∨ t = tB)) (some ⟨W.heap.size, 0, none⟩) 64 zero3 := by
    refine ⟨by simp [zero3], by show 64 * 1 ≤ _; decide, fun _ => ⟨_, madeCells #[.int .u8 0] 64, tB, rfl, rfl, heap_alloc_new W _, ⟨Nat.le_refl _, .inr rfl⟩, fun j hj => ?_⟩⟩
    have hj' : j < 64 := by simpa [zero3] using hj
    have e1 : ((madeCells #[Value.int .u8 0] 64).toList.drop (0 + j * Rep.size UInt8)).take (Rep.size UInt8) = [.int .u8 0] := by
      show (List.drop (0 + j * 1) _).take 1 = _
      rw [Nat.zero_add, Nat.mul_one]
      have hl : j < (madeCells #[Value.int .u8 0] 64).toList.length := by simp [size_madeCells]; exact hj'
      rw [List.drop_eq_getElem_cons hl]
      simp [madeCells, Nat.mod_one]
    rw [e1]
    show [Value.int .u8 0] = [Value.int .u8 ((zero3[j] : UInt8).toNat : Int)]
    have : zero3[j] = 0 := List.getElem_replicate ..
    rw [this]
    rfl
  have := Rd.lit1 (α := List UInt8) (W.alloc (.cells (madeCells #[.int .u8 0] 64) 5)) 36 (x := zero3) (cs := [.slice (some ⟨W.heap.size, 0, none⟩) 64 64]) ⟨_, _, rfl, hz⟩ (by show 1 * 24 ≤ _; decide)
  rw [World.size_alloc] at this
  exact this.mono fun b t h => by
    rcases h with h | h
    · exact h.1
    · exact ⟨by omega, .inl h.2⟩
theorem Ow.ne_box {α : Type} [Rep α] {w : World} {e t : TypeId} {S : FP} {v : Value} {xs : List α} {g : Nat} {cs : List Value} (o : Ow w e S v xs) (x : Bx w g cs t) (h : t ≠ e) : v.ownBlock ≠ some g := by
  cases o with
  | nil_ => intro e1; simp [Value.ownBlock] at e1
  | row_ g' cap cur xs hb _ _ _ _ _ _ =>
    intro e1
    have : g' = g := by simpa [Value.ownBlock] using e1
    subst this
    have hx := x.blk
    rw [hb] at hx
    injection hx with hx
    injection hx with _ h2 _
    exact h h2.symm
/-- What lies behind some rounds. -/
def Filled (B0 B : Nat) (V : Value) (cap : Int) (w : World) (l : List (List UInt8)) (wr : World) : Prop := ∃ A c, Bx wr B [.slice A l.length c, V, .int .i64 cap] 30 ∧ Ow wr 36 (FrL3 B0) (.slice A l.length c) l ∧
  Below B0 w wr ∧ ∀ S : FP, (∀ b t, S b t → b ≠ B ∧ (t ≠ tL ∨ b < B0)) → Kp w wr S S
theorem Filled.did {B0 B : Nat} {V : Value} {cap : Int} {w : World} {l : List (List UInt8)} {wr : World} (h : Filled B0 B V cap w l wr) : Did B0 B V cap l w (.returned (.tuple #[])) wr := ⟨rfl, h⟩
theorem Filled.start {B0 B : Nat} {V : Value} {cap : Int} {w : World} {l : List (List UInt8)} {A : Option Addr} {c : Nat} {os : Obj} (k : Nat) (m : Nat) (hm : m = (l.take k).length) (hB : B0 ≤ B) (hB0 : B0 ≤ w.heap.size) (x : Bx w B [.slice A l.length c, V, .int .i64 cap] 30) (o : Ow w 36 (FrL3 B0) (.slice A l.length c) l) :
    Filled B0 B V cap w (l.take k) ((w.setCell ⟨B, 0, none⟩ (.slice A m c)).alloc os).drew := by
  subst hm
  have hS : ∀ b u, FrL3 B0 b u → b ≠ B ∨ u ≠ (30, 0, 0) := fun b u h => .inr (by rcases h.2 with h | h <;> (rw [h]; decide))
  have ot : Ow w 36 (FrL3 B0) (.slice A (l.take k).length c) (l.take k) := by
    rcases o.form2 with ⟨rfl, rfl, rfl⟩ | ⟨g, rfl, hg, og⟩
    · rw [List.take_nil]; exact .nil_
    · by_cases hk : k ≤ l.length
      · exact (og.take_ k hk).ow hg fun _ _ _ _ h => h
      · rw [List.take_of_length_le (by omega)]; exact o
  refine ⟨A, c, ((x.set_ 0 _).alloc os).drew, ?_, (((Below.refl B0 w).setCell hB _).alloc (by simp [World.setCell]; omega) os).drew, fun S hS => ?_⟩
  · exact ((ot.move (Kp.box x hS 0 _)).move (Kp.alloc _ os _)).move (Kp.drewN _ 1 _)
  · exact ((Kp.box x (fun b u h => .inl (hS b u h).1) 0 _).trans (Kp.alloc _ os _)).trans (Kp.drewN _ 1 _)

theorem filled_step {B0 B : Nat} {V : Value} {cap : Int} {w wr W w2 : World} {l : List (List UInt8)} {j n : Nat} {A' F2 : Option Addr} {c' e2 : Nat} (b' : Below B0 w wr) (kp' : ∀ S : FP, (∀ b t, S b t → b ≠ B ∧ (t ≠ tL ∨ b < B0)) → Kp w wr S S) (hB : B0 ≤ B)
    (x' : Bx wr B [.slice A' n c', V, .int .i64 cap] 30) (o' : Ow wr 36 (FrL3 B0) (.slice A' n c') (l ++ List.replicate j zero3))
    (hbX : Below wr.heap.size wr W) (xX : Bx W B [.slice A' n c', V, .int .i64 cap] 30) (hg : W.grownBy w2 (Value.slice A' n c').ownBlock) (hat : (Value.slice F2 ((l ++ List.replicate j zero3) ++ [zero3]).length e2).ownBlock = (Value.slice A' n c').ownBlock ∨ (Value.slice F2 ((l ++ List.replicate j zero3) ++ [zero3]).length e2).ownBlock = some W.heap.size)
    (hn : ∀ S' : FP, (∀ b t, FrL3 B0 b t → b < W.heap.size → S' b t) → (∀ b t, (wr.heap.size ≤ b ∧ (t = tL ∨ t = tB)) → b < W.heap.size → S' b t) → S' W.heap.size (36, 0, 0) → Ow w2 36 S' (.slice F2 ((l ++ List.replicate j zero3) ++ [zero3]).length e2) ((l ++ List.replicate j zero3) ++ [zero3]))
    (hln : (l ++ List.replicate j zero3).length = n) : Filled B0 B V cap w (l ++ List.replicate (j + 1) zero3) (w2.setCell ⟨B, 0, none⟩ (.slice F2 (n + 1) e2)) := by
  have hl2 : (l ++ List.replicate j zero3) ++ [zero3] = l ++ List.replicate (j + 1) zero3 := by rw [List.append_assoc]; congr 1; exact List.replicate_succ'.symm
  have hl3 : (l ++ List.replicate (j + 1) zero3).length = n + 1 := by rw [← hl2, List.length_append, hln]; rfl
  rw [hl2] at hn hat
  rw [hl3] at hn hat
  have oX := o'.below hbX
  have x2 := xX.grown hg (fun e => oX.ne_box xX (by decide) e.symm)
  have hB0 := x'.lt
  have hz := hbX.size
  have hS : ∀ b u, FrL3 B0 b u → b ≠ B ∨ u ≠ (30, 0, 0) := fun b u h => .inr (by rcases h.2 with h | h <;> (rw [h]; decide))
  have on := hn (FrL3 B0) (fun b t h _ => h) (fun b t h _ => ⟨by have := h.1; omega, h.2⟩) ⟨by omega, .inl rfl⟩
  have hge : ∀ k, (Value.slice A' n c').ownBlock = some k → B0 ≤ k := fun k hk => (o'.at_S k hk).1
  refine ⟨F2, e2, by rw [hl3]; exact x2.set_ 0 _, by rw [hl3]; exact on.move (Kp.box x2 hS 0 _), ?_, fun S hS' => ?_⟩
  · exact ((b'.trans (hbX.mono (by omega))).grown hg (by omega) hge).setCell hB _
  · exact (((kp' S hS').trans (Kp.below hbX S)).trans (Kp.app' oX hg fun b t h => by
      rcases (hS' b t h).2 with h1 | h1
      · exact .inl h1
      · exact .inr fun e => by have := hge b e; omega)).trans (Kp.box x2 (fun b u h => .inl (hS' b u h).1) 0 _)
set_option maxHeartbeats 1000000 in
theorem do_length (B0 B : Nat) (V : Value) (cap : Int) (l : List (List UInt8)) (A A3 : Option Addr) (c c3 : Nat) (k : Nat) (data : List UInt8) (w : World) (hB : B0 ≤ B) (hB0 : B0 ≤ w.heap.size) (x : Bx w B [.slice A l.length c, V, .int .i64 cap] 30) (o : Ow w 36 (FrL3 B0) (.slice A l.length c) l) (hl : l.length ≤ 65536)
    (hk : k ≤ 65536) :
    Calls Try.prog 32 #[.pointer (some ⟨B, 0, none⟩), .agg #[.int .i64 2, .int .i64 k, .slice A3 data.length c3]] w (Did B0 B V cap (l.take k ++ List.replicate (k - l.length) zero3) w) := by
  have hxl := x.lt
  have xc := x.three
  have hne : B ≠ w.heap.size := by omega
  have hlc : k ≤ l.length → k ≤ c := fun h => by rcases o.form2 with ⟨rfl, rfl, rfl⟩ | ⟨g, rfl, hg, og⟩; exact h; have := og.cap_le; omega
  have hlc2 : l.length ≤ c := by rcases o.form2 with ⟨rfl, rfl, rfl⟩ | ⟨g, rfl, hg, og⟩; exact Nat.le_refl _; exact og.cap_le
  by_cases hkl : k < l.length
  · have hkc := hlc (by omega)
    clear hlc
    go_enter Try.func32, Try.ntmps32
    go_wp2
    go_region
    all_goals go_wp2
    all_goals
      have st := Lib.hid (Filled.start (os := .cells #[.int .i64 2, .int .i64 k, .slice A3 data.length c3] 49) k k (by rw [List.length_take]; omega) hB hB0 x o)
      go_loopw [30] (fun i wr => ∃ j : Nat, j ≤ 0 ∧ i = .int .i64 j ∧ Filled B0 B V cap w (l.take k) wr) (fun i _ => 1 - (intOf i).toNat)
      case atStart => exact ⟨0, Nat.le_refl _, rfl, st⟩
      case round =>
        obtain ⟨j, hj, rfl, hf⟩ := hrel
        obtain rfl : j = 0 := by omega
        clear st
        go_wp2
        go_end0
        have e0 : l.take k ++ List.replicate (k - l.length) zero3 = l.take k := by rw [show k - l.length = 0 by omega, List.replicate_zero, List.append_nil]
        first | exact hf.did | (rw [e0]; exact hf.did)
  · have hmk : ∀ W : World, (Instr.makeSlice 36 (.int .i64 64) (.int .i64 64)).run Try.prog W = .ok (.slice (some ⟨W.heap.size, 0, none⟩) 64 64) (W.alloc (.cells (madeCells #[.int .u8 0] 64) 5)) := fun W => run_make_row' (P := Try.prog) 36 5 (.int .u8 0) 1 Try.underlying36 info5 rfl .i64 .i64 64 (by decide) (by decide) W
    go_enter Try.func32, Try.ntmps32
    go_wp2
    go_region
    all_goals go_wp2
    all_goals
      have st := Filled.start (os := .cells #[.int .i64 2, .int .i64 k, .slice A3 data.length c3] 49) l.length l.length (by rw [List.take_length]) hB hB0 x o
      rw [List.take_length] at st
      go_loopw [30] (fun i wr => ∃ j : Nat, j ≤ k - l.length ∧ i = .int .i64 j ∧ Filled B0 B V cap w (l ++ List.replicate j zero3) wr) (fun i _ => k - l.length - (intOf i).toNat)
      case atStart => exact ⟨0, Nat.zero_le _, rfl, by simpa using st⟩
      case round =>
        obtain ⟨j, hj, rfl, hf⟩ := hrel
        clear st xc
        by_cases hjk : j < k - l.length
        · obtain ⟨A', c', x', o', b', kp'⟩ := hf
          have xc := x'.three
          have hxl' := x'.lt
          have hne' : B ≠ wr.heap.size := by omega
          have hne2 : B ≠ wr.heap.size + 1 := by omega
          go_wp2
          have hbX : Below wr.heap.size wr (((wr.alloc (.cells (madeCells #[.int .u8 0] 64) 5)).alloc (.cells #[.slice (some ⟨wr.heap.size, 0, none⟩) 64 64] 36)).drew) := (below_alloc (below_alloc (Below.refl _ _) _) _).drew
          have hap : ∀ b (t : BT), (wr.heap.size ≤ b ∧ (t = tL ∨ t = tB)) → (Value.slice A' (l ++ List.replicate j zero3).length c').ownBlock ≠ some b := fun b t h e => by have := o'.lt b e; omega
          have oX := o'.below hbX
          have xX := x'.keep hbX
          have zr := (zero_row wr).move (Kp.drewN _ 1 _)
          have hu := Try.underlying22
          have hln : (l ++ List.replicate j zero3).length = l.length + j := by simp
          rw [hln] at x' o' xc hap oX xX
          go_region_law (refine step_app (v := .slice A' (l.length + j) c') (xs := l ++ List.replicate j zero3) (ys := [zero3]) rfl (.tmp 36) (.tmp 38) _ _ rfl hu info36 rfl _ _ rfl rfl oX zr hap (by rw [hln]; show (l.length + j + 1) * 24 ≤ _; omega) ?_; intro v2 w2 hg hat hn; obtain ⟨F2, e2, hF, _⟩ := (hn (fun _ _ => True) (fun _ _ _ _ => trivial) (fun _ _ _ _ => trivial) trivial).rd; subst hF; have x2 := xX.grown hg (fun e => oX.ne_box xX (by decide) e.symm); have y2 := x2.three)
          all_goals
            go_wp2_with fail
            go_roundw
            case rel => exact ⟨j + 1, by omega, by go_num, filled_step b' kp' hB x' o' hbX xX hg hat hn hln⟩
            case measure => simp [intOf]; omega
        · go_wp2
          go_end0
          have : j = k - l.length := by omega
          subst this
          have e0 : l.take k = l := List.take_of_length_le (by omega)
          first | exact hf.did | (rw [e0]; exact hf.did)
end Go.Proofs.Ytfmmbkggamojkaa
