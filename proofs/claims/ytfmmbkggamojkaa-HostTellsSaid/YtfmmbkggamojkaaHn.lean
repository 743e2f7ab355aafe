/- Layer 3, a sector is read. No condition but that the state reads. -/
import Derived.Test.YtfmmbkggamojkaaHm
import Derived.Laws.CopyOwn
set_option linter.unusedVariables false
set_option linter.unusedSimpArgs false
namespace Go.Proofs.Ytfmmbkggamojkaa
open Go.RowKit

/-- One act more, as a read sees it. -/
def readStep (at_ : Int) (st : Bool × List UInt8) (a : Act3) : Bool × List UInt8 :=
  if a.what = 2 then (decide (at_ < a.at_), if at_ < a.at_ ∧ st.1 = true then st.2 else zero3) else if a.at_ = at_ ∧ st.1 = true then (st.1, a.data) else st
def read0 (l : List (List UInt8)) (k : Nat) : Bool × List UInt8 := if h : k < l.length then (true, l[k]) else (false, zero3)
def readF (l : List (List UInt8)) (k : Nat) (ws : List Act3) : Bool × List UInt8 := ws.foldl (readStep k) (read0 l k)
def readR (s : St3) (at_ : Int) : List UInt8 × Int := if ok3 s then (if at_ < 0 ∨ size3 s ≤ at_ then ([], 4) else ((readF s.secs at_.toNat s.waits).2, 0)) else ([], 9)
theorem readF_next (l : List (List UInt8)) (j : Nat) (ws : List Act3) (k : Nat) (h : k < ws.length) : readF l j (ws.take (k + 1)) = readStep j (readF l j (ws.take k)) ws[k] := by
  rw [List.take_succ_eq_append_getElem h, readF, List.foldl_append]
  rfl

abbrev FrB3 (w : World) : FP := fun b t => w.heap.size ≤ b ∧ t = (5, 0, 0)
/-- Octets as cells. -/
def bcs (xs : List UInt8) : List Value := xs.map fun b => .int .u8 (b.toNat : Int)
theorem bcs_len (xs : List UInt8) : (bcs xs).length = xs.length := by simp [bcs]
theorem bcs_one (xs : List UInt8) : ∀ v ∈ bcs xs, v.oneCell' = true := by
  intro v hv
  obtain ⟨b, _, rfl⟩ := List.mem_map.1 hv
  rfl
theorem rd_src {w : World} {S : FP} {ad : Addr} {c : Nat} {xs : List UInt8} (h : Rd w S (some ad) c xs) : ∀ j v, (bcs xs)[j]? = some v → w.cell? (ad.add j) = some v := fun j v hv => by
  have hj : j < xs.length := by have := (List.getElem?_eq_some_iff.1 hv).1; rwa [bcs_len] at this
  obtain ⟨ad2, u, e, hu, hh⟩ := h.at1 rfl j hj
  cases e
  simp only [Rep.has, List.cons.injEq, and_true] at hh
  subst hh
  rw [hu]
  simp only [bcs, List.getElem?_map, List.getElem?_eq_getElem hj, Option.map_some] at hv
  exact hv
theorem splice_all {α : Type} (xs ys : List α) (h : xs.length = ys.length) : splice xs 0 ys = ys := by simp [splice, h]
/-- 'copy(d, s)' over the whole of a row of one's own. -/
theorem wl_copy_row {P : Program} {w : World} {ops : Array Oper} {rest : List Oper} {o : Oper} {a : Act} {Q : Exit → Act → World → Prop} (hgd : o.guard = none) (d s : Operand) (T e : TypeId)
    (ho : o.op = .call { callee := .builtin .copy, args := #[d, s], argTypes := #[T, T] }) (hu : P.underlying T = some (.slice e)) (hsz : (P.info? e).map (·.size) = some 1) (A : Option Addr) (B n c1 c : Nat) (xs ys : List UInt8) {S : FP}
    (hd : a.eval d = .slice (some ⟨B, 0, none⟩) n c1) (hs : a.eval s = .slice A n c) (x : Bx w B (bcs xs) e) (hx : xs.length = n) (hy : ys.length = n) (hr : Rd w S A c ys) {B0 : Nat} {w0 : World} (hb : Below B0 w0 w) (hB : B0 ≤ B)
    (h : ∀ w', Bx w' B (bcs ys) e → Below B0 w0 w' → wpList P ops Q rest (a.put o.dst (goInt n)) w') : wpList P ops Q (o :: rest) a w := by
  subst hy
  refine wpList_copy_splice hgd d s T T ho e hu hsz _ _ _ _ _ _ hd hs B 0 (bcs xs) e x.blk (bcs ys) (by rw [bcs_len]; exact (Nat.min_self _).symm) (fun hp => ⟨rfl, ?_⟩) (by rw [bcs_len, bcs_len]; omega) (bcs_one _) B0 w0 hb hB fun w' hg hb' => ?_
  · rcases A with _ | ad
    · have := nil_of_none hr
      subst this
      simp [bcs] at hp
    · exact ⟨ad, rfl, rd_src hr⟩
  · rw [bcs_len]
    have hg := hg.out
    rw [splice_all _ _ (by rw [bcs_len, bcs_len]; exact hx)] at hg
    exact h w' ⟨hg⟩ hb'
theorem Bx.setCells {w : World} {g : Nat} {t : TypeId} : ∀ (vs pre rest : List Value) {w : World}, Bx w g (pre ++ rest) t → rest.length = vs.length → Bx (w.setCells g pre.length vs) g (pre ++ vs) t
  | [], pre, rest, w, x, h => by rw [List.eq_nil_of_length_eq_zero h] at x; exact x
  | v :: vs, pre, [], w, x, h => by simp at h
  | v :: vs, pre, r :: rs, w, x, h => by
    have x1 := x.set_ pre.length v
    have e1 : (pre ++ r :: rs).set pre.length v = (pre ++ [v]) ++ rs := by simp
    rw [e1] at x1
    have := Bx.setCells (w := w) vs (pre ++ [v]) rs x1 (by simpa using h)
    simpa [World.setCells] using this
theorem below_wipe {B g : Nat} {w : World} (hg : B ≤ g) : ∀ (vs : List Value) (o : Nat) (W : World), Below B w W → Below B w (W.setCells g o vs)
  | [], _, _, h => h
  | v :: vs, o, _, h => below_wipe hg vs (o + 1) _ (h.setCell hg v)
theorem Bx.wipe {w : World} {g : Nat} {t : TypeId} {xs : List UInt8} (x : Bx w g (bcs xs) t) (h : xs.length = 64) : Bx (w.setCells g 0 (List.replicate 64 (.int .u8 0))) g (bcs zero3) t := by
  have := Bx.setCells (w := w) (List.replicate 64 (.int .u8 0)) [] (bcs xs) (by simpa using x) (by simp [bcs_len, h])
  simpa [zero3, bcs] using this
theorem Bx.ow {w : World} {g : Nat} {e : TypeId} {xs : List UInt8} {S : FP} {n : Nat} (x : Bx w g (bcs xs) e) (hn : xs.length = n) (hm : n ≤ 140737488351232) (hS : S g (e, 0, 0)) : Ow w e S (.slice (some ⟨g, 0, none⟩) n n) xs := by
  subst hn
  refine .row_ g xs.length (bcs xs).toArray xs x.blk hS (Nat.le_refl _) (by simp [maxLen]; omega) (by show _ = xs.length * 1; simp [bcs_len]) (by show xs.length * 1 ≤ _; omega) fun j hj => ?_
  show List.take 1 (List.drop (j * 1) (bcs xs)) = [Value.int .u8 ((xs[j]).toNat : Int)]
  have hl : j < (bcs xs).length := by rw [bcs_len]; exact hj
  rw [Nat.mul_one, List.drop_eq_getElem_cons hl]
  simp [bcs]
theorem made_zero : (madeCells #[Value.int .u8 0] 64).toList = bcs zero3 := by
  apply List.ext_getElem
  · simp [size_madeCells, bcs_len, zero3]
  · intro i h1 h2
    have e1 : bcs zero3 = List.replicate 64 (.int .u8 0) := by simp only [bcs, zero3, List.map_replicate]; rfl
    simp only [e1, List.getElem_replicate]
    simp [madeCells, Nat.mod_one]
theorem Bx.made (W : World) (e : TypeId) : Bx (W.alloc (.cells (madeCells #[.int .u8 0] 64) e)) W.heap.size (bcs zero3) e := by
  have : madeCells #[Value.int .u8 0] 64 = (bcs zero3).toArray := by apply Array.ext'; rw [made_zero]
  rw [this]
  exact Bx.new W _ e

/-- What a read hands back. -/
def ReadEnd (r : List UInt8 × Int) (w : World) (e : Ending) (w' : World) : Prop := ∃ v, e = .returned (.tuple #[v, .int .i64 r.2]) ∧ Below w.heap.size w w' ∧ Ow w' 5 (FrB3 w) v r.1
theorem hcl_row {W : World} {B : Nat} {xs : List UInt8} (x : Bx W B (bcs xs) 5) (h : xs.length = 64) : ∀ ty, (Builtin.clear_ #[36] ty #[.slice (some ⟨B, 0, none⟩) 64 64]).run Try.prog W = .ok (.tuple #[]) (W.setCells B 0 (List.replicate 64 (.int .u8 0))) := fun ty =>
  Lib.run_clear_slice W _ 5 ty (.int .u8 0) Try.underlying36 (fun w => by first | exact run_zeroValue_of_info (by kernel_rfl) w | simp) rfl rfl B 0 64 64 (by decide)
    (fun j hj => by rw [x.cell (0 + j) (by rw [bcs_len]; omega)]; rfl) (fun j hj => x.frozen _)
end Go.Proofs.Ytfmmbkggamojkaa
