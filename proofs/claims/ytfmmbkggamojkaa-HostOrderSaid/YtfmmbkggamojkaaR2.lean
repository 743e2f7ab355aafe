/- HostOrder: of two writes to one sector the later one counts, if it is kept; else the elder one, if that is: true whatever comes in. No condition. -/
import Derived.Test.YtfmmbkggamojkaaRu
import Derived.Test.YtfmmbkggamojkaaW2
import Derived.Test.YtfmmbkggamojkaaP5
set_option linter.unusedVariables false
namespace Go.Proofs.Ytfmmbkggamojkaa
open Go.ChangeShapes Go.WideShapes Go.ChangeAt Go.RowKit

theorem order_any {s : St3} {at_ : Int} {a b : List UInt8} {first second : Bool} {S1 S2 S3 S4 : FP} {A1 A2 A3 A4 : Option Addr} {c1 c2 c3 c4 : Nat} {w : World} (ha : InK .i64 at_)
    (h1 : Rd w S1 A1 c1 s.secs) (h2 : Rd w S2 A2 c2 s.waits) (h3 : Rd w S3 A3 c3 a) (h4 : Rd w S4 A4 c4 b) :
    Calls Try.prog 5 #[.agg #[.slice A1 s.secs.length c1, .slice A2 s.waits.length c2, .int .i64 s.cap], .int .i64 at_, .slice A3 a.length c3, .slice A4 b.length c4, .bool first, .bool second] w fun e w' => e = .returned (.bool true) ∧ Below w.heap.size w w' := by
  obtain ⟨X, hX⟩ : ∃ X, flushR s = X := ⟨_, rfl⟩
  obtain ⟨ee, hE⟩ : ∃ ee, err3 (ok3 s) = ee := ⟨_, rfl⟩
  obtain ⟨⟨Y, ef⟩, hY⟩ : ∃ Y, writeR X at_ a = Y := ⟨_, rfl⟩
  obtain ⟨⟨Z, eg⟩, hZ⟩ : ∃ Z, writeR Y at_ b = Z := ⟨_, rfl⟩
  have bad := fun h => order_bad (first := first) (second := second) (Lib.hid hX) (Lib.hid hE) (Lib.hid hY) (Lib.hid hZ) ha h h1 h2 h3 h4
  by_cases hok : ok3 s = true
  · have e0 : ee = 0 := by rw [← hE, hok]; rfl
    have hX' := hX
    rw [flush_secs hok] at hX'
    have t1 : (ee != 0) = false := by rw [e0]; rfl
    rcases write_ok hY with ⟨hf, hy⟩ | ⟨hf, hokX, h0, hs, hd, hy, hokY⟩
    · exact bad (.inr (.inl ⟨t1, by simpa using hf, by rw [hy]; rfl⟩))
    rcases write_ok hZ with ⟨hg, hz⟩ | ⟨hg, _, _, hs2, hd2, hz, hokZ⟩
    · exact bad (.inr (.inr ⟨t1, by rw [hf]; rfl, by simpa using hg, by rw [hz]; rfl⟩))
    obtain ⟨k, rfl⟩ := Int.eq_ofNat_of_zero_le h0
    have hw : X.waits = [] := by rw [← hX']
    have hk : k < X.secs.length := by
      have : size3 X = X.secs.length := by rw [size3, hw]; rfl
      omega
    subst e0
    subst hf
    subst hg
    have hzz : Z = ⟨X.secs, [⟨1, k, a⟩, ⟨1, k, b⟩], X.cap⟩ := by rw [hz, hy, hw]; rfl
    obtain ⟨hkc, hat⟩ := order_at (cap := X.cap) (a := a) (b := b) first second hk
    rw [← hzz] at hkc
    have hC : crashR Z [first, second] = crash3 Z [first, second] := by rw [crashR, if_pos hokZ]
    refine order_ok (C := crash3 Z [first, second]) (Lib.hid hX) (Lib.hid hE) (Lib.hid hY) (Lib.hid hZ) (Lib.hid hC) (Lib.hid (by rw [hokZ]; rfl)) ha hk hkc (Lib.hid ?_) h1 h2 h3 h4
    simp only [hzz]
    exact hat
  · have hok' : ok3 s = false := by simpa using hok
    exact bad (.inl ⟨by rw [← hE, hok']; rfl, by rw [← hX, flushR, crashR, if_neg hok]; rfl⟩)
namespace hostOrder
theorem own : ownKnob Try.prog.godebug = none := by kernel_rfl
theorem laidOut : laidOutB Try.prog = true := by kernel_rfl
set_option maxRecDepth 100000 in
set_option maxHeartbeats 1000000 in
theorem lifted (os : Os) (started : os.Started) (H : Type) (enc : TypeId × Value → H) :
    ReturnsInHanded {} Try.checked os 5 .any (Rows.hostOrderSpec.pre6 enc Try.prog Try.f5 Rows.hostOrderRow.domain false) (Rows.hostOrderSpec.post enc Try.prog Try.f5 false true false false) := by
  refine returnsInHanded_of_change_sized (C := Try.checked) own started (by kernel_rfl) Try.func5
    (ChangeSpec.witness6 (enc := enc) (C := Try.checked) false ⟨#[], #[.agg #[.slice none 0 0, .slice none 0 0, .int .i64 0], .int .i64 0, .slice none 0 0, .slice none 0 0, .bool false, .bool false], []⟩ 8 (by kernel_rfl) (by kernel_rfl) (by kernel_rfl) (by kernel_rfl)) ?_
  intro W base args ds gs before hval0 hW hcnd hsz0 _
  have hsz : (DataW.weightsEach Try.prog (Try.f5.params.toList ++ Rows.hostOrderSpec.plain.varTypes Try.prog) (ds ++ gs)).all (· ≤ reachBytes) = true := hsz0
  have hval : ∀ (j : Nat) t v, Try.f5.params[j]? = some t → args[j]? = some v → Value.okWide Try.prog W .any base t v := hval0
  have hW' := hW
  obtain ⟨p, q, hA0, hV, rfl, hfz, hnd⟩ := hW
  have hA : DataW.TrodAll enc Try.prog W 0 (fun _ => true) true Try.f5.params.toList args.toList ds p := hA0
  rw [Try.params5] at hA hval hsz
  obtain ⟨v0, vs0, d0, ds0, p0, q0, hargs, rfl, rfl, h0, r0⟩ := trodAll_cons hA
  obtain ⟨v1, vs1, d1, ds1, p1, q1, rfl, rfl, rfl, h1, r1⟩ := trodAll_cons r0
  obtain ⟨v2, vs2, d2, ds2, p2, q2, rfl, rfl, rfl, h2, r2⟩ := trodAll_cons r1
  obtain ⟨v3, vs3, d3, ds3, p3, q3, rfl, rfl, rfl, h3, r3⟩ := trodAll_cons r2
  obtain ⟨v4, vs4, d4, ds4, p4, q4, rfl, rfl, rfl, h4, r4⟩ := trodAll_cons r3
  obtain ⟨v5, vs5, d5, ds5, p5, q5, rfl, rfl, rfl, h5, r5⟩ := trodAll_cons r4
  obtain ⟨rfl, rfl, rfl⟩ := trodAll_nil r5
  obtain rfl : args = #[v0, v1, v2, v3, v4, v5] := by cases args; simp_all
  obtain ⟨rfl, rfl⟩ := trodVars_none hV
  have lt0 : ∀ x ∈ p0, x.block < W.heap.size := by obtain ⟨m, hm⟩ := h0; exact DataW.trod_lt m _ _ _ hm
  have lt1 : ∀ x ∈ p1, x.block < W.heap.size := by obtain ⟨m, hm⟩ := h1; exact DataW.trod_lt m _ _ _ hm
  have lt2 : ∀ x ∈ p2, x.block < W.heap.size := by obtain ⟨m, hm⟩ := h2; exact DataW.trod_lt m _ _ _ hm
  have lt3 : ∀ x ∈ p3, x.block < W.heap.size := by obtain ⟨m, hm⟩ := h3; exact DataW.trod_lt m _ _ _ hm
  have lt4 : ∀ x ∈ p4, x.block < W.heap.size := by obtain ⟨m, hm⟩ := h4; exact DataW.trod_lt m _ _ _ hm
  have lt5 : ∀ x ∈ p5, x.block < W.heap.size := by obtain ⟨m, hm⟩ := h5; exact DataW.trod_lt m _ _ _ hm
  have bk0 := h0
  have bk1 := h1
  have bk2 := h2
  have bk3 := h3
  have bk4 := h4
  have bk5 := h5
  obtain ⟨x0, e0⟩ := open_arg u_state hsz (j := 0) rfl rfl h0
  obtain ⟨x2, e2⟩ := open_arg u_bytes hsz (j := 2) rfl rfl h2
  obtain ⟨x3, e3⟩ := open_arg u_bytes hsz (j := 3) rfl rfl h3
  obtain ⟨cs0, rfl, _⟩ := okWide_struct Try.underlying25 (hval 0 25 v0 rfl rfl)
  obtain ⟨A01, k01, A02, k02, hcs0, rd01, rd02⟩ := st_cells e0
  have hcs0' : cs0 = #[.slice A01 x0.1.length k01, .slice A02 x0.2.1.length k02, .int .i64 x0.2.2] := by cases cs0; simp only [Value.cells] at hcs0; rw [hcs0]
  subst hcs0'
  obtain ⟨x1, rfl, rfl, rfl, wf1⟩ := open_int Try.underlying3 (hval 1 3 v1 rfl rfl) h1
  obtain ⟨a2, n2, c2, rfl⟩ := okWide_slice Try.underlying36 (hval 2 36 v2 rfl rfl)
  obtain ⟨A2, k2, hc2, rd2⟩ := e2
  simp only [Value.cells, List.cons.injEq, and_true, Value.slice.injEq] at hc2
  obtain ⟨rfl, rfl, rfl⟩ := hc2
  obtain ⟨a3, n3, c3, rfl⟩ := okWide_slice Try.underlying36 (hval 3 36 v3 rfl rfl)
  obtain ⟨A3, k3, hc3, rd3⟩ := e3
  simp only [Value.cells, List.cons.injEq, and_true, Value.slice.injEq] at hc3
  obtain ⟨rfl, rfl, rfl⟩ := hc3
  obtain ⟨x4, rfl, rfl, rfl⟩ := open_bool Try.underlying4 (hval 4 4 v4 rfl rfl) h4
  obtain ⟨x5, rfl, rfl, rfl⟩ := open_bool Try.underlying4 (hval 5 4 v5 rfl rfl) h5
  clear hA0 hval0 hsz0 hsz
  refine (order_any (s := ⟨x0.1, x0.2.1, x0.2.2⟩) wf1 rd01 rd02 rd2 rd3).mono fun e W' ⟨he, bel⟩ => ?_
  subst he
  exact ⟨_, rfl, _, _, _, [], _, [], hW', trodAll_mk1 (shut_bool Try.underlying4 _), (trodAll_cons_mk (Below.trod laidOut (by kernel_rfl) (of_decide_eq_true (by kernel_rfl)) bk0 bel lt0) (trodAll_cons_mk (Below.trod laidOut (by kernel_rfl) (of_decide_eq_true (by kernel_rfl)) bk1 bel lt1) (trodAll_cons_mk (Below.trod laidOut (by kernel_rfl) (of_decide_eq_true (by kernel_rfl)) bk2 bel lt2) (trodAll_cons_mk (Below.trod laidOut (by kernel_rfl) (of_decide_eq_true (by kernel_rfl)) bk3 bel lt3) (trodAll_cons_mk (Below.trod laidOut (by kernel_rfl) (of_decide_eq_true (by kernel_rfl)) bk4 bel lt4) (trodAll_cons_mk (Below.trod laidOut (by kernel_rfl) (of_decide_eq_true (by kernel_rfl)) bk5 bel lt5) trodAll_mk0)))))), rfl, bel.frame _, fun h => by cases h⟩
theorem over : Rows.hostOrderRow.holds Try.pinned (OpenSpec.ofChange Rows.hostOrderSpec) :=
  OpenClaim.holds_of_wide 5 Try.f5 rfl rfl rfl rfl rfl rfl rfl ⟨rfl, rfl, rfl, rfl, rfl⟩ rfl rfl rfl rfl rfl (by kernel_rfl) Try.func5 (by kernel_rfl)
    (of_decide_eq_true (by kernel_rfl)) (by unfold Func.isWrapper; first | (rw [if_pos (by decide +kernel)]; kernel_rfl) | (rw [if_neg (by decide +kernel)]; exact ⟨rfl, rfl⟩))
    (fun os started H enc _ => lifted os started H enc)
end hostOrder
/-- The statement, proved. -/
theorem hostOrder_holds : Rows.HostOrderSaid := hostOrder.over
#print axioms hostOrder_holds
end Go.Proofs.Ytfmmbkggamojkaa
