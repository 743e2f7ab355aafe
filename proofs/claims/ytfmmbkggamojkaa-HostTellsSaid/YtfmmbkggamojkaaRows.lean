/-
  No cell of these rows narrows 'for every input' (looked for: loops, veiled, ifaces, maps, wideKeys, modest, calm, conditions, laid).
  DERIVED. THE GIVEN ROWS OF THIS SEAT. 5 by the template 'for every input the law returns true; each argument reads behind the call as it read before'; 0 by the template 'total and deterministic' (their statements: YtfmmbkggamojkaaTotals.lean).
  GIVEN WITH THE SEED: the statements are not yours to turn. If you find one false, say at which input.
  Laid BY PROGRAM, IN A SANDBOX (cutbox-rows.mjs): the forced cells as the released guide's own fill.sh prints them over the translation 6329a5b8db926c8e… (all of the seat's roots in one cut). By AI agents, Wed Nov 11 2026. No macro, syntax, notation, axiom, sorry.
-/
import Derived.Test.YtfmmbkggamojkaaChecked
import GoSem.Claim
import GoSem.ClaimJoined
import GoSem.ClaimMapViews
import Derived.JoinedTies
import Derived.KernelRfl
namespace Go.Proofs.Ytfmmbkggamojkaa
/- THE CELL 'sum', in the pinned program and in every row, IS THE sha256 OF THE DUMP (.gsa) THAT YtfmmbkggamojkaaProg.lean LOADS. Nothing in Lean hashes anything: it is a label: what it is worth is what the hold of that sum in a sandbox is worth. -/
noncomputable def Try.pinned : Pinned := { name := "ytfmmbkggamojkaa", sum := "6329a5b8db926c8ef37e6cabb07adbd370eee69d5a5a32178ddf636e0036b49d", checked := Try.checked }
namespace Rows
def none {H : Type} : Left H := { results := [], args := [] }

/-- 'flagstonelaw03.HostKeeps': WHATEVER THE INPUT: true; the input reads as it did. -/
def hostKeepsSpec : ChangeSpec := { name := "hostKeeps", fn := fun _ => fun
  | [d1, d2] => { results := [.lit (.bool true)], args := [d1, d2] }
  | _ => none }
def hostKeepsRow : OpenClaim := { program := "ytfmmbkggamojkaa", sum := "6329a5b8db926c8ef37e6cabb07adbd370eee69d5a5a32178ddf636e0036b49d", func := "flagstone/flagstonelaw03.HostKeeps", spec := "hostKeeps", unfollowed := true, recurses := true, apart := false }
def HostKeepsSaid : Prop := hostKeepsRow.holds Try.pinned (OpenSpec.ofChange hostKeepsSpec)

/-- ITS FALSE NEIGHBOUR: 'it returns false'. Refute it at one input. -/
def hostKeepsWrong : ChangeSpec := { name := "hostKeeps", fn := fun _ => fun
  | [d1, d2] => { results := [.lit (.bool false)], args := [d1, d2] }
  | _ => none }
def HostKeepsWrongFalsely : Prop := hostKeepsRow.holds Try.pinned (OpenSpec.ofChange hostKeepsWrong)

/-- 'flagstonelaw03.HostOwn': WHATEVER THE INPUT: true; the input reads as it did. -/
def hostOwnSpec : ChangeSpec := { name := "hostOwn", fn := fun _ => fun
  | [d1, d2, d3, d4] => { results := [.lit (.bool true)], args := [d1, d2, d3, d4] }
  | _ => none }
def hostOwnRow : OpenClaim := { program := "ytfmmbkggamojkaa", sum := "6329a5b8db926c8ef37e6cabb07adbd370eee69d5a5a32178ddf636e0036b49d", func := "flagstone/flagstonelaw03.HostOwn", spec := "hostOwn", unfollowed := true, recurses := true, apart := false }
def HostOwnSaid : Prop := hostOwnRow.holds Try.pinned (OpenSpec.ofChange hostOwnSpec)

/-- ITS FALSE NEIGHBOUR: 'it returns false'. Refute it at one input. -/
def hostOwnWrong : ChangeSpec := { name := "hostOwn", fn := fun _ => fun
  | [d1, d2, d3, d4] => { results := [.lit (.bool false)], args := [d1, d2, d3, d4] }
  | _ => none }
def HostOwnWrongFalsely : Prop := hostOwnRow.holds Try.pinned (OpenSpec.ofChange hostOwnWrong)

/-- 'flagstonelaw03.HostOrder': WHATEVER THE INPUT: true; the input reads as it did. -/
def hostOrderSpec : ChangeSpec := { name := "hostOrder", fn := fun _ => fun
  | [d1, d2, d3, d4, d5, d6] => { results := [.lit (.bool true)], args := [d1, d2, d3, d4, d5, d6] }
  | _ => none }
def hostOrderRow : OpenClaim := { program := "ytfmmbkggamojkaa", sum := "6329a5b8db926c8ef37e6cabb07adbd370eee69d5a5a32178ddf636e0036b49d", func := "flagstone/flagstonelaw03.HostOrder", spec := "hostOrder", unfollowed := true, recurses := true, apart := false }
def HostOrderSaid : Prop := hostOrderRow.holds Try.pinned (OpenSpec.ofChange hostOrderSpec)

/-- ITS FALSE NEIGHBOUR: 'it returns false'. Refute it at one input. -/
def hostOrderWrong : ChangeSpec := { name := "hostOrder", fn := fun _ => fun
  | [d1, d2, d3, d4, d5, d6] => { results := [.lit (.bool false)], args := [d1, d2, d3, d4, d5, d6] }
  | _ => none }
def HostOrderWrongFalsely : Prop := hostOrderRow.holds Try.pinned (OpenSpec.ofChange hostOrderWrong)

/-- 'flagstonelaw03.HostTells': WHATEVER THE INPUT: true; the input reads as it did. -/
def hostTellsSpec : ChangeSpec := { name := "hostTells", fn := fun _ => fun
  | [d1, d2, d3, d4, d5] => { results := [.lit (.bool true)], args := [d1, d2, d3, d4, d5] }
  | _ => none }
def hostTellsRow : OpenClaim := { program := "ytfmmbkggamojkaa", sum := "6329a5b8db926c8ef37e6cabb07adbd370eee69d5a5a32178ddf636e0036b49d", func := "flagstone/flagstonelaw03.HostTells", spec := "hostTells", unfollowed := true, recurses := true, apart := false }
def HostTellsSaid : Prop := hostTellsRow.holds Try.pinned (OpenSpec.ofChange hostTellsSpec)

/-- ITS FALSE NEIGHBOUR: 'it returns false'. Refute it at one input. -/
def hostTellsWrong : ChangeSpec := { name := "hostTells", fn := fun _ => fun
  | [d1, d2, d3, d4, d5] => { results := [.lit (.bool false)], args := [d1, d2, d3, d4, d5] }
  | _ => none }
def HostTellsWrongFalsely : Prop := hostTellsRow.holds Try.pinned (OpenSpec.ofChange hostTellsWrong)

/-- 'flagstonelaw03.HostLengths': WHATEVER THE INPUT: true; the input reads as it did. -/
def hostLengthsSpec : ChangeSpec := { name := "hostLengths", fn := fun _ => fun
  | [d1, d2, d3] => { results := [.lit (.bool true)], args := [d1, d2, d3] }
  | _ => none }
def hostLengthsRow : OpenClaim := { program := "ytfmmbkggamojkaa", sum := "6329a5b8db926c8ef37e6cabb07adbd370eee69d5a5a32178ddf636e0036b49d", func := "flagstone/flagstonelaw03.HostLengths", spec := "hostLengths", unfollowed := true, recurses := true, apart := false }
def HostLengthsSaid : Prop := hostLengthsRow.holds Try.pinned (OpenSpec.ofChange hostLengthsSpec)

/-- ITS FALSE NEIGHBOUR: 'it returns false'. Refute it at one input. -/
def hostLengthsWrong : ChangeSpec := { name := "hostLengths", fn := fun _ => fun
  | [d1, d2, d3] => { results := [.lit (.bool false)], args := [d1, d2, d3] }
  | _ => none }
def HostLengthsWrongFalsely : Prop := hostLengthsRow.holds Try.pinned (OpenSpec.ofChange hostLengthsWrong)

/- THE SECOND FORM. 'bulk': how many values and letters a reading holds, each counted each time it is reached (what is shared counts as often as it is met; a slice's spare places count too). A statement '..UptoSaid' is the law's where the arguments, and the package variables that the reading takes, are together of bulk at most 1048576: NARROWER than '..Said'. Prove '..Said' where nothing that the law and all that it calls make is longer than what came in: it says more and counts as full. Else prove '..UptoSaid'. A law counts once. -/
mutual
def uptoBulk {H : Type} : DataW H → Nat
  | .lit (.string bytes) => bytes.length + 1
  | .lit _ => 1
  | .nil => 1
  | .ptr d => uptoBulk d + 1
  | .slice elems spare => uptoBulkAll elems + uptoBulkAll spare + 1
  | .agg parts => uptoBulkAll parts + 1
  | .iface _ d => uptoBulk d + 1
  | .map entries => uptoBulkEntries entries + 1
  | .held _ => 1
def uptoBulkAll {H : Type} : List (DataW H) → Nat
  | [] => 0
  | d :: r => uptoBulk d + uptoBulkAll r
def uptoBulkEntries {H : Type} : List (Lit × DataW H) → Nat
  | [] => 0
  | x :: r => uptoBulkEntry x + uptoBulkEntries r
def uptoBulkEntry {H : Type} : Lit × DataW H → Nat
  | (.string bytes, d) => bytes.length + uptoBulk d + 1
  | (_, d) => uptoBulk d + 1
 end
def uptoSmall : (H : Type) → List (DataW H) → Bool := fun _ ds => decide (uptoBulkAll ds ≤ 1048576)
def OpenSpec.upto (s : _root_.Go.ChangeSpec) : _root_.Go.OpenSpec := { _root_.Go.OpenSpec.ofChange s with cond := some uptoSmall }

/-- 'flagstonelaw03.HostKeeps', WHERE WHAT IT READS IS OF BULK AT MOST 1048576: true; the input reads as it did. -/
def hostKeepsUptoRow : OpenClaim := { program := "ytfmmbkggamojkaa", sum := "6329a5b8db926c8ef37e6cabb07adbd370eee69d5a5a32178ddf636e0036b49d", func := "flagstone/flagstonelaw03.HostKeeps", spec := "hostKeeps", unfollowed := true, recurses := true, apart := false, narrowed := true }
def HostKeepsUptoSaid : Prop := hostKeepsUptoRow.holds Try.pinned (OpenSpec.upto hostKeepsSpec)

/-- 'flagstonelaw03.HostOwn', WHERE WHAT IT READS IS OF BULK AT MOST 1048576: true; the input reads as it did. -/
def hostOwnUptoRow : OpenClaim := { program := "ytfmmbkggamojkaa", sum := "6329a5b8db926c8ef37e6cabb07adbd370eee69d5a5a32178ddf636e0036b49d", func := "flagstone/flagstonelaw03.HostOwn", spec := "hostOwn", unfollowed := true, recurses := true, apart := false, narrowed := true }
def HostOwnUptoSaid : Prop := hostOwnUptoRow.holds Try.pinned (OpenSpec.upto hostOwnSpec)

/-- 'flagstonelaw03.HostOrder', WHERE WHAT IT READS IS OF BULK AT MOST 1048576: true; the input reads as it did. -/
def hostOrderUptoRow : OpenClaim := { program := "ytfmmbkggamojkaa", sum := "6329a5b8db926c8ef37e6cabb07adbd370eee69d5a5a32178ddf636e0036b49d", func := "flagstone/flagstonelaw03.HostOrder", spec := "hostOrder", unfollowed := true, recurses := true, apart := false, narrowed := true }
def HostOrderUptoSaid : Prop := hostOrderUptoRow.holds Try.pinned (OpenSpec.upto hostOrderSpec)

/-- 'flagstonelaw03.HostTells', WHERE WHAT IT READS IS OF BULK AT MOST 1048576: true; the input reads as it did. -/
def hostTellsUptoRow : OpenClaim := { program := "ytfmmbkggamojkaa", sum := "6329a5b8db926c8ef37e6cabb07adbd370eee69d5a5a32178ddf636e0036b49d", func := "flagstone/flagstonelaw03.HostTells", spec := "hostTells", unfollowed := true, recurses := true, apart := false, narrowed := true }
def HostTellsUptoSaid : Prop := hostTellsUptoRow.holds Try.pinned (OpenSpec.upto hostTellsSpec)

/-- 'flagstonelaw03.HostLengths', WHERE WHAT IT READS IS OF BULK AT MOST 1048576: true; the input reads as it did. -/
def hostLengthsUptoRow : OpenClaim := { program := "ytfmmbkggamojkaa", sum := "6329a5b8db926c8ef37e6cabb07adbd370eee69d5a5a32178ddf636e0036b49d", func := "flagstone/flagstonelaw03.HostLengths", spec := "hostLengths", unfollowed := true, recurses := true, apart := false, narrowed := true }
def HostLengthsUptoSaid : Prop := hostLengthsUptoRow.holds Try.pinned (OpenSpec.upto hostLengthsSpec)

end Rows
end Go.Proofs.Ytfmmbkggamojkaa
