/-
  No cell of these rows narrows 'for every input' (looked for: loops, veiled, ifaces, maps, wideKeys, modest, calm, conditions, laid).
  DERIVED. THE GIVEN ROWS OF THIS SEAT. 6 by the template 'for every input the law returns true; each argument reads behind the call as it read before'; 0 by the template 'total and deterministic' (their statements: YtcihfjfbcfgidaaTotals.lean).
  GIVEN WITH THE SEED: the statements are not yours to turn. If you find one false, say at which input.
  Laid BY PROGRAM, IN A SANDBOX (cutbox-rows.mjs): the forced cells as the released guide's own fill.sh prints them over the translation 39e09cf58905f6d7… (all of the seat's roots in one cut). By AI agents, Wed Nov 11 2026. No macro, syntax, notation, axiom, sorry.
-/
import Derived.Test.YtcihfjfbcfgidaaChecked
import GoSem.Claim
import GoSem.ClaimJoined
import GoSem.ClaimMapViews
import Derived.JoinedTies
import Derived.KernelRfl
namespace Go.Proofs.Ytcihfjfbcfgidaa
/- THE CELL 'sum', in the pinned program and in every row, IS THE sha256 OF THE DUMP (.gsa) THAT YtcihfjfbcfgidaaProg.lean LOADS. Nothing in Lean hashes anything: it is a label: what it is worth is what the hold of that sum in a sandbox is worth. -/
noncomputable def Try.pinned : Pinned := { name := "ytcihfjfbcfgidaa", sum := "39e09cf58905f6d70ff40276dfe0188dc26ea065b769cb5fbd08a6f92ff9b1b3", checked := Try.checked }
namespace Rows
def none {H : Type} : Left H := { results := [], args := [] }

/-- 'cairnlaw7.RegisterNewer': WHATEVER THE INPUT: true; the input reads as it did. -/
def registerNewerSpec : ChangeSpec := { name := "registerNewer", fn := fun _ => fun
  | [d1, d2] => { results := [.lit (.bool true)], args := [d1, d2] }
  | _ => none }
def registerNewerRow : OpenClaim := { program := "ytcihfjfbcfgidaa", sum := "39e09cf58905f6d70ff40276dfe0188dc26ea065b769cb5fbd08a6f92ff9b1b3", func := "cairn/cairnlaw7.RegisterNewer", spec := "registerNewer", unfollowed := true, recurses := true, apart := false }
def RegisterNewerSaid : Prop := registerNewerRow.holds Try.pinned (OpenSpec.ofChange registerNewerSpec)

/-- ITS FALSE NEIGHBOUR: 'it returns false'. Refute it at one input. -/
def registerNewerWrong : ChangeSpec := { name := "registerNewer", fn := fun _ => fun
  | [d1, d2] => { results := [.lit (.bool false)], args := [d1, d2] }
  | _ => none }
def RegisterNewerWrongFalsely : Prop := registerNewerRow.holds Try.pinned (OpenSpec.ofChange registerNewerWrong)

/-- 'cairnlaw7.RegisterTold': WHATEVER THE INPUT: true; the input reads as it did. -/
def registerToldSpec : ChangeSpec := { name := "registerTold", fn := fun _ => fun
  | [d1, d2] => { results := [.lit (.bool true)], args := [d1, d2] }
  | _ => none }
def registerToldRow : OpenClaim := { program := "ytcihfjfbcfgidaa", sum := "39e09cf58905f6d70ff40276dfe0188dc26ea065b769cb5fbd08a6f92ff9b1b3", func := "cairn/cairnlaw7.RegisterTold", spec := "registerTold", unfollowed := true, recurses := true, apart := false }
def RegisterToldSaid : Prop := registerToldRow.holds Try.pinned (OpenSpec.ofChange registerToldSpec)

/-- ITS FALSE NEIGHBOUR: 'it returns false'. Refute it at one input. -/
def registerToldWrong : ChangeSpec := { name := "registerTold", fn := fun _ => fun
  | [d1, d2] => { results := [.lit (.bool false)], args := [d1, d2] }
  | _ => none }
def RegisterToldWrongFalsely : Prop := registerToldRow.holds Try.pinned (OpenSpec.ofChange registerToldWrong)

/-- 'cairnlaw7.RegisterBook': WHATEVER THE INPUT: true; the input reads as it did. -/
def registerBookSpec : ChangeSpec := { name := "registerBook", fn := fun _ => fun
  | [d1, d2] => { results := [.lit (.bool true)], args := [d1, d2] }
  | _ => none }
def registerBookRow : OpenClaim := { program := "ytcihfjfbcfgidaa", sum := "39e09cf58905f6d70ff40276dfe0188dc26ea065b769cb5fbd08a6f92ff9b1b3", func := "cairn/cairnlaw7.RegisterBook", spec := "registerBook", unfollowed := true, recurses := true, apart := false }
def RegisterBookSaid : Prop := registerBookRow.holds Try.pinned (OpenSpec.ofChange registerBookSpec)

/-- ITS FALSE NEIGHBOUR: 'it returns false'. Refute it at one input. -/
def registerBookWrong : ChangeSpec := { name := "registerBook", fn := fun _ => fun
  | [d1, d2] => { results := [.lit (.bool false)], args := [d1, d2] }
  | _ => none }
def RegisterBookWrongFalsely : Prop := registerBookRow.holds Try.pinned (OpenSpec.ofChange registerBookWrong)

/-- 'cairnlaw7.RegisterPlays': WHATEVER THE INPUT: true; the input reads as it did. -/
def registerPlaysSpec : ChangeSpec := { name := "registerPlays", fn := fun _ => fun
  | [d1, d2] => { results := [.lit (.bool true)], args := [d1, d2] }
  | _ => none }
def registerPlaysRow : OpenClaim := { program := "ytcihfjfbcfgidaa", sum := "39e09cf58905f6d70ff40276dfe0188dc26ea065b769cb5fbd08a6f92ff9b1b3", func := "cairn/cairnlaw7.RegisterPlays", spec := "registerPlays", unfollowed := true, recurses := true, apart := false }
def RegisterPlaysSaid : Prop := registerPlaysRow.holds Try.pinned (OpenSpec.ofChange registerPlaysSpec)

/-- ITS FALSE NEIGHBOUR: 'it returns false'. Refute it at one input. -/
def registerPlaysWrong : ChangeSpec := { name := "registerPlays", fn := fun _ => fun
  | [d1, d2] => { results := [.lit (.bool false)], args := [d1, d2] }
  | _ => none }
def RegisterPlaysWrongFalsely : Prop := registerPlaysRow.holds Try.pinned (OpenSpec.ofChange registerPlaysWrong)

/-- 'cairnlaw7.RegisterLists': WHATEVER THE INPUT: true; the input reads as it did. -/
def registerListsSpec : ChangeSpec := { name := "registerLists", fn := fun _ => fun
  | [d1, d2, d3] => { results := [.lit (.bool true)], args := [d1, d2, d3] }
  | _ => none }
def registerListsRow : OpenClaim := { program := "ytcihfjfbcfgidaa", sum := "39e09cf58905f6d70ff40276dfe0188dc26ea065b769cb5fbd08a6f92ff9b1b3", func := "cairn/cairnlaw7.RegisterLists", spec := "registerLists", unfollowed := true, recurses := true, apart := false }
def RegisterListsSaid : Prop := registerListsRow.holds Try.pinned (OpenSpec.ofChange registerListsSpec)

/-- ITS FALSE NEIGHBOUR: 'it returns false'. Refute it at one input. -/
def registerListsWrong : ChangeSpec := { name := "registerLists", fn := fun _ => fun
  | [d1, d2, d3] => { results := [.lit (.bool false)], args := [d1, d2, d3] }
  | _ => none }
def RegisterListsWrongFalsely : Prop := registerListsRow.holds Try.pinned (OpenSpec.ofChange registerListsWrong)

/-- 'cairnlaw7.RegisterAlive': WHATEVER THE INPUT: true; the input reads as it did. -/
def registerAliveSpec : ChangeSpec := { name := "registerAlive", fn := fun _ => fun
  | [d1, d2, d3, d4] => { results := [.lit (.bool true)], args := [d1, d2, d3, d4] }
  | _ => none }
def registerAliveRow : OpenClaim := { program := "ytcihfjfbcfgidaa", sum := "39e09cf58905f6d70ff40276dfe0188dc26ea065b769cb5fbd08a6f92ff9b1b3", func := "cairn/cairnlaw7.RegisterAlive", spec := "registerAlive", unfollowed := true, recurses := true, apart := false }
def RegisterAliveSaid : Prop := registerAliveRow.holds Try.pinned (OpenSpec.ofChange registerAliveSpec)

/-- ITS FALSE NEIGHBOUR: 'it returns false'. Refute it at one input. -/
def registerAliveWrong : ChangeSpec := { name := "registerAlive", fn := fun _ => fun
  | [d1, d2, d3, d4] => { results := [.lit (.bool false)], args := [d1, d2, d3, d4] }
  | _ => none }
def RegisterAliveWrongFalsely : Prop := registerAliveRow.holds Try.pinned (OpenSpec.ofChange registerAliveWrong)

/- THE SECOND FORM. 'bulk': how many values and letters a reading holds, each counted each time it is reached (what is shared counts as often as it is met; a slice's spare places count too). A statement '..UptoSaid' is the law's where the arguments, and the package variables that the reading takes, are together of bulk at most 1048576: NARROWER than '..Said'. Prove '..Said' where nothing that the law and all that it calls make is longer than what came in: it says more and counts as full. Else prove '..UptoSaid'. A law counts once. -/
mutual
def uptoBulk {H : Type} : DataW H → Nat
  | .lit (.string bytes) => bytes.length + 1
  | .lit _ => 1
  | .nil => 1
  | .ptr d => uptoBulk d + 1
  | .slice elems spare => uptoBulkAll elems + uptoBulkAll spare + 1
  | .agg parts => uptoBulkAll parts + 1
  | .iface _ d => uptoBulk d + 1
  | .map entries => uptoBulkEntries entries + 1
  | .held _ => 1
def uptoBulkAll {H : Type} : List (DataW H) → Nat
  | [] => 0
  | d :: r => uptoBulk d + uptoBulkAll r
def uptoBulkEntries {H : Type} : List (Lit × DataW H) → Nat
  | [] => 0
  | x :: r => uptoBulkEntry x + uptoBulkEntries r
def uptoBulkEntry {H : Type} : Lit × DataW H → Nat
  | (.string bytes, d) => bytes.length + uptoBulk d + 1
  | (_, d) => uptoBulk d + 1
 end
def uptoSmall : (H : Type) → List (DataW H) → Bool := fun _ ds => decide (uptoBulkAll ds ≤ 1048576)
def OpenSpec.upto (s : _root_.Go.ChangeSpec) : _root_.Go.OpenSpec := { _root_.Go.OpenSpec.ofChange s with cond := some uptoSmall }

/-- 'cairnlaw7.RegisterNewer', WHERE WHAT IT READS IS OF BULK AT MOST 1048576: true; the input reads as it did. -/
def registerNewerUptoRow : OpenClaim := { program := "ytcihfjfbcfgidaa", sum := "39e09cf58905f6d70ff40276dfe0188dc26ea065b769cb5fbd08a6f92ff9b1b3", func := "cairn/cairnlaw7.RegisterNewer", spec := "registerNewer", unfollowed := true, recurses := true, apart := false, narrowed := true }
def RegisterNewerUptoSaid : Prop := registerNewerUptoRow.holds Try.pinned (OpenSpec.upto registerNewerSpec)

/-- 'cairnlaw7.RegisterTold', WHERE WHAT IT READS IS OF BULK AT MOST 1048576: true; the input reads as it did. -/
def registerToldUptoRow : OpenClaim := { program := "ytcihfjfbcfgidaa", sum := "39e09cf58905f6d70ff40276dfe0188dc26ea065b769cb5fbd08a6f92ff9b1b3", func := "cairn/cairnlaw7.RegisterTold", spec := "registerTold", unfollowed := true, recurses := true, apart := false, narrowed := true }
def RegisterToldUptoSaid : Prop := registerToldUptoRow.holds Try.pinned (OpenSpec.upto registerToldSpec)

/-- 'cairnlaw7.RegisterBook', WHERE WHAT IT READS IS OF BULK AT MOST 1048576: true; the input reads as it did. -/
def registerBookUptoRow : OpenClaim := { program := "ytcihfjfbcfgidaa", sum := "39e09cf58905f6d70ff40276dfe0188dc26ea065b769cb5fbd08a6f92ff9b1b3", func := "cairn/cairnlaw7.RegisterBook", spec := "registerBook", unfollowed := true, recurses := true, apart := false, narrowed := true }
def RegisterBookUptoSaid : Prop := registerBookUptoRow.holds Try.pinned (OpenSpec.upto registerBookSpec)

/-- 'cairnlaw7.RegisterPlays', WHERE WHAT IT READS IS OF BULK AT MOST 1048576: true; the input reads as it did. -/
def registerPlaysUptoRow : OpenClaim := { program := "ytcihfjfbcfgidaa", sum := "39e09cf58905f6d70ff40276dfe0188dc26ea065b769cb5fbd08a6f92ff9b1b3", func := "cairn/cairnlaw7.RegisterPlays", spec := "registerPlays", unfollowed := true, recurses := true, apart := false, narrowed := true }
def RegisterPlaysUptoSaid : Prop := registerPlaysUptoRow.holds Try.pinned (OpenSpec.upto registerPlaysSpec)

/-- 'cairnlaw7.RegisterLists', WHERE WHAT IT READS IS OF BULK AT MOST 1048576: true; the input reads as it did. -/
def registerListsUptoRow : OpenClaim := { program := "ytcihfjfbcfgidaa", sum := "39e09cf58905f6d70ff40276dfe0188dc26ea065b769cb5fbd08a6f92ff9b1b3", func := "cairn/cairnlaw7.RegisterLists", spec := "registerLists", unfollowed := true, recurses := true, apart := false, narrowed := true }
def RegisterListsUptoSaid : Prop := registerListsUptoRow.holds Try.pinned (OpenSpec.upto registerListsSpec)

/-- 'cairnlaw7.RegisterAlive', WHERE WHAT IT READS IS OF BULK AT MOST 1048576: true; the input reads as it did. -/
def registerAliveUptoRow : OpenClaim := { program := "ytcihfjfbcfgidaa", sum := "39e09cf58905f6d70ff40276dfe0188dc26ea065b769cb5fbd08a6f92ff9b1b3", func := "cairn/cairnlaw7.RegisterAlive", spec := "registerAlive", unfollowed := true, recurses := true, apart := false, narrowed := true }
def RegisterAliveUptoSaid : Prop := registerAliveUptoRow.holds Try.pinned (OpenSpec.upto registerAliveSpec)

end Rows
end Go.Proofs.Ytcihfjfbcfgidaa
