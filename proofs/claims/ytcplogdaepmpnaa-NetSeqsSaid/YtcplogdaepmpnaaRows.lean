/-
  No cell of these rows narrows 'for every input' (looked for: loops, veiled, ifaces, maps, wideKeys, modest, calm, conditions, laid).
  DERIVED. THE GIVEN ROWS OF THIS SEAT. 6 by the template 'for every input the law returns true; each argument reads behind the call as it read before'; 0 by the template 'total and deterministic' (their statements: YtcplogdaepmpnaaTotals.lean).
  GIVEN WITH THE SEED: the statements are not yours to turn. If you find one false, say at which input.
  Laid BY PROGRAM, IN A SANDBOX (cutbox-rows.mjs): the forced cells as the released guide's own fill.sh prints them over the translation 5c329fd985f1d3a4… (all of the seat's roots in one cut). By AI agents, Wed Nov 11 2026. No macro, syntax, notation, axiom, sorry.
-/
import Derived.Test.YtcplogdaepmpnaaChecked
import GoSem.Claim
import GoSem.ClaimJoined
import GoSem.ClaimMapViews
import Derived.JoinedTies
import Derived.KernelRfl
namespace Go.Proofs.Ytcplogdaepmpnaa
/- THE CELL 'sum', in the pinned program and in every row, IS THE sha256 OF THE DUMP (.gsa) THAT YtcplogdaepmpnaaProg.lean LOADS. Nothing in Lean hashes anything: it is a label: what it is worth is what the hold of that sum in a sandbox is worth. -/
noncomputable def Try.pinned : Pinned := { name := "ytcplogdaepmpnaa", sum := "5c329fd985f1d3a42a07e24690e11a9f8cdfca3a2fdbb71852cdce9d27b3d888", checked := Try.checked }
namespace Rows
def none {H : Type} : Left H := { results := [], args := [] }

/-- 'cairnlaw16.NetNames': WHATEVER THE INPUT: true; the input reads as it did. -/
def netNamesSpec : ChangeSpec := { name := "netNames", fn := fun _ => fun
  | [] => { results := [.lit (.bool true)], args := [] }
  | _ => none }
def netNamesRow : OpenClaim := { program := "ytcplogdaepmpnaa", sum := "5c329fd985f1d3a42a07e24690e11a9f8cdfca3a2fdbb71852cdce9d27b3d888", func := "cairn/cairnlaw16.NetNames", spec := "netNames", plainKeys := false, apart := false }
def NetNamesSaid : Prop := netNamesRow.holds Try.pinned (OpenSpec.ofChange netNamesSpec)

/-- ITS FALSE NEIGHBOUR: 'it returns false'. Refute it at one input. -/
def netNamesWrong : ChangeSpec := { name := "netNames", fn := fun _ => fun
  | [] => { results := [.lit (.bool false)], args := [] }
  | _ => none }
def NetNamesWrongFalsely : Prop := netNamesRow.holds Try.pinned (OpenSpec.ofChange netNamesWrong)

/-- 'cairnlaw16.NetBook': WHATEVER THE INPUT: true; the input reads as it did. -/
def netBookSpec : ChangeSpec := { name := "netBook", fn := fun _ => fun
  | [d] => { results := [.lit (.bool true)], args := [d] }
  | _ => none }
def netBookRow : OpenClaim := { program := "ytcplogdaepmpnaa", sum := "5c329fd985f1d3a42a07e24690e11a9f8cdfca3a2fdbb71852cdce9d27b3d888", func := "cairn/cairnlaw16.NetBook", spec := "netBook", unfollowed := true, recurses := true, plainKeys := false, apart := false }
def NetBookSaid : Prop := netBookRow.holds Try.pinned (OpenSpec.ofChange netBookSpec)

/-- ITS FALSE NEIGHBOUR: 'it returns false'. Refute it at one input. -/
def netBookWrong : ChangeSpec := { name := "netBook", fn := fun _ => fun
  | [d] => { results := [.lit (.bool false)], args := [d] }
  | _ => none }
def NetBookWrongFalsely : Prop := netBookRow.holds Try.pinned (OpenSpec.ofChange netBookWrong)

/-- 'cairnlaw16.NetPlays': WHATEVER THE INPUT: true; the input reads as it did. -/
def netPlaysSpec : ChangeSpec := { name := "netPlays", fn := fun _ => fun
  | [d] => { results := [.lit (.bool true)], args := [d] }
  | _ => none }
def netPlaysRow : OpenClaim := { program := "ytcplogdaepmpnaa", sum := "5c329fd985f1d3a42a07e24690e11a9f8cdfca3a2fdbb71852cdce9d27b3d888", func := "cairn/cairnlaw16.NetPlays", spec := "netPlays", unfollowed := true, recurses := true, plainKeys := false, apart := false }
def NetPlaysSaid : Prop := netPlaysRow.holds Try.pinned (OpenSpec.ofChange netPlaysSpec)

/-- ITS FALSE NEIGHBOUR: 'it returns false'. Refute it at one input. -/
def netPlaysWrong : ChangeSpec := { name := "netPlays", fn := fun _ => fun
  | [d] => { results := [.lit (.bool false)], args := [d] }
  | _ => none }
def NetPlaysWrongFalsely : Prop := netPlaysRow.holds Try.pinned (OpenSpec.ofChange netPlaysWrong)

/-- 'cairnlaw16.NetCounts': WHATEVER THE INPUT: true; the input reads as it did. -/
def netCountsSpec : ChangeSpec := { name := "netCounts", fn := fun _ => fun
  | [d] => { results := [.lit (.bool true)], args := [d] }
  | _ => none }
def netCountsRow : OpenClaim := { program := "ytcplogdaepmpnaa", sum := "5c329fd985f1d3a42a07e24690e11a9f8cdfca3a2fdbb71852cdce9d27b3d888", func := "cairn/cairnlaw16.NetCounts", spec := "netCounts", unfollowed := true, recurses := true, plainKeys := false, apart := false }
def NetCountsSaid : Prop := netCountsRow.holds Try.pinned (OpenSpec.ofChange netCountsSpec)

/-- ITS FALSE NEIGHBOUR: 'it returns false'. Refute it at one input. -/
def netCountsWrong : ChangeSpec := { name := "netCounts", fn := fun _ => fun
  | [d] => { results := [.lit (.bool false)], args := [d] }
  | _ => none }
def NetCountsWrongFalsely : Prop := netCountsRow.holds Try.pinned (OpenSpec.ofChange netCountsWrong)

/-- 'cairnlaw16.NetSeqs': WHATEVER THE INPUT: true; the input reads as it did. -/
def netSeqsSpec : ChangeSpec := { name := "netSeqs", fn := fun _ => fun
  | [d1, d2, d3] => { results := [.lit (.bool true)], args := [d1, d2, d3] }
  | _ => none }
def netSeqsRow : OpenClaim := { program := "ytcplogdaepmpnaa", sum := "5c329fd985f1d3a42a07e24690e11a9f8cdfca3a2fdbb71852cdce9d27b3d888", func := "cairn/cairnlaw16.NetSeqs", spec := "netSeqs", unfollowed := true, recurses := true, plainKeys := false, apart := false }
def NetSeqsSaid : Prop := netSeqsRow.holds Try.pinned (OpenSpec.ofChange netSeqsSpec)

/-- ITS FALSE NEIGHBOUR: 'it returns false'. Refute it at one input. -/
def netSeqsWrong : ChangeSpec := { name := "netSeqs", fn := fun _ => fun
  | [d1, d2, d3] => { results := [.lit (.bool false)], args := [d1, d2, d3] }
  | _ => none }
def NetSeqsWrongFalsely : Prop := netSeqsRow.holds Try.pinned (OpenSpec.ofChange netSeqsWrong)

/-- 'cairnlaw16.NetApart': WHATEVER THE INPUT: true; the input reads as it did. -/
def netApartSpec : ChangeSpec := { name := "netApart", fn := fun _ => fun
  | [d1, d2, d3] => { results := [.lit (.bool true)], args := [d1, d2, d3] }
  | _ => none }
def netApartRow : OpenClaim := { program := "ytcplogdaepmpnaa", sum := "5c329fd985f1d3a42a07e24690e11a9f8cdfca3a2fdbb71852cdce9d27b3d888", func := "cairn/cairnlaw16.NetApart", spec := "netApart", unfollowed := true, recurses := true, plainKeys := false, apart := false }
def NetApartSaid : Prop := netApartRow.holds Try.pinned (OpenSpec.ofChange netApartSpec)

/-- ITS FALSE NEIGHBOUR: 'it returns false'. Refute it at one input. -/
def netApartWrong : ChangeSpec := { name := "netApart", fn := fun _ => fun
  | [d1, d2, d3] => { results := [.lit (.bool false)], args := [d1, d2, d3] }
  | _ => none }
def NetApartWrongFalsely : Prop := netApartRow.holds Try.pinned (OpenSpec.ofChange netApartWrong)

/- THE SECOND FORM. 'bulk': how many values and letters a reading holds, each counted each time it is reached (what is shared counts as often as it is met; a slice's spare places count too). A statement '..UptoSaid' is the law's where the arguments, and the package variables that the reading takes, are together of bulk at most 1048576: NARROWER than '..Said'. Prove '..Said' where nothing that the law and all that it calls make is longer than what came in: it says more and counts as full. Else prove '..UptoSaid'. A law counts once. -/
mutual
def uptoBulk {H : Type} : DataW H → Nat
  | .lit (.string bytes) => bytes.length + 1
  | .lit _ => 1
  | .nil => 1
  | .ptr d => uptoBulk d + 1
  | .slice elems spare => uptoBulkAll elems + uptoBulkAll spare + 1
  | .agg parts => uptoBulkAll parts + 1
  | .iface _ d => uptoBulk d + 1
  | .map entries => uptoBulkEntries entries + 1
  | .held _ => 1
def uptoBulkAll {H : Type} : List (DataW H) → Nat
  | [] => 0
  | d :: r => uptoBulk d + uptoBulkAll r
def uptoBulkEntries {H : Type} : List (Lit × DataW H) → Nat
  | [] => 0
  | x :: r => uptoBulkEntry x + uptoBulkEntries r
def uptoBulkEntry {H : Type} : Lit × DataW H → Nat
  | (.string bytes, d) => bytes.length + uptoBulk d + 1
  | (_, d) => uptoBulk d + 1
 end
def uptoSmall : (H : Type) → List (DataW H) → Bool := fun _ ds => decide (uptoBulkAll ds ≤ 1048576)
def OpenSpec.upto (s : _root_.Go.ChangeSpec) : _root_.Go.OpenSpec := { _root_.Go.OpenSpec.ofChange s with cond := some uptoSmall }

/-- 'cairnlaw16.NetNames', WHERE WHAT IT READS IS OF BULK AT MOST 1048576: true; the input reads as it did. -/
def netNamesUptoRow : OpenClaim := { program := "ytcplogdaepmpnaa", sum := "5c329fd985f1d3a42a07e24690e11a9f8cdfca3a2fdbb71852cdce9d27b3d888", func := "cairn/cairnlaw16.NetNames", spec := "netNames", plainKeys := false, apart := false, narrowed := true }
def NetNamesUptoSaid : Prop := netNamesUptoRow.holds Try.pinned (OpenSpec.upto netNamesSpec)

/-- 'cairnlaw16.NetBook', WHERE WHAT IT READS IS OF BULK AT MOST 1048576: true; the input reads as it did. -/
def netBookUptoRow : OpenClaim := { program := "ytcplogdaepmpnaa", sum := "5c329fd985f1d3a42a07e24690e11a9f8cdfca3a2fdbb71852cdce9d27b3d888", func := "cairn/cairnlaw16.NetBook", spec := "netBook", unfollowed := true, recurses := true, plainKeys := false, apart := false, narrowed := true }
def NetBookUptoSaid : Prop := netBookUptoRow.holds Try.pinned (OpenSpec.upto netBookSpec)

/-- 'cairnlaw16.NetPlays', WHERE WHAT IT READS IS OF BULK AT MOST 1048576: true; the input reads as it did. -/
def netPlaysUptoRow : OpenClaim := { program := "ytcplogdaepmpnaa", sum := "5c329fd985f1d3a42a07e24690e11a9f8cdfca3a2fdbb71852cdce9d27b3d888", func := "cairn/cairnlaw16.NetPlays", spec := "netPlays", unfollowed := true, recurses := true, plainKeys := false, apart := false, narrowed := true }
def NetPlaysUptoSaid : Prop := netPlaysUptoRow.holds Try.pinned (OpenSpec.upto netPlaysSpec)

/-- 'cairnlaw16.NetCounts', WHERE WHAT IT READS IS OF BULK AT MOST 1048576: true; the input reads as it did. -/
def netCountsUptoRow : OpenClaim := { program := "ytcplogdaepmpnaa", sum := "5c329fd985f1d3a42a07e24690e11a9f8cdfca3a2fdbb71852cdce9d27b3d888", func := "cairn/cairnlaw16.NetCounts", spec := "netCounts", unfollowed := true, recurses := true, plainKeys := false, apart := false, narrowed := true }
def NetCountsUptoSaid : Prop := netCountsUptoRow.holds Try.pinned (OpenSpec.upto netCountsSpec)

/-- 'cairnlaw16.NetSeqs', WHERE WHAT IT READS IS OF BULK AT MOST 1048576: true; the input reads as it did. -/
def netSeqsUptoRow : OpenClaim := { program := "ytcplogdaepmpnaa", sum := "5c329fd985f1d3a42a07e24690e11a9f8cdfca3a2fdbb71852cdce9d27b3d888", func := "cairn/cairnlaw16.NetSeqs", spec := "netSeqs", unfollowed := true, recurses := true, plainKeys := false, apart := false, narrowed := true }
def NetSeqsUptoSaid : Prop := netSeqsUptoRow.holds Try.pinned (OpenSpec.upto netSeqsSpec)

/-- 'cairnlaw16.NetApart', WHERE WHAT IT READS IS OF BULK AT MOST 1048576: true; the input reads as it did. -/
def netApartUptoRow : OpenClaim := { program := "ytcplogdaepmpnaa", sum := "5c329fd985f1d3a42a07e24690e11a9f8cdfca3a2fdbb71852cdce9d27b3d888", func := "cairn/cairnlaw16.NetApart", spec := "netApart", unfollowed := true, recurses := true, plainKeys := false, apart := false, narrowed := true }
def NetApartUptoSaid : Prop := netApartUptoRow.holds Try.pinned (OpenSpec.upto netApartSpec)

end Rows
end Go.Proofs.Ytcplogdaepmpnaa
