/-
  No cell of these rows narrows 'for every input' (looked for: loops, veiled, ifaces, maps, wideKeys, modest, calm, conditions, laid).
  DERIVED. THE GIVEN ROWS OF THIS SEAT. 9 by the template 'for every input the law returns true; each argument reads behind the call as it read before'; 0 by the template 'total and deterministic' (their statements: YtghbgcmhahndkaaTotals.lean).
  GIVEN WITH THE SEED: the statements are not yours to turn. If you find one false, say at which input.
  Laid BY PROGRAM, IN A SANDBOX (cutbox-rows.mjs): the forced cells as the released guide's own fill.sh prints them over the translation 23829468321f1192… (all of the seat's roots in one cut). By AI agents, Wed Nov 11 2026. No macro, syntax, notation, axiom, sorry.
-/
import Derived.Test.YtghbgcmhahndkaaChecked
import GoSem.Claim
import GoSem.ClaimJoined
import GoSem.ClaimMapViews
import Derived.JoinedTies
import Derived.KernelRfl
namespace Go.Proofs.Ytghbgcmhahndkaa
/- THE CELL 'sum', in the pinned program and in every row, IS THE sha256 OF THE DUMP (.gsa) THAT YtghbgcmhahndkaaProg.lean LOADS. Nothing in Lean hashes anything: it is a label: what it is worth is what the hold of that sum in a sandbox is worth. -/
noncomputable def Try.pinned : Pinned := { name := "ytghbgcmhahndkaa", sum := "23829468321f11928bb73f7e1dff171363965c59297561eee1cec04bc90d1ac5", checked := Try.checked }
namespace Rows
def none {H : Type} : Left H := { results := [], args := [] }

/-- 'cairnlaw6.TallyNames': WHATEVER THE INPUT: true; the input reads as it did. -/
def tallyNamesSpec : ChangeSpec := { name := "tallyNames", fn := fun _ => fun
  | [] => { results := [.lit (.bool true)], args := [] }
  | _ => none }
def tallyNamesRow : OpenClaim := { program := "ytghbgcmhahndkaa", sum := "23829468321f11928bb73f7e1dff171363965c59297561eee1cec04bc90d1ac5", func := "cairn/cairnlaw6.TallyNames", spec := "tallyNames", unfollowed := true, recurses := true, apart := false }
def TallyNamesSaid : Prop := tallyNamesRow.holds Try.pinned (OpenSpec.ofChange tallyNamesSpec)

/-- ITS FALSE NEIGHBOUR: 'it returns false'. Refute it at one input. -/
def tallyNamesWrong : ChangeSpec := { name := "tallyNames", fn := fun _ => fun
  | [] => { results := [.lit (.bool false)], args := [] }
  | _ => none }
def TallyNamesWrongFalsely : Prop := tallyNamesRow.holds Try.pinned (OpenSpec.ofChange tallyNamesWrong)

/-- 'cairnlaw6.TallyTakes': WHATEVER THE INPUT: true; the input reads as it did. -/
def tallyTakesSpec : ChangeSpec := { name := "tallyTakes", fn := fun _ => fun
  | [d1, d2, d3] => { results := [.lit (.bool true)], args := [d1, d2, d3] }
  | _ => none }
def tallyTakesRow : OpenClaim := { program := "ytghbgcmhahndkaa", sum := "23829468321f11928bb73f7e1dff171363965c59297561eee1cec04bc90d1ac5", func := "cairn/cairnlaw6.TallyTakes", spec := "tallyTakes", unfollowed := true, recurses := true, apart := false }
def TallyTakesSaid : Prop := tallyTakesRow.holds Try.pinned (OpenSpec.ofChange tallyTakesSpec)

/-- ITS FALSE NEIGHBOUR: 'it returns false'. Refute it at one input. -/
def tallyTakesWrong : ChangeSpec := { name := "tallyTakes", fn := fun _ => fun
  | [d1, d2, d3] => { results := [.lit (.bool false)], args := [d1, d2, d3] }
  | _ => none }
def TallyTakesWrongFalsely : Prop := tallyTakesRow.holds Try.pinned (OpenSpec.ofChange tallyTakesWrong)

/-- 'cairnlaw6.TallyMeets': WHATEVER THE INPUT: true; the input reads as it did. -/
def tallyMeetsSpec : ChangeSpec := { name := "tallyMeets", fn := fun _ => fun
  | [d1, d2, d3] => { results := [.lit (.bool true)], args := [d1, d2, d3] }
  | _ => none }
def tallyMeetsRow : OpenClaim := { program := "ytghbgcmhahndkaa", sum := "23829468321f11928bb73f7e1dff171363965c59297561eee1cec04bc90d1ac5", func := "cairn/cairnlaw6.TallyMeets", spec := "tallyMeets", unfollowed := true, recurses := true, apart := false }
def TallyMeetsSaid : Prop := tallyMeetsRow.holds Try.pinned (OpenSpec.ofChange tallyMeetsSpec)

/-- ITS FALSE NEIGHBOUR: 'it returns false'. Refute it at one input. -/
def tallyMeetsWrong : ChangeSpec := { name := "tallyMeets", fn := fun _ => fun
  | [d1, d2, d3] => { results := [.lit (.bool false)], args := [d1, d2, d3] }
  | _ => none }
def TallyMeetsWrongFalsely : Prop := tallyMeetsRow.holds Try.pinned (OpenSpec.ofChange tallyMeetsWrong)

/-- 'cairnlaw6.TallyWalks': WHATEVER THE INPUT: true; the input reads as it did. -/
def tallyWalksSpec : ChangeSpec := { name := "tallyWalks", fn := fun _ => fun
  | [d1, d2, d3] => { results := [.lit (.bool true)], args := [d1, d2, d3] }
  | _ => none }
def tallyWalksRow : OpenClaim := { program := "ytghbgcmhahndkaa", sum := "23829468321f11928bb73f7e1dff171363965c59297561eee1cec04bc90d1ac5", func := "cairn/cairnlaw6.TallyWalks", spec := "tallyWalks", unfollowed := true, recurses := true, apart := false }
def TallyWalksSaid : Prop := tallyWalksRow.holds Try.pinned (OpenSpec.ofChange tallyWalksSpec)

/-- ITS FALSE NEIGHBOUR: 'it returns false'. Refute it at one input. -/
def tallyWalksWrong : ChangeSpec := { name := "tallyWalks", fn := fun _ => fun
  | [d1, d2, d3] => { results := [.lit (.bool false)], args := [d1, d2, d3] }
  | _ => none }
def TallyWalksWrongFalsely : Prop := tallyWalksRow.holds Try.pinned (OpenSpec.ofChange tallyWalksWrong)

/-- 'cairnlaw6.TallyKinds': WHATEVER THE INPUT: true; the input reads as it did. -/
def tallyKindsSpec : ChangeSpec := { name := "tallyKinds", fn := fun _ => fun
  | [d1, d2] => { results := [.lit (.bool true)], args := [d1, d2] }
  | _ => none }
def tallyKindsRow : OpenClaim := { program := "ytghbgcmhahndkaa", sum := "23829468321f11928bb73f7e1dff171363965c59297561eee1cec04bc90d1ac5", func := "cairn/cairnlaw6.TallyKinds", spec := "tallyKinds", unfollowed := true, recurses := true, apart := false }
def TallyKindsSaid : Prop := tallyKindsRow.holds Try.pinned (OpenSpec.ofChange tallyKindsSpec)

/-- ITS FALSE NEIGHBOUR: 'it returns false'. Refute it at one input. -/
def tallyKindsWrong : ChangeSpec := { name := "tallyKinds", fn := fun _ => fun
  | [d1, d2] => { results := [.lit (.bool false)], args := [d1, d2] }
  | _ => none }
def TallyKindsWrongFalsely : Prop := tallyKindsRow.holds Try.pinned (OpenSpec.ofChange tallyKindsWrong)

/-- 'cairnlaw6.TallyOwn': WHATEVER THE INPUT: true; the input reads as it did. -/
def tallyOwnSpec : ChangeSpec := { name := "tallyOwn", fn := fun _ => fun
  | [d1, d2, d3] => { results := [.lit (.bool true)], args := [d1, d2, d3] }
  | _ => none }
def tallyOwnRow : OpenClaim := { program := "ytghbgcmhahndkaa", sum := "23829468321f11928bb73f7e1dff171363965c59297561eee1cec04bc90d1ac5", func := "cairn/cairnlaw6.TallyOwn", spec := "tallyOwn", unfollowed := true, recurses := true, apart := false }
def TallyOwnSaid : Prop := tallyOwnRow.holds Try.pinned (OpenSpec.ofChange tallyOwnSpec)

/-- ITS FALSE NEIGHBOUR: 'it returns false'. Refute it at one input. -/
def tallyOwnWrong : ChangeSpec := { name := "tallyOwn", fn := fun _ => fun
  | [d1, d2, d3] => { results := [.lit (.bool false)], args := [d1, d2, d3] }
  | _ => none }
def TallyOwnWrongFalsely : Prop := tallyOwnRow.holds Try.pinned (OpenSpec.ofChange tallyOwnWrong)

/-- 'cairnlaw6.TallyBests': WHATEVER THE INPUT: true; the input reads as it did. -/
def tallyBestsSpec : ChangeSpec := { name := "tallyBests", fn := fun _ => fun
  | [d1, d2] => { results := [.lit (.bool true)], args := [d1, d2] }
  | _ => none }
def tallyBestsRow : OpenClaim := { program := "ytghbgcmhahndkaa", sum := "23829468321f11928bb73f7e1dff171363965c59297561eee1cec04bc90d1ac5", func := "cairn/cairnlaw6.TallyBests", spec := "tallyBests", unfollowed := true, recurses := true, apart := false }
def TallyBestsSaid : Prop := tallyBestsRow.holds Try.pinned (OpenSpec.ofChange tallyBestsSpec)

/-- ITS FALSE NEIGHBOUR: 'it returns false'. Refute it at one input. -/
def tallyBestsWrong : ChangeSpec := { name := "tallyBests", fn := fun _ => fun
  | [d1, d2] => { results := [.lit (.bool false)], args := [d1, d2] }
  | _ => none }
def TallyBestsWrongFalsely : Prop := tallyBestsRow.holds Try.pinned (OpenSpec.ofChange tallyBestsWrong)

/-- 'cairnlaw6.TallyTexts': WHATEVER THE INPUT: true; the input reads as it did. -/
def tallyTextsSpec : ChangeSpec := { name := "tallyTexts", fn := fun _ => fun
  | [d] => { results := [.lit (.bool true)], args := [d] }
  | _ => none }
def tallyTextsRow : OpenClaim := { program := "ytghbgcmhahndkaa", sum := "23829468321f11928bb73f7e1dff171363965c59297561eee1cec04bc90d1ac5", func := "cairn/cairnlaw6.TallyTexts", spec := "tallyTexts", unfollowed := true, recurses := true, apart := false }
def TallyTextsSaid : Prop := tallyTextsRow.holds Try.pinned (OpenSpec.ofChange tallyTextsSpec)

/-- ITS FALSE NEIGHBOUR: 'it returns false'. Refute it at one input. -/
def tallyTextsWrong : ChangeSpec := { name := "tallyTexts", fn := fun _ => fun
  | [d] => { results := [.lit (.bool false)], args := [d] }
  | _ => none }
def TallyTextsWrongFalsely : Prop := tallyTextsRow.holds Try.pinned (OpenSpec.ofChange tallyTextsWrong)

/-- 'cairnlaw6.TallyStamps': WHATEVER THE INPUT: true; the input reads as it did. -/
def tallyStampsSpec : ChangeSpec := { name := "tallyStamps", fn := fun _ => fun
  | [d] => { results := [.lit (.bool true)], args := [d] }
  | _ => none }
def tallyStampsRow : OpenClaim := { program := "ytghbgcmhahndkaa", sum := "23829468321f11928bb73f7e1dff171363965c59297561eee1cec04bc90d1ac5", func := "cairn/cairnlaw6.TallyStamps", spec := "tallyStamps", unfollowed := true, recurses := true, apart := false }
def TallyStampsSaid : Prop := tallyStampsRow.holds Try.pinned (OpenSpec.ofChange tallyStampsSpec)

/-- ITS FALSE NEIGHBOUR: 'it returns false'. Refute it at one input. -/
def tallyStampsWrong : ChangeSpec := { name := "tallyStamps", fn := fun _ => fun
  | [d] => { results := [.lit (.bool false)], args := [d] }
  | _ => none }
def TallyStampsWrongFalsely : Prop := tallyStampsRow.holds Try.pinned (OpenSpec.ofChange tallyStampsWrong)

/- THE SECOND FORM. 'bulk': how many values and letters a reading holds, each counted each time it is reached (what is shared counts as often as it is met; a slice's spare places count too). A statement '..UptoSaid' is the law's where the arguments, and the package variables that the reading takes, are together of bulk at most 1048576: NARROWER than '..Said'. Prove '..Said' where nothing that the law and all that it calls make is longer than what came in: it says more and counts as full. Else prove '..UptoSaid'. A law counts once. -/
mutual
def uptoBulk {H : Type} : DataW H → Nat
  | .lit (.string bytes) => bytes.length + 1
  | .lit _ => 1
  | .nil => 1
  | .ptr d => uptoBulk d + 1
  | .slice elems spare => uptoBulkAll elems + uptoBulkAll spare + 1
  | .agg parts => uptoBulkAll parts + 1
  | .iface _ d => uptoBulk d + 1
  | .map entries => uptoBulkEntries entries + 1
  | .held _ => 1
def uptoBulkAll {H : Type} : List (DataW H) → Nat
  | [] => 0
  | d :: r => uptoBulk d + uptoBulkAll r
def uptoBulkEntries {H : Type} : List (Lit × DataW H) → Nat
  | [] => 0
  | x :: r => uptoBulkEntry x + uptoBulkEntries r
def uptoBulkEntry {H : Type} : Lit × DataW H → Nat
  | (.string bytes, d) => bytes.length + uptoBulk d + 1
  | (_, d) => uptoBulk d + 1
 end
def uptoSmall : (H : Type) → List (DataW H) → Bool := fun _ ds => decide (uptoBulkAll ds ≤ 1048576)
def OpenSpec.upto (s : _root_.Go.ChangeSpec) : _root_.Go.OpenSpec := { _root_.Go.OpenSpec.ofChange s with cond := some uptoSmall }

/-- 'cairnlaw6.TallyNames', WHERE WHAT IT READS IS OF BULK AT MOST 1048576: true; the input reads as it did. -/
def tallyNamesUptoRow : OpenClaim := { program := "ytghbgcmhahndkaa", sum := "23829468321f11928bb73f7e1dff171363965c59297561eee1cec04bc90d1ac5", func := "cairn/cairnlaw6.TallyNames", spec := "tallyNames", unfollowed := true, recurses := true, apart := false, narrowed := true }
def TallyNamesUptoSaid : Prop := tallyNamesUptoRow.holds Try.pinned (OpenSpec.upto tallyNamesSpec)

/-- 'cairnlaw6.TallyTakes', WHERE WHAT IT READS IS OF BULK AT MOST 1048576: true; the input reads as it did. -/
def tallyTakesUptoRow : OpenClaim := { program := "ytghbgcmhahndkaa", sum := "23829468321f11928bb73f7e1dff171363965c59297561eee1cec04bc90d1ac5", func := "cairn/cairnlaw6.TallyTakes", spec := "tallyTakes", unfollowed := true, recurses := true, apart := false, narrowed := true }
def TallyTakesUptoSaid : Prop := tallyTakesUptoRow.holds Try.pinned (OpenSpec.upto tallyTakesSpec)

/-- 'cairnlaw6.TallyMeets', WHERE WHAT IT READS IS OF BULK AT MOST 1048576: true; the input reads as it did. -/
def tallyMeetsUptoRow : OpenClaim := { program := "ytghbgcmhahndkaa", sum := "23829468321f11928bb73f7e1dff171363965c59297561eee1cec04bc90d1ac5", func := "cairn/cairnlaw6.TallyMeets", spec := "tallyMeets", unfollowed := true, recurses := true, apart := false, narrowed := true }
def TallyMeetsUptoSaid : Prop := tallyMeetsUptoRow.holds Try.pinned (OpenSpec.upto tallyMeetsSpec)

/-- 'cairnlaw6.TallyWalks', WHERE WHAT IT READS IS OF BULK AT MOST 1048576: true; the input reads as it did. -/
def tallyWalksUptoRow : OpenClaim := { program := "ytghbgcmhahndkaa", sum := "23829468321f11928bb73f7e1dff171363965c59297561eee1cec04bc90d1ac5", func := "cairn/cairnlaw6.TallyWalks", spec := "tallyWalks", unfollowed := true, recurses := true, apart := false, narrowed := true }
def TallyWalksUptoSaid : Prop := tallyWalksUptoRow.holds Try.pinned (OpenSpec.upto tallyWalksSpec)

/-- 'cairnlaw6.TallyKinds', WHERE WHAT IT READS IS OF BULK AT MOST 1048576: true; the input reads as it did. -/
def tallyKindsUptoRow : OpenClaim := { program := "ytghbgcmhahndkaa", sum := "23829468321f11928bb73f7e1dff171363965c59297561eee1cec04bc90d1ac5", func := "cairn/cairnlaw6.TallyKinds", spec := "tallyKinds", unfollowed := true, recurses := true, apart := false, narrowed := true }
def TallyKindsUptoSaid : Prop := tallyKindsUptoRow.holds Try.pinned (OpenSpec.upto tallyKindsSpec)

/-- 'cairnlaw6.TallyOwn', WHERE WHAT IT READS IS OF BULK AT MOST 1048576: true; the input reads as it did. -/
def tallyOwnUptoRow : OpenClaim := { program := "ytghbgcmhahndkaa", sum := "23829468321f11928bb73f7e1dff171363965c59297561eee1cec04bc90d1ac5", func := "cairn/cairnlaw6.TallyOwn", spec := "tallyOwn", unfollowed := true, recurses := true, apart := false, narrowed := true }
def TallyOwnUptoSaid : Prop := tallyOwnUptoRow.holds Try.pinned (OpenSpec.upto tallyOwnSpec)

/-- 'cairnlaw6.TallyBests', WHERE WHAT IT READS IS OF BULK AT MOST 1048576: true; the input reads as it did. -/
def tallyBestsUptoRow : OpenClaim := { program := "ytghbgcmhahndkaa", sum := "23829468321f11928bb73f7e1dff171363965c59297561eee1cec04bc90d1ac5", func := "cairn/cairnlaw6.TallyBests", spec := "tallyBests", unfollowed := true, recurses := true, apart := false, narrowed := true }
def TallyBestsUptoSaid : Prop := tallyBestsUptoRow.holds Try.pinned (OpenSpec.upto tallyBestsSpec)

/-- 'cairnlaw6.TallyTexts', WHERE WHAT IT READS IS OF BULK AT MOST 1048576: true; the input reads as it did. -/
def tallyTextsUptoRow : OpenClaim := { program := "ytghbgcmhahndkaa", sum := "23829468321f11928bb73f7e1dff171363965c59297561eee1cec04bc90d1ac5", func := "cairn/cairnlaw6.TallyTexts", spec := "tallyTexts", unfollowed := true, recurses := true, apart := false, narrowed := true }
def TallyTextsUptoSaid : Prop := tallyTextsUptoRow.holds Try.pinned (OpenSpec.upto tallyTextsSpec)

/-- 'cairnlaw6.TallyStamps', WHERE WHAT IT READS IS OF BULK AT MOST 1048576: true; the input reads as it did. -/
def tallyStampsUptoRow : OpenClaim := { program := "ytghbgcmhahndkaa", sum := "23829468321f11928bb73f7e1dff171363965c59297561eee1cec04bc90d1ac5", func := "cairn/cairnlaw6.TallyStamps", spec := "tallyStamps", unfollowed := true, recurses := true, apart := false, narrowed := true }
def TallyStampsUptoSaid : Prop := tallyStampsUptoRow.holds Try.pinned (OpenSpec.upto tallyStampsSpec)

end Rows
end Go.Proofs.Ytghbgcmhahndkaa
