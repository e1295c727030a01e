/-
  NARROWER THAN 'FOR EVERY INPUT', by the rows' own cells (each row's printed sentence says how): GraphAsks: loops · GraphAgain: loops · GraphOrders: loops · GraphMoved: loops · GraphLent: loops.
  DERIVED. THE GIVEN ROWS OF THIS SEAT. 6 by the template 'for every input the law returns true; each argument reads behind the call as it read before'; 0 by the template 'total and deterministic' (their statements: YtdadiidfhnojcaaTotals.lean).
  GIVEN WITH THE SEED: the statements are not yours to turn. If you find one false, say at which input.
  Laid BY PROGRAM, IN A SANDBOX (cutbox-rows.mjs): the forced cells as the released guide's own fill.sh prints them over the translation 5ebcffe0c7a5872d… (all of the seat's roots in one cut). By AI agents, Wed Nov 11 2026. No macro, syntax, notation, axiom, sorry.
-/
import Derived.Test.YtdadiidfhnojcaaChecked
import GoSem.Claim
import GoSem.ClaimJoined
import GoSem.ClaimMapViews
import Derived.JoinedTies
import Derived.KernelRfl
namespace Go.Proofs.Ytdadiidfhnojcaa
/- THE CELL 'sum', in the pinned program and in every row, IS THE sha256 OF THE DUMP (.gsa) THAT YtdadiidfhnojcaaProg.lean LOADS. Nothing in Lean hashes anything: it is a label: what it is worth is what the hold of that sum in a sandbox is worth. -/
noncomputable def Try.pinned : Pinned := { name := "ytdadiidfhnojcaa", sum := "5ebcffe0c7a5872dc0f8a706ea6178b5a61d01ce1558244e458aced5a28b4a50", checked := Try.checked }
namespace Rows
def none {H : Type} : Left H := { results := [], args := [] }

/-- 'kilnlaw13.GraphAsks': WHATEVER THE INPUT: true; the input reads as it did. -/
def graphAsksSpec : ChangeSpec := { name := "graphAsks", fn := fun _ => fun
  | [d1, d2] => { results := [.lit (.bool true)], args := [d1, d2] }
  | _ => none }
def graphAsksRow : OpenClaim := { program := "ytdadiidfhnojcaa", sum := "5ebcffe0c7a5872dc0f8a706ea6178b5a61d01ce1558244e458aced5a28b4a50", func := "kiln/kilnlaw13.GraphAsks", spec := "graphAsks", inPlace := ["slices.overlaps[int]"], unfollowed := true, recurses := true, loops := true, apart := false }
def GraphAsksSaid : Prop := graphAsksRow.holds Try.pinned (OpenSpec.ofChange graphAsksSpec)

/-- ITS FALSE NEIGHBOUR: 'it returns false'. Refute it at one input. -/
def graphAsksWrong : ChangeSpec := { name := "graphAsks", fn := fun _ => fun
  | [d1, d2] => { results := [.lit (.bool false)], args := [d1, d2] }
  | _ => none }
def GraphAsksWrongFalsely : Prop := graphAsksRow.holds Try.pinned (OpenSpec.ofChange graphAsksWrong)

/-- 'kilnlaw13.GraphAgain': WHATEVER THE INPUT: true; the input reads as it did. -/
def graphAgainSpec : ChangeSpec := { name := "graphAgain", fn := fun _ => fun
  | [d1, d2] => { results := [.lit (.bool true)], args := [d1, d2] }
  | _ => none }
def graphAgainRow : OpenClaim := { program := "ytdadiidfhnojcaa", sum := "5ebcffe0c7a5872dc0f8a706ea6178b5a61d01ce1558244e458aced5a28b4a50", func := "kiln/kilnlaw13.GraphAgain", spec := "graphAgain", inPlace := ["slices.overlaps[int]"], unfollowed := true, recurses := true, loops := true, apart := false }
def GraphAgainSaid : Prop := graphAgainRow.holds Try.pinned (OpenSpec.ofChange graphAgainSpec)

/-- ITS FALSE NEIGHBOUR: 'it returns false'. Refute it at one input. -/
def graphAgainWrong : ChangeSpec := { name := "graphAgain", fn := fun _ => fun
  | [d1, d2] => { results := [.lit (.bool false)], args := [d1, d2] }
  | _ => none }
def GraphAgainWrongFalsely : Prop := graphAgainRow.holds Try.pinned (OpenSpec.ofChange graphAgainWrong)

/-- 'kilnlaw13.GraphOrders': WHATEVER THE INPUT: true; the input reads as it did. -/
def graphOrdersSpec : ChangeSpec := { name := "graphOrders", fn := fun _ => fun
  | [d] => { results := [.lit (.bool true)], args := [d] }
  | _ => none }
def graphOrdersRow : OpenClaim := { program := "ytdadiidfhnojcaa", sum := "5ebcffe0c7a5872dc0f8a706ea6178b5a61d01ce1558244e458aced5a28b4a50", func := "kiln/kilnlaw13.GraphOrders", spec := "graphOrders", inPlace := ["slices.overlaps[int]"], unfollowed := true, recurses := true, loops := true, apart := false }
def GraphOrdersSaid : Prop := graphOrdersRow.holds Try.pinned (OpenSpec.ofChange graphOrdersSpec)

/-- ITS FALSE NEIGHBOUR: 'it returns false'. Refute it at one input. -/
def graphOrdersWrong : ChangeSpec := { name := "graphOrders", fn := fun _ => fun
  | [d] => { results := [.lit (.bool false)], args := [d] }
  | _ => none }
def GraphOrdersWrongFalsely : Prop := graphOrdersRow.holds Try.pinned (OpenSpec.ofChange graphOrdersWrong)

/-- 'kilnlaw13.GraphMoved': WHATEVER THE INPUT: true; the input reads as it did. -/
def graphMovedSpec : ChangeSpec := { name := "graphMoved", fn := fun _ => fun
  | [d1, d2] => { results := [.lit (.bool true)], args := [d1, d2] }
  | _ => none }
def graphMovedRow : OpenClaim := { program := "ytdadiidfhnojcaa", sum := "5ebcffe0c7a5872dc0f8a706ea6178b5a61d01ce1558244e458aced5a28b4a50", func := "kiln/kilnlaw13.GraphMoved", spec := "graphMoved", inPlace := ["slices.overlaps[int]"], unfollowed := true, recurses := true, loops := true, apart := false }
def GraphMovedSaid : Prop := graphMovedRow.holds Try.pinned (OpenSpec.ofChange graphMovedSpec)

/-- ITS FALSE NEIGHBOUR: 'it returns false'. Refute it at one input. -/
def graphMovedWrong : ChangeSpec := { name := "graphMoved", fn := fun _ => fun
  | [d1, d2] => { results := [.lit (.bool false)], args := [d1, d2] }
  | _ => none }
def GraphMovedWrongFalsely : Prop := graphMovedRow.holds Try.pinned (OpenSpec.ofChange graphMovedWrong)

/-- 'kilnlaw13.GraphGreat': WHATEVER THE INPUT: true; the input reads as it did. -/
def graphGreatSpec : ChangeSpec := { name := "graphGreat", fn := fun _ => fun
  | [d1, d2, d3] => { results := [.lit (.bool true)], args := [d1, d2, d3] }
  | _ => none }
def graphGreatRow : OpenClaim := { program := "ytdadiidfhnojcaa", sum := "5ebcffe0c7a5872dc0f8a706ea6178b5a61d01ce1558244e458aced5a28b4a50", func := "kiln/kilnlaw13.GraphGreat", spec := "graphGreat", inPlace := ["slices.overlaps[int]"], unfollowed := true, recurses := true, apart := false }
def GraphGreatSaid : Prop := graphGreatRow.holds Try.pinned (OpenSpec.ofChange graphGreatSpec)

/-- ITS FALSE NEIGHBOUR: 'it returns false'. Refute it at one input. -/
def graphGreatWrong : ChangeSpec := { name := "graphGreat", fn := fun _ => fun
  | [d1, d2, d3] => { results := [.lit (.bool false)], args := [d1, d2, d3] }
  | _ => none }
def GraphGreatWrongFalsely : Prop := graphGreatRow.holds Try.pinned (OpenSpec.ofChange graphGreatWrong)

/-- 'kilnlaw13.GraphLent': WHATEVER THE INPUT: true; the input reads as it did. -/
def graphLentSpec : ChangeSpec := { name := "graphLent", fn := fun _ => fun
  | [d1, d2] => { results := [.lit (.bool true)], args := [d1, d2] }
  | _ => none }
def graphLentRow : OpenClaim := { program := "ytdadiidfhnojcaa", sum := "5ebcffe0c7a5872dc0f8a706ea6178b5a61d01ce1558244e458aced5a28b4a50", func := "kiln/kilnlaw13.GraphLent", spec := "graphLent", inPlace := ["slices.overlaps[int]"], unfollowed := true, recurses := true, loops := true, apart := false }
def GraphLentSaid : Prop := graphLentRow.holds Try.pinned (OpenSpec.ofChange graphLentSpec)

/-- ITS FALSE NEIGHBOUR: 'it returns false'. Refute it at one input. -/
def graphLentWrong : ChangeSpec := { name := "graphLent", fn := fun _ => fun
  | [d1, d2] => { results := [.lit (.bool false)], args := [d1, d2] }
  | _ => none }
def GraphLentWrongFalsely : Prop := graphLentRow.holds Try.pinned (OpenSpec.ofChange graphLentWrong)

/- THE SECOND FORM. 'bulk': how many values and letters a reading holds, each counted each time it is reached (what is shared counts as often as it is met; a slice's spare places count too). A statement '..UptoSaid' is the law's where the arguments, and the package variables that the reading takes, are together of bulk at most 1048576: NARROWER than '..Said'. Prove '..Said' where nothing that the law and all that it calls make is longer than what came in: it says more and counts as full. Else prove '..UptoSaid'. A law counts once. -/
mutual
def uptoBulk {H : Type} : DataW H → Nat
  | .lit (.string bytes) => bytes.length + 1
  | .lit _ => 1
  | .nil => 1
  | .ptr d => uptoBulk d + 1
  | .slice elems spare => uptoBulkAll elems + uptoBulkAll spare + 1
  | .agg parts => uptoBulkAll parts + 1
  | .iface _ d => uptoBulk d + 1
  | .map entries => uptoBulkEntries entries + 1
  | .held _ => 1
def uptoBulkAll {H : Type} : List (DataW H) → Nat
  | [] => 0
  | d :: r => uptoBulk d + uptoBulkAll r
def uptoBulkEntries {H : Type} : List (Lit × DataW H) → Nat
  | [] => 0
  | x :: r => uptoBulkEntry x + uptoBulkEntries r
def uptoBulkEntry {H : Type} : Lit × DataW H → Nat
  | (.string bytes, d) => bytes.length + uptoBulk d + 1
  | (_, d) => uptoBulk d + 1
 end
def uptoSmall : (H : Type) → List (DataW H) → Bool := fun _ ds => decide (uptoBulkAll ds ≤ 1048576)
def OpenSpec.upto (s : _root_.Go.ChangeSpec) : _root_.Go.OpenSpec := { _root_.Go.OpenSpec.ofChange s with cond := some uptoSmall }

/-- 'kilnlaw13.GraphAsks', WHERE WHAT IT READS IS OF BULK AT MOST 1048576: true; the input reads as it did. -/
def graphAsksUptoRow : OpenClaim := { program := "ytdadiidfhnojcaa", sum := "5ebcffe0c7a5872dc0f8a706ea6178b5a61d01ce1558244e458aced5a28b4a50", func := "kiln/kilnlaw13.GraphAsks", spec := "graphAsks", inPlace := ["slices.overlaps[int]"], unfollowed := true, recurses := true, loops := true, apart := false, narrowed := true }
def GraphAsksUptoSaid : Prop := graphAsksUptoRow.holds Try.pinned (OpenSpec.upto graphAsksSpec)

/-- 'kilnlaw13.GraphAgain', WHERE WHAT IT READS IS OF BULK AT MOST 1048576: true; the input reads as it did. -/
def graphAgainUptoRow : OpenClaim := { program := "ytdadiidfhnojcaa", sum := "5ebcffe0c7a5872dc0f8a706ea6178b5a61d01ce1558244e458aced5a28b4a50", func := "kiln/kilnlaw13.GraphAgain", spec := "graphAgain", inPlace := ["slices.overlaps[int]"], unfollowed := true, recurses := true, loops := true, apart := false, narrowed := true }
def GraphAgainUptoSaid : Prop := graphAgainUptoRow.holds Try.pinned (OpenSpec.upto graphAgainSpec)

/-- 'kilnlaw13.GraphOrders', WHERE WHAT IT READS IS OF BULK AT MOST 1048576: true; the input reads as it did. -/
def graphOrdersUptoRow : OpenClaim := { program := "ytdadiidfhnojcaa", sum := "5ebcffe0c7a5872dc0f8a706ea6178b5a61d01ce1558244e458aced5a28b4a50", func := "kiln/kilnlaw13.GraphOrders", spec := "graphOrders", inPlace := ["slices.overlaps[int]"], unfollowed := true, recurses := true, loops := true, apart := false, narrowed := true }
def GraphOrdersUptoSaid : Prop := graphOrdersUptoRow.holds Try.pinned (OpenSpec.upto graphOrdersSpec)

/-- 'kilnlaw13.GraphMoved', WHERE WHAT IT READS IS OF BULK AT MOST 1048576: true; the input reads as it did. -/
def graphMovedUptoRow : OpenClaim := { program := "ytdadiidfhnojcaa", sum := "5ebcffe0c7a5872dc0f8a706ea6178b5a61d01ce1558244e458aced5a28b4a50", func := "kiln/kilnlaw13.GraphMoved", spec := "graphMoved", inPlace := ["slices.overlaps[int]"], unfollowed := true, recurses := true, loops := true, apart := false, narrowed := true }
def GraphMovedUptoSaid : Prop := graphMovedUptoRow.holds Try.pinned (OpenSpec.upto graphMovedSpec)

/-- 'kilnlaw13.GraphGreat', WHERE WHAT IT READS IS OF BULK AT MOST 1048576: true; the input reads as it did. -/
def graphGreatUptoRow : OpenClaim := { program := "ytdadiidfhnojcaa", sum := "5ebcffe0c7a5872dc0f8a706ea6178b5a61d01ce1558244e458aced5a28b4a50", func := "kiln/kilnlaw13.GraphGreat", spec := "graphGreat", inPlace := ["slices.overlaps[int]"], unfollowed := true, recurses := true, apart := false, narrowed := true }
def GraphGreatUptoSaid : Prop := graphGreatUptoRow.holds Try.pinned (OpenSpec.upto graphGreatSpec)

/-- 'kilnlaw13.GraphLent', WHERE WHAT IT READS IS OF BULK AT MOST 1048576: true; the input reads as it did. -/
def graphLentUptoRow : OpenClaim := { program := "ytdadiidfhnojcaa", sum := "5ebcffe0c7a5872dc0f8a706ea6178b5a61d01ce1558244e458aced5a28b4a50", func := "kiln/kilnlaw13.GraphLent", spec := "graphLent", inPlace := ["slices.overlaps[int]"], unfollowed := true, recurses := true, loops := true, apart := false, narrowed := true }
def GraphLentUptoSaid : Prop := graphLentUptoRow.holds Try.pinned (OpenSpec.upto graphLentSpec)

end Rows
end Go.Proofs.Ytdadiidfhnojcaa
