/-
  No cell of these rows narrows 'for every input' (looked for: loops, veiled, ifaces, maps, wideKeys, modest, calm, conditions, laid).
  DERIVED. THE GIVEN ROWS OF THIS SEAT. 3 by the template 'for every input the law returns true; each argument reads behind the call as it read before'; 0 by the template 'total and deterministic' (their statements: YtolhijnkgkfjgaaTotals.lean).
  GIVEN WITH THE SEED: the statements are not yours to turn. If you find one false, say at which input.
  Laid BY PROGRAM, IN A SANDBOX (cutbox-rows.mjs): the forced cells as the released guide's own fill.sh prints them over the translation 5a75f06530b968a8… (all of the seat's roots in one cut). By AI agents, Wed Nov 11 2026. No macro, syntax, notation, axiom, sorry.
-/
import Derived.Test.YtolhijnkgkfjgaaChecked
import GoSem.Claim
import GoSem.ClaimJoined
import GoSem.ClaimMapViews
import Derived.JoinedTies
import Derived.KernelRfl
namespace Go.Proofs.Ytolhijnkgkfjgaa
/- THE CELL 'sum', in the pinned program and in every row, IS THE sha256 OF THE DUMP (.gsa) THAT YtolhijnkgkfjgaaProg.lean LOADS. Nothing in Lean hashes anything: it is a label: what it is worth is what the hold of that sum in a sandbox is worth. -/
noncomputable def Try.pinned : Pinned := { name := "ytolhijnkgkfjgaa", sum := "5a75f06530b968a8d3848a096015ce0ff7e1fbb1c48d16c8f1b6e94bd996abd6", checked := Try.checked }
namespace Rows
def none {H : Type} : Left H := { results := [], args := [] }

/-- 'mandrellaw19.ScanApart': WHATEVER THE INPUT: true; the input reads as it did. -/
def scanApartSpec : ChangeSpec := { name := "scanApart", fn := fun _ => fun
  | [d1, d2, d3] => { results := [.lit (.bool true)], args := [d1, d2, d3] }
  | _ => none }
def scanApartRow : OpenClaim := { program := "ytolhijnkgkfjgaa", sum := "5a75f06530b968a8d3848a096015ce0ff7e1fbb1c48d16c8f1b6e94bd996abd6", func := "mandrel/mandrellaw19.ScanApart", spec := "scanApart", unfollowed := true, recurses := true, apart := false }
def ScanApartSaid : Prop := scanApartRow.holds Try.pinned (OpenSpec.ofChange scanApartSpec)

/-- ITS FALSE NEIGHBOUR: 'it returns false'. Refute it at one input. -/
def scanApartWrong : ChangeSpec := { name := "scanApart", fn := fun _ => fun
  | [d1, d2, d3] => { results := [.lit (.bool false)], args := [d1, d2, d3] }
  | _ => none }
def ScanApartWrongFalsely : Prop := scanApartRow.holds Try.pinned (OpenSpec.ofChange scanApartWrong)

/-- 'mandrellaw19.ScanTight': WHATEVER THE INPUT: true; the input reads as it did. -/
def scanTightSpec : ChangeSpec := { name := "scanTight", fn := fun _ => fun
  | [d1, d2] => { results := [.lit (.bool true)], args := [d1, d2] }
  | _ => none }
def scanTightRow : OpenClaim := { program := "ytolhijnkgkfjgaa", sum := "5a75f06530b968a8d3848a096015ce0ff7e1fbb1c48d16c8f1b6e94bd996abd6", func := "mandrel/mandrellaw19.ScanTight", spec := "scanTight", unfollowed := true, recurses := true, apart := false }
def ScanTightSaid : Prop := scanTightRow.holds Try.pinned (OpenSpec.ofChange scanTightSpec)

/-- ITS FALSE NEIGHBOUR: 'it returns false'. Refute it at one input. -/
def scanTightWrong : ChangeSpec := { name := "scanTight", fn := fun _ => fun
  | [d1, d2] => { results := [.lit (.bool false)], args := [d1, d2] }
  | _ => none }
def ScanTightWrongFalsely : Prop := scanTightRow.holds Try.pinned (OpenSpec.ofChange scanTightWrong)

/-- 'mandrellaw19.ScanTowers': WHATEVER THE INPUT: true; the input reads as it did. -/
def scanTowersSpec : ChangeSpec := { name := "scanTowers", fn := fun _ => fun
  | [d1, d2] => { results := [.lit (.bool true)], args := [d1, d2] }
  | _ => none }
def scanTowersRow : OpenClaim := { program := "ytolhijnkgkfjgaa", sum := "5a75f06530b968a8d3848a096015ce0ff7e1fbb1c48d16c8f1b6e94bd996abd6", func := "mandrel/mandrellaw19.ScanTowers", spec := "scanTowers", unfollowed := true, recurses := true, apart := false }
def ScanTowersSaid : Prop := scanTowersRow.holds Try.pinned (OpenSpec.ofChange scanTowersSpec)

/-- ITS FALSE NEIGHBOUR: 'it returns false'. Refute it at one input. -/
def scanTowersWrong : ChangeSpec := { name := "scanTowers", fn := fun _ => fun
  | [d1, d2] => { results := [.lit (.bool false)], args := [d1, d2] }
  | _ => none }
def ScanTowersWrongFalsely : Prop := scanTowersRow.holds Try.pinned (OpenSpec.ofChange scanTowersWrong)

/- THE SECOND FORM. 'bulk': how many values and letters a reading holds, each counted each time it is reached (what is shared counts as often as it is met; a slice's spare places count too). A statement '..UptoSaid' is the law's where the arguments, and the package variables that the reading takes, are together of bulk at most 1048576: NARROWER than '..Said'. Prove '..Said' where nothing that the law and all that it calls make is longer than what came in: it says more and counts as full. Else prove '..UptoSaid'. A law counts once. -/
mutual
def uptoBulk {H : Type} : DataW H → Nat
  | .lit (.string bytes) => bytes.length + 1
  | .lit _ => 1
  | .nil => 1
  | .ptr d => uptoBulk d + 1
  | .slice elems spare => uptoBulkAll elems + uptoBulkAll spare + 1
  | .agg parts => uptoBulkAll parts + 1
  | .iface _ d => uptoBulk d + 1
  | .map entries => uptoBulkEntries entries + 1
  | .held _ => 1
def uptoBulkAll {H : Type} : List (DataW H) → Nat
  | [] => 0
  | d :: r => uptoBulk d + uptoBulkAll r
def uptoBulkEntries {H : Type} : List (Lit × DataW H) → Nat
  | [] => 0
  | x :: r => uptoBulkEntry x + uptoBulkEntries r
def uptoBulkEntry {H : Type} : Lit × DataW H → Nat
  | (.string bytes, d) => bytes.length + uptoBulk d + 1
  | (_, d) => uptoBulk d + 1
 end
def uptoSmall : (H : Type) → List (DataW H) → Bool := fun _ ds => decide (uptoBulkAll ds ≤ 1048576)
def OpenSpec.upto (s : _root_.Go.ChangeSpec) : _root_.Go.OpenSpec := { _root_.Go.OpenSpec.ofChange s with cond := some uptoSmall }

/-- 'mandrellaw19.ScanApart', WHERE WHAT IT READS IS OF BULK AT MOST 1048576: true; the input reads as it did. -/
def scanApartUptoRow : OpenClaim := { program := "ytolhijnkgkfjgaa", sum := "5a75f06530b968a8d3848a096015ce0ff7e1fbb1c48d16c8f1b6e94bd996abd6", func := "mandrel/mandrellaw19.ScanApart", spec := "scanApart", unfollowed := true, recurses := true, apart := false, narrowed := true }
def ScanApartUptoSaid : Prop := scanApartUptoRow.holds Try.pinned (OpenSpec.upto scanApartSpec)

/-- 'mandrellaw19.ScanTight', WHERE WHAT IT READS IS OF BULK AT MOST 1048576: true; the input reads as it did. -/
def scanTightUptoRow : OpenClaim := { program := "ytolhijnkgkfjgaa", sum := "5a75f06530b968a8d3848a096015ce0ff7e1fbb1c48d16c8f1b6e94bd996abd6", func := "mandrel/mandrellaw19.ScanTight", spec := "scanTight", unfollowed := true, recurses := true, apart := false, narrowed := true }
def ScanTightUptoSaid : Prop := scanTightUptoRow.holds Try.pinned (OpenSpec.upto scanTightSpec)

/-- 'mandrellaw19.ScanTowers', WHERE WHAT IT READS IS OF BULK AT MOST 1048576: true; the input reads as it did. -/
def scanTowersUptoRow : OpenClaim := { program := "ytolhijnkgkfjgaa", sum := "5a75f06530b968a8d3848a096015ce0ff7e1fbb1c48d16c8f1b6e94bd996abd6", func := "mandrel/mandrellaw19.ScanTowers", spec := "scanTowers", unfollowed := true, recurses := true, apart := false, narrowed := true }
def ScanTowersUptoSaid : Prop := scanTowersUptoRow.holds Try.pinned (OpenSpec.upto scanTowersSpec)

end Rows
end Go.Proofs.Ytolhijnkgkfjgaa
