/-
  No cell of these rows narrows 'for every input' (looked for: loops, veiled, ifaces, maps, wideKeys, modest, calm, conditions, laid).
  DERIVED. THE GIVEN ROWS OF THIS SEAT. 9 by the template 'for every input the law returns true; each argument reads behind the call as it read before'; 0 by the template 'total and deterministic' (their statements: YtphcpphmoeiioaaTotals.lean).
  GIVEN WITH THE SEED: the statements are not yours to turn. If you find one false, say at which input.
  Laid BY PROGRAM, IN A SANDBOX (cutbox-rows.mjs): the forced cells as the released guide's own fill.sh prints them over the translation f4e86033a2446585… (all of the seat's roots in one cut). By AI agents, Wed Nov 11 2026. No macro, syntax, notation, axiom, sorry.
-/
import Derived.Test.YtphcpphmoeiioaaChecked
import GoSem.Claim
import GoSem.ClaimJoined
import GoSem.ClaimMapViews
import Derived.JoinedTies
import Derived.KernelRfl
namespace Go.Proofs.Ytphcpphmoeiioaa
/- THE CELL 'sum', in the pinned program and in every row, IS THE sha256 OF THE DUMP (.gsa) THAT YtphcpphmoeiioaaProg.lean LOADS. Nothing in Lean hashes anything: it is a label: what it is worth is what the hold of that sum in a sandbox is worth. -/
noncomputable def Try.pinned : Pinned := { name := "ytphcpphmoeiioaa", sum := "f4e86033a2446585d1ff6c953596c1d4c9651fbeac545ada78074d9ed04c330e", checked := Try.checked }
namespace Rows
def none {H : Type} : Left H := { results := [], args := [] }

/-- 'knurllaw07.CurvesNext': WHATEVER THE INPUT: true; the input reads as it did. -/
def curvesNextSpec : ChangeSpec := { name := "curvesNext", fn := fun _ => fun
  | [d] => { results := [.lit (.bool true)], args := [d] }
  | _ => none }
def curvesNextRow : OpenClaim := { program := "ytphcpphmoeiioaa", sum := "f4e86033a2446585d1ff6c953596c1d4c9651fbeac545ada78074d9ed04c330e", func := "knurl/knurllaw07.CurvesNext", spec := "curvesNext", unfollowed := true, recurses := true, plainKeys := false, apart := false }
def CurvesNextSaid : Prop := curvesNextRow.holds Try.pinned (OpenSpec.ofChange curvesNextSpec)

/-- ITS FALSE NEIGHBOUR: 'it returns false'. Refute it at one input. -/
def curvesNextWrong : ChangeSpec := { name := "curvesNext", fn := fun _ => fun
  | [d] => { results := [.lit (.bool false)], args := [d] }
  | _ => none }
def CurvesNextWrongFalsely : Prop := curvesNextRow.holds Try.pinned (OpenSpec.ofChange curvesNextWrong)

/-- 'knurllaw07.CurvesJoined': WHATEVER THE INPUT: true; the input reads as it did. -/
def curvesJoinedSpec : ChangeSpec := { name := "curvesJoined", fn := fun _ => fun
  | [d1, d2, d3] => { results := [.lit (.bool true)], args := [d1, d2, d3] }
  | _ => none }
def curvesJoinedRow : OpenClaim := { program := "ytphcpphmoeiioaa", sum := "f4e86033a2446585d1ff6c953596c1d4c9651fbeac545ada78074d9ed04c330e", func := "knurl/knurllaw07.CurvesJoined", spec := "curvesJoined", unfollowed := true, recurses := true, plainKeys := false, apart := false }
def CurvesJoinedSaid : Prop := curvesJoinedRow.holds Try.pinned (OpenSpec.ofChange curvesJoinedSpec)

/-- ITS FALSE NEIGHBOUR: 'it returns false'. Refute it at one input. -/
def curvesJoinedWrong : ChangeSpec := { name := "curvesJoined", fn := fun _ => fun
  | [d1, d2, d3] => { results := [.lit (.bool false)], args := [d1, d2, d3] }
  | _ => none }
def CurvesJoinedWrongFalsely : Prop := curvesJoinedRow.holds Try.pinned (OpenSpec.ofChange curvesJoinedWrong)

/-- 'knurllaw07.CurvesDraw': WHATEVER THE INPUT: true; the input reads as it did. -/
def curvesDrawSpec : ChangeSpec := { name := "curvesDraw", fn := fun _ => fun
  | [d1, d2] => { results := [.lit (.bool true)], args := [d1, d2] }
  | _ => none }
def curvesDrawRow : OpenClaim := { program := "ytphcpphmoeiioaa", sum := "f4e86033a2446585d1ff6c953596c1d4c9651fbeac545ada78074d9ed04c330e", func := "knurl/knurllaw07.CurvesDraw", spec := "curvesDraw", unfollowed := true, recurses := true, plainKeys := false, apart := false }
def CurvesDrawSaid : Prop := curvesDrawRow.holds Try.pinned (OpenSpec.ofChange curvesDrawSpec)

/-- ITS FALSE NEIGHBOUR: 'it returns false'. Refute it at one input. -/
def curvesDrawWrong : ChangeSpec := { name := "curvesDraw", fn := fun _ => fun
  | [d1, d2] => { results := [.lit (.bool false)], args := [d1, d2] }
  | _ => none }
def CurvesDrawWrongFalsely : Prop := curvesDrawRow.holds Try.pinned (OpenSpec.ofChange curvesDrawWrong)

/-- 'knurllaw07.CurvesFlat': WHATEVER THE INPUT: true; the input reads as it did. -/
def curvesFlatSpec : ChangeSpec := { name := "curvesFlat", fn := fun _ => fun
  | [d1, d2] => { results := [.lit (.bool true)], args := [d1, d2] }
  | _ => none }
def curvesFlatRow : OpenClaim := { program := "ytphcpphmoeiioaa", sum := "f4e86033a2446585d1ff6c953596c1d4c9651fbeac545ada78074d9ed04c330e", func := "knurl/knurllaw07.CurvesFlat", spec := "curvesFlat", unfollowed := true, recurses := true, plainKeys := false, apart := false }
def CurvesFlatSaid : Prop := curvesFlatRow.holds Try.pinned (OpenSpec.ofChange curvesFlatSpec)

/-- ITS FALSE NEIGHBOUR: 'it returns false'. Refute it at one input. -/
def curvesFlatWrong : ChangeSpec := { name := "curvesFlat", fn := fun _ => fun
  | [d1, d2] => { results := [.lit (.bool false)], args := [d1, d2] }
  | _ => none }
def CurvesFlatWrongFalsely : Prop := curvesFlatRow.holds Try.pinned (OpenSpec.ofChange curvesFlatWrong)

/-- 'knurllaw07.CurvesMore': WHATEVER THE INPUT: true; the input reads as it did. -/
def curvesMoreSpec : ChangeSpec := { name := "curvesMore", fn := fun _ => fun
  | [d1, d2, d3] => { results := [.lit (.bool true)], args := [d1, d2, d3] }
  | _ => none }
def curvesMoreRow : OpenClaim := { program := "ytphcpphmoeiioaa", sum := "f4e86033a2446585d1ff6c953596c1d4c9651fbeac545ada78074d9ed04c330e", func := "knurl/knurllaw07.CurvesMore", spec := "curvesMore", unfollowed := true, recurses := true, plainKeys := false, apart := false }
def CurvesMoreSaid : Prop := curvesMoreRow.holds Try.pinned (OpenSpec.ofChange curvesMoreSpec)

/-- ITS FALSE NEIGHBOUR: 'it returns false'. Refute it at one input. -/
def curvesMoreWrong : ChangeSpec := { name := "curvesMore", fn := fun _ => fun
  | [d1, d2, d3] => { results := [.lit (.bool false)], args := [d1, d2, d3] }
  | _ => none }
def CurvesMoreWrongFalsely : Prop := curvesMoreRow.holds Try.pinned (OpenSpec.ofChange curvesMoreWrong)

/-- 'knurllaw07.CurvesMirror': WHATEVER THE INPUT: true; the input reads as it did. -/
def curvesMirrorSpec : ChangeSpec := { name := "curvesMirror", fn := fun _ => fun
  | [d1, d2] => { results := [.lit (.bool true)], args := [d1, d2] }
  | _ => none }
def curvesMirrorRow : OpenClaim := { program := "ytphcpphmoeiioaa", sum := "f4e86033a2446585d1ff6c953596c1d4c9651fbeac545ada78074d9ed04c330e", func := "knurl/knurllaw07.CurvesMirror", spec := "curvesMirror", unfollowed := true, recurses := true, plainKeys := false, apart := false }
def CurvesMirrorSaid : Prop := curvesMirrorRow.holds Try.pinned (OpenSpec.ofChange curvesMirrorSpec)

/-- ITS FALSE NEIGHBOUR: 'it returns false'. Refute it at one input. -/
def curvesMirrorWrong : ChangeSpec := { name := "curvesMirror", fn := fun _ => fun
  | [d1, d2] => { results := [.lit (.bool false)], args := [d1, d2] }
  | _ => none }
def CurvesMirrorWrongFalsely : Prop := curvesMirrorRow.holds Try.pinned (OpenSpec.ofChange curvesMirrorWrong)

/-- 'knurllaw07.CurvesHigher': WHATEVER THE INPUT: true; the input reads as it did. -/
def curvesHigherSpec : ChangeSpec := { name := "curvesHigher", fn := fun _ => fun
  | [d1, d2, d3] => { results := [.lit (.bool true)], args := [d1, d2, d3] }
  | _ => none }
def curvesHigherRow : OpenClaim := { program := "ytphcpphmoeiioaa", sum := "f4e86033a2446585d1ff6c953596c1d4c9651fbeac545ada78074d9ed04c330e", func := "knurl/knurllaw07.CurvesHigher", spec := "curvesHigher", unfollowed := true, recurses := true, plainKeys := false, apart := false }
def CurvesHigherSaid : Prop := curvesHigherRow.holds Try.pinned (OpenSpec.ofChange curvesHigherSpec)

/-- ITS FALSE NEIGHBOUR: 'it returns false'. Refute it at one input. -/
def curvesHigherWrong : ChangeSpec := { name := "curvesHigher", fn := fun _ => fun
  | [d1, d2, d3] => { results := [.lit (.bool false)], args := [d1, d2, d3] }
  | _ => none }
def CurvesHigherWrongFalsely : Prop := curvesHigherRow.holds Try.pinned (OpenSpec.ofChange curvesHigherWrong)

/-- 'knurllaw07.CurvesHeight': WHATEVER THE INPUT: true; the input reads as it did. -/
def curvesHeightSpec : ChangeSpec := { name := "curvesHeight", fn := fun _ => fun
  | [d1, d2] => { results := [.lit (.bool true)], args := [d1, d2] }
  | _ => none }
def curvesHeightRow : OpenClaim := { program := "ytphcpphmoeiioaa", sum := "f4e86033a2446585d1ff6c953596c1d4c9651fbeac545ada78074d9ed04c330e", func := "knurl/knurllaw07.CurvesHeight", spec := "curvesHeight", unfollowed := true, recurses := true, plainKeys := false, apart := false }
def CurvesHeightSaid : Prop := curvesHeightRow.holds Try.pinned (OpenSpec.ofChange curvesHeightSpec)

/-- ITS FALSE NEIGHBOUR: 'it returns false'. Refute it at one input. -/
def curvesHeightWrong : ChangeSpec := { name := "curvesHeight", fn := fun _ => fun
  | [d1, d2] => { results := [.lit (.bool false)], args := [d1, d2] }
  | _ => none }
def CurvesHeightWrongFalsely : Prop := curvesHeightRow.holds Try.pinned (OpenSpec.ofChange curvesHeightWrong)

/-- 'knurllaw07.CurvesTrue': WHATEVER THE INPUT: true; the input reads as it did. -/
def curvesTrueSpec : ChangeSpec := { name := "curvesTrue", fn := fun _ => fun
  | [d1, d2, d3] => { results := [.lit (.bool true)], args := [d1, d2, d3] }
  | _ => none }
def curvesTrueRow : OpenClaim := { program := "ytphcpphmoeiioaa", sum := "f4e86033a2446585d1ff6c953596c1d4c9651fbeac545ada78074d9ed04c330e", func := "knurl/knurllaw07.CurvesTrue", spec := "curvesTrue", unfollowed := true, recurses := true, plainKeys := false, apart := false }
def CurvesTrueSaid : Prop := curvesTrueRow.holds Try.pinned (OpenSpec.ofChange curvesTrueSpec)

/-- ITS FALSE NEIGHBOUR: 'it returns false'. Refute it at one input. -/
def curvesTrueWrong : ChangeSpec := { name := "curvesTrue", fn := fun _ => fun
  | [d1, d2, d3] => { results := [.lit (.bool false)], args := [d1, d2, d3] }
  | _ => none }
def CurvesTrueWrongFalsely : Prop := curvesTrueRow.holds Try.pinned (OpenSpec.ofChange curvesTrueWrong)

/- THE SECOND FORM. 'bulk': how many values and letters a reading holds, each counted each time it is reached (what is shared counts as often as it is met; a slice's spare places count too). A statement '..UptoSaid' is the law's where the arguments, and the package variables that the reading takes, are together of bulk at most 1048576: NARROWER than '..Said'. Prove '..Said' where nothing that the law and all that it calls make is longer than what came in: it says more and counts as full. Else prove '..UptoSaid'. A law counts once. -/
mutual
def uptoBulk {H : Type} : DataW H → Nat
  | .lit (.string bytes) => bytes.length + 1
  | .lit _ => 1
  | .nil => 1
  | .ptr d => uptoBulk d + 1
  | .slice elems spare => uptoBulkAll elems + uptoBulkAll spare + 1
  | .agg parts => uptoBulkAll parts + 1
  | .iface _ d => uptoBulk d + 1
  | .map entries => uptoBulkEntries entries + 1
  | .held _ => 1
def uptoBulkAll {H : Type} : List (DataW H) → Nat
  | [] => 0
  | d :: r => uptoBulk d + uptoBulkAll r
def uptoBulkEntries {H : Type} : List (Lit × DataW H) → Nat
  | [] => 0
  | x :: r => uptoBulkEntry x + uptoBulkEntries r
def uptoBulkEntry {H : Type} : Lit × DataW H → Nat
  | (.string bytes, d) => bytes.length + uptoBulk d + 1
  | (_, d) => uptoBulk d + 1
 end
def uptoSmall : (H : Type) → List (DataW H) → Bool := fun _ ds => decide (uptoBulkAll ds ≤ 1048576)
def OpenSpec.upto (s : _root_.Go.ChangeSpec) : _root_.Go.OpenSpec := { _root_.Go.OpenSpec.ofChange s with cond := some uptoSmall }

/-- 'knurllaw07.CurvesNext', WHERE WHAT IT READS IS OF BULK AT MOST 1048576: true; the input reads as it did. -/
def curvesNextUptoRow : OpenClaim := { program := "ytphcpphmoeiioaa", sum := "f4e86033a2446585d1ff6c953596c1d4c9651fbeac545ada78074d9ed04c330e", func := "knurl/knurllaw07.CurvesNext", spec := "curvesNext", unfollowed := true, recurses := true, plainKeys := false, apart := false, narrowed := true }
def CurvesNextUptoSaid : Prop := curvesNextUptoRow.holds Try.pinned (OpenSpec.upto curvesNextSpec)

/-- 'knurllaw07.CurvesJoined', WHERE WHAT IT READS IS OF BULK AT MOST 1048576: true; the input reads as it did. -/
def curvesJoinedUptoRow : OpenClaim := { program := "ytphcpphmoeiioaa", sum := "f4e86033a2446585d1ff6c953596c1d4c9651fbeac545ada78074d9ed04c330e", func := "knurl/knurllaw07.CurvesJoined", spec := "curvesJoined", unfollowed := true, recurses := true, plainKeys := false, apart := false, narrowed := true }
def CurvesJoinedUptoSaid : Prop := curvesJoinedUptoRow.holds Try.pinned (OpenSpec.upto curvesJoinedSpec)

/-- 'knurllaw07.CurvesDraw', WHERE WHAT IT READS IS OF BULK AT MOST 1048576: true; the input reads as it did. -/
def curvesDrawUptoRow : OpenClaim := { program := "ytphcpphmoeiioaa", sum := "f4e86033a2446585d1ff6c953596c1d4c9651fbeac545ada78074d9ed04c330e", func := "knurl/knurllaw07.CurvesDraw", spec := "curvesDraw", unfollowed := true, recurses := true, plainKeys := false, apart := false, narrowed := true }
def CurvesDrawUptoSaid : Prop := curvesDrawUptoRow.holds Try.pinned (OpenSpec.upto curvesDrawSpec)

/-- 'knurllaw07.CurvesFlat', WHERE WHAT IT READS IS OF BULK AT MOST 1048576: true; the input reads as it did. -/
def curvesFlatUptoRow : OpenClaim := { program := "ytphcpphmoeiioaa", sum := "f4e86033a2446585d1ff6c953596c1d4c9651fbeac545ada78074d9ed04c330e", func := "knurl/knurllaw07.CurvesFlat", spec := "curvesFlat", unfollowed := true, recurses := true, plainKeys := false, apart := false, narrowed := true }
def CurvesFlatUptoSaid : Prop := curvesFlatUptoRow.holds Try.pinned (OpenSpec.upto curvesFlatSpec)

/-- 'knurllaw07.CurvesMore', WHERE WHAT IT READS IS OF BULK AT MOST 1048576: true; the input reads as it did. -/
def curvesMoreUptoRow : OpenClaim := { program := "ytphcpphmoeiioaa", sum := "f4e86033a2446585d1ff6c953596c1d4c9651fbeac545ada78074d9ed04c330e", func := "knurl/knurllaw07.CurvesMore", spec := "curvesMore", unfollowed := true, recurses := true, plainKeys := false, apart := false, narrowed := true }
def CurvesMoreUptoSaid : Prop := curvesMoreUptoRow.holds Try.pinned (OpenSpec.upto curvesMoreSpec)

/-- 'knurllaw07.CurvesMirror', WHERE WHAT IT READS IS OF BULK AT MOST 1048576: true; the input reads as it did. -/
def curvesMirrorUptoRow : OpenClaim := { program := "ytphcpphmoeiioaa", sum := "f4e86033a2446585d1ff6c953596c1d4c9651fbeac545ada78074d9ed04c330e", func := "knurl/knurllaw07.CurvesMirror", spec := "curvesMirror", unfollowed := true, recurses := true, plainKeys := false, apart := false, narrowed := true }
def CurvesMirrorUptoSaid : Prop := curvesMirrorUptoRow.holds Try.pinned (OpenSpec.upto curvesMirrorSpec)

/-- 'knurllaw07.CurvesHigher', WHERE WHAT IT READS IS OF BULK AT MOST 1048576: true; the input reads as it did. -/
def curvesHigherUptoRow : OpenClaim := { program := "ytphcpphmoeiioaa", sum := "f4e86033a2446585d1ff6c953596c1d4c9651fbeac545ada78074d9ed04c330e", func := "knurl/knurllaw07.CurvesHigher", spec := "curvesHigher", unfollowed := true, recurses := true, plainKeys := false, apart := false, narrowed := true }
def CurvesHigherUptoSaid : Prop := curvesHigherUptoRow.holds Try.pinned (OpenSpec.upto curvesHigherSpec)

/-- 'knurllaw07.CurvesHeight', WHERE WHAT IT READS IS OF BULK AT MOST 1048576: true; the input reads as it did. -/
def curvesHeightUptoRow : OpenClaim := { program := "ytphcpphmoeiioaa", sum := "f4e86033a2446585d1ff6c953596c1d4c9651fbeac545ada78074d9ed04c330e", func := "knurl/knurllaw07.CurvesHeight", spec := "curvesHeight", unfollowed := true, recurses := true, plainKeys := false, apart := false, narrowed := true }
def CurvesHeightUptoSaid : Prop := curvesHeightUptoRow.holds Try.pinned (OpenSpec.upto curvesHeightSpec)

/-- 'knurllaw07.CurvesTrue', WHERE WHAT IT READS IS OF BULK AT MOST 1048576: true; the input reads as it did. -/
def curvesTrueUptoRow : OpenClaim := { program := "ytphcpphmoeiioaa", sum := "f4e86033a2446585d1ff6c953596c1d4c9651fbeac545ada78074d9ed04c330e", func := "knurl/knurllaw07.CurvesTrue", spec := "curvesTrue", unfollowed := true, recurses := true, plainKeys := false, apart := false, narrowed := true }
def CurvesTrueUptoSaid : Prop := curvesTrueUptoRow.holds Try.pinned (OpenSpec.upto curvesTrueSpec)

end Rows
end Go.Proofs.Ytphcpphmoeiioaa
