/-
  NARROWER THAN 'FOR EVERY INPUT', by the rows' own cells (each row's printed sentence says how): TopOpening: laid · CoastsWider: laid · CoastsWay: laid · CoastsBack: laid · CoastsMore: laid · CoastsOpenings: laid · CoastsLonger: laid · CoastsLeast: laid · CoastsCounts: laid · CoastsTrue: laid.
  DERIVED. THE GIVEN ROWS OF THIS SEAT. 10 by the template 'for every input the law returns true; each argument reads behind the call as it read before'; 0 by the template 'total and deterministic' (their statements: YtibkgnnpmidgfaaDoorTotals.lean).
  GIVEN WITH THE SEED: the statements are not yours to turn. If you find one false, say at which input.
  Laid BY PROGRAM, IN A SANDBOX (cutbox-rows.mjs): the forced cells as the released guide's own fill.sh prints them over the translation 73da4c0103f431a7… (all of the seat's roots in one cut). By AI agents, Wed Nov 11 2026. No macro, syntax, notation, axiom, sorry.
-/
import Derived.Test.YtibkgnnpmidgfaaDoorChecked
import GoSem.Claim
import GoSem.ClaimJoined
import GoSem.ClaimMapViews
import Derived.JoinedTies
import Derived.KernelRfl
namespace Go.Proofs.YtibkgnnpmidgfaaDoor
/- THE CELL 'sum', in the pinned program and in every row, IS THE sha256 OF THE DUMP (.gsa) THAT YtibkgnnpmidgfaaDoorProg.lean LOADS. Nothing in Lean hashes anything: it is a label: what it is worth is what the hold of that sum in a sandbox is worth. -/
noncomputable def Tryd.pinned : Pinned := { name := "ytibkgnnpmidgfaadoor", sum := "73da4c0103f431a726407abc5e15a25ba03f1217901e2f160e47056adf1770d4", checked := Tryd.checked }
namespace Rows
def none {H : Type} : Left H := { results := [], args := [] }

/- WHAT THE LISTED PACKAGE-LEVEL VARIABLES READ AS WHEN THE CALL BEGINS. Each datum BY PROGRAM (the guide's laid-datum.mjs) off the statement by which the dump's own 'gosem.cut.vars' lays the variable. In a bare row this is a premise. The card (YtibkgnnpmidgfaaDoorCards.lean) ties it to the program's text. -/
def laid_math_bits_deBruijn32tab {H : Type} : DataW H := .agg [.lit (.int .u8 0), .lit (.int .u8 1), .lit (.int .u8 28), .lit (.int .u8 2), .lit (.int .u8 29), .lit (.int .u8 14), .lit (.int .u8 24), .lit (.int .u8 3), .lit (.int .u8 30), .lit (.int .u8 22), .lit (.int .u8 20), .lit (.int .u8 15), .lit (.int .u8 25), .lit (.int .u8 17), .lit (.int .u8 4), .lit (.int .u8 8), .lit (.int .u8 31), .lit (.int .u8 27), .lit (.int .u8 13), .lit (.int .u8 23), .lit (.int .u8 21), .lit (.int .u8 19), .lit (.int .u8 16), .lit (.int .u8 7), .lit (.int .u8 26), .lit (.int .u8 12), .lit (.int .u8 18), .lit (.int .u8 6), .lit (.int .u8 11), .lit (.int .u8 5), .lit (.int .u8 10), .lit (.int .u8 9)]
def laid_math_bits_deBruijn64tab {H : Type} : DataW H := .agg [.lit (.int .u8 0), .lit (.int .u8 1), .lit (.int .u8 56), .lit (.int .u8 2), .lit (.int .u8 57), .lit (.int .u8 49), .lit (.int .u8 28), .lit (.int .u8 3), .lit (.int .u8 61), .lit (.int .u8 58), .lit (.int .u8 42), .lit (.int .u8 50), .lit (.int .u8 38), .lit (.int .u8 29), .lit (.int .u8 17), .lit (.int .u8 4), .lit (.int .u8 62), .lit (.int .u8 47), .lit (.int .u8 59), .lit (.int .u8 36), .lit (.int .u8 45), .lit (.int .u8 43), .lit (.int .u8 51), .lit (.int .u8 22), .lit (.int .u8 53), .lit (.int .u8 39), .lit (.int .u8 33), .lit (.int .u8 30), .lit (.int .u8 24), .lit (.int .u8 18), .lit (.int .u8 12), .lit (.int .u8 5), .lit (.int .u8 63), .lit (.int .u8 55), .lit (.int .u8 48), .lit (.int .u8 27), .lit (.int .u8 60), .lit (.int .u8 41), .lit (.int .u8 37), .lit (.int .u8 16), .lit (.int .u8 46), .lit (.int .u8 35), .lit (.int .u8 44), .lit (.int .u8 21), .lit (.int .u8 52), .lit (.int .u8 32), .lit (.int .u8 23), .lit (.int .u8 11), .lit (.int .u8 54), .lit (.int .u8 26), .lit (.int .u8 40), .lit (.int .u8 15), .lit (.int .u8 34), .lit (.int .u8 20), .lit (.int .u8 31), .lit (.int .u8 10), .lit (.int .u8 25), .lit (.int .u8 14), .lit (.int .u8 19), .lit (.int .u8 9), .lit (.int .u8 13), .lit (.int .u8 8), .lit (.int .u8 7), .lit (.int .u8 6)]

/-- 'knurltop.TopOpening': WHATEVER THE INPUT: true; the input reads as it did. -/
def topOpeningSpec : ChangeSpec := { name := "topOpening", fn := fun _ => fun
  | [d1, d2, d3] => { results := [.lit (.bool true)], args := [d1, d2, d3] }
  | _ => none }
def topOpeningRow : OpenClaim := { program := "ytibkgnnpmidgfaadoor", sum := "73da4c0103f431a726407abc5e15a25ba03f1217901e2f160e47056adf1770d4", func := "knurl/knurltop.TopOpening", spec := "topOpening", unfollowed := true, recurses := true, named := ["math/bits.deBruijn32tab", "math/bits.deBruijn64tab"], plainKeys := false, apart := false, laid := [("math/bits.deBruijn32tab", laid_math_bits_deBruijn32tab), ("math/bits.deBruijn64tab", laid_math_bits_deBruijn64tab)] }
def TopOpeningSaid : Prop := topOpeningRow.holds Tryd.pinned (OpenSpec.ofChange topOpeningSpec)

/-- ITS FALSE NEIGHBOUR: 'it returns false'. Refute it at one input. -/
def topOpeningWrong : ChangeSpec := { name := "topOpening", fn := fun _ => fun
  | [d1, d2, d3] => { results := [.lit (.bool false)], args := [d1, d2, d3] }
  | _ => none }
def TopOpeningWrongFalsely : Prop := topOpeningRow.holds Tryd.pinned (OpenSpec.ofChange topOpeningWrong)

/-- 'knurllaw10.CoastsWider': WHATEVER THE INPUT: true; the input reads as it did. -/
def coastsWiderSpec : ChangeSpec := { name := "coastsWider", fn := fun _ => fun
  | [d1, d2, d3] => { results := [.lit (.bool true)], args := [d1, d2, d3] }
  | _ => none }
def coastsWiderRow : OpenClaim := { program := "ytibkgnnpmidgfaadoor", sum := "73da4c0103f431a726407abc5e15a25ba03f1217901e2f160e47056adf1770d4", func := "knurl/knurllaw10.CoastsWider", spec := "coastsWider", unfollowed := true, recurses := true, named := ["math/bits.deBruijn32tab", "math/bits.deBruijn64tab"], plainKeys := false, apart := false, laid := [("math/bits.deBruijn32tab", laid_math_bits_deBruijn32tab), ("math/bits.deBruijn64tab", laid_math_bits_deBruijn64tab)] }
def CoastsWiderSaid : Prop := coastsWiderRow.holds Tryd.pinned (OpenSpec.ofChange coastsWiderSpec)

/-- ITS FALSE NEIGHBOUR: 'it returns false'. Refute it at one input. -/
def coastsWiderWrong : ChangeSpec := { name := "coastsWider", fn := fun _ => fun
  | [d1, d2, d3] => { results := [.lit (.bool false)], args := [d1, d2, d3] }
  | _ => none }
def CoastsWiderWrongFalsely : Prop := coastsWiderRow.holds Tryd.pinned (OpenSpec.ofChange coastsWiderWrong)

/-- 'knurllaw10.CoastsWay': WHATEVER THE INPUT: true; the input reads as it did. -/
def coastsWaySpec : ChangeSpec := { name := "coastsWay", fn := fun _ => fun
  | [d1, d2, d3] => { results := [.lit (.bool true)], args := [d1, d2, d3] }
  | _ => none }
def coastsWayRow : OpenClaim := { program := "ytibkgnnpmidgfaadoor", sum := "73da4c0103f431a726407abc5e15a25ba03f1217901e2f160e47056adf1770d4", func := "knurl/knurllaw10.CoastsWay", spec := "coastsWay", unfollowed := true, recurses := true, named := ["math/bits.deBruijn32tab", "math/bits.deBruijn64tab"], plainKeys := false, apart := false, laid := [("math/bits.deBruijn32tab", laid_math_bits_deBruijn32tab), ("math/bits.deBruijn64tab", laid_math_bits_deBruijn64tab)] }
def CoastsWaySaid : Prop := coastsWayRow.holds Tryd.pinned (OpenSpec.ofChange coastsWaySpec)

/-- ITS FALSE NEIGHBOUR: 'it returns false'. Refute it at one input. -/
def coastsWayWrong : ChangeSpec := { name := "coastsWay", fn := fun _ => fun
  | [d1, d2, d3] => { results := [.lit (.bool false)], args := [d1, d2, d3] }
  | _ => none }
def CoastsWayWrongFalsely : Prop := coastsWayRow.holds Tryd.pinned (OpenSpec.ofChange coastsWayWrong)

/-- 'knurllaw10.CoastsBack': WHATEVER THE INPUT: true; the input reads as it did. -/
def coastsBackSpec : ChangeSpec := { name := "coastsBack", fn := fun _ => fun
  | [d1, d2, d3] => { results := [.lit (.bool true)], args := [d1, d2, d3] }
  | _ => none }
def coastsBackRow : OpenClaim := { program := "ytibkgnnpmidgfaadoor", sum := "73da4c0103f431a726407abc5e15a25ba03f1217901e2f160e47056adf1770d4", func := "knurl/knurllaw10.CoastsBack", spec := "coastsBack", unfollowed := true, recurses := true, named := ["math/bits.deBruijn32tab", "math/bits.deBruijn64tab"], plainKeys := false, apart := false, laid := [("math/bits.deBruijn32tab", laid_math_bits_deBruijn32tab), ("math/bits.deBruijn64tab", laid_math_bits_deBruijn64tab)] }
def CoastsBackSaid : Prop := coastsBackRow.holds Tryd.pinned (OpenSpec.ofChange coastsBackSpec)

/-- ITS FALSE NEIGHBOUR: 'it returns false'. Refute it at one input. -/
def coastsBackWrong : ChangeSpec := { name := "coastsBack", fn := fun _ => fun
  | [d1, d2, d3] => { results := [.lit (.bool false)], args := [d1, d2, d3] }
  | _ => none }
def CoastsBackWrongFalsely : Prop := coastsBackRow.holds Tryd.pinned (OpenSpec.ofChange coastsBackWrong)

/-- 'knurllaw10.CoastsMore': WHATEVER THE INPUT: true; the input reads as it did. -/
def coastsMoreSpec : ChangeSpec := { name := "coastsMore", fn := fun _ => fun
  | [d1, d2, d3] => { results := [.lit (.bool true)], args := [d1, d2, d3] }
  | _ => none }
def coastsMoreRow : OpenClaim := { program := "ytibkgnnpmidgfaadoor", sum := "73da4c0103f431a726407abc5e15a25ba03f1217901e2f160e47056adf1770d4", func := "knurl/knurllaw10.CoastsMore", spec := "coastsMore", unfollowed := true, recurses := true, named := ["math/bits.deBruijn32tab", "math/bits.deBruijn64tab"], plainKeys := false, apart := false, laid := [("math/bits.deBruijn32tab", laid_math_bits_deBruijn32tab), ("math/bits.deBruijn64tab", laid_math_bits_deBruijn64tab)] }
def CoastsMoreSaid : Prop := coastsMoreRow.holds Tryd.pinned (OpenSpec.ofChange coastsMoreSpec)

/-- ITS FALSE NEIGHBOUR: 'it returns false'. Refute it at one input. -/
def coastsMoreWrong : ChangeSpec := { name := "coastsMore", fn := fun _ => fun
  | [d1, d2, d3] => { results := [.lit (.bool false)], args := [d1, d2, d3] }
  | _ => none }
def CoastsMoreWrongFalsely : Prop := coastsMoreRow.holds Tryd.pinned (OpenSpec.ofChange coastsMoreWrong)

/-- 'knurllaw10.CoastsOpenings': WHATEVER THE INPUT: true; the input reads as it did. -/
def coastsOpeningsSpec : ChangeSpec := { name := "coastsOpenings", fn := fun _ => fun
  | [d1, d2] => { results := [.lit (.bool true)], args := [d1, d2] }
  | _ => none }
def coastsOpeningsRow : OpenClaim := { program := "ytibkgnnpmidgfaadoor", sum := "73da4c0103f431a726407abc5e15a25ba03f1217901e2f160e47056adf1770d4", func := "knurl/knurllaw10.CoastsOpenings", spec := "coastsOpenings", unfollowed := true, recurses := true, named := ["math/bits.deBruijn32tab", "math/bits.deBruijn64tab"], plainKeys := false, apart := false, laid := [("math/bits.deBruijn32tab", laid_math_bits_deBruijn32tab), ("math/bits.deBruijn64tab", laid_math_bits_deBruijn64tab)] }
def CoastsOpeningsSaid : Prop := coastsOpeningsRow.holds Tryd.pinned (OpenSpec.ofChange coastsOpeningsSpec)

/-- ITS FALSE NEIGHBOUR: 'it returns false'. Refute it at one input. -/
def coastsOpeningsWrong : ChangeSpec := { name := "coastsOpenings", fn := fun _ => fun
  | [d1, d2] => { results := [.lit (.bool false)], args := [d1, d2] }
  | _ => none }
def CoastsOpeningsWrongFalsely : Prop := coastsOpeningsRow.holds Tryd.pinned (OpenSpec.ofChange coastsOpeningsWrong)

/-- 'knurllaw10.CoastsLonger': WHATEVER THE INPUT: true; the input reads as it did. -/
def coastsLongerSpec : ChangeSpec := { name := "coastsLonger", fn := fun _ => fun
  | [d1, d2, d3] => { results := [.lit (.bool true)], args := [d1, d2, d3] }
  | _ => none }
def coastsLongerRow : OpenClaim := { program := "ytibkgnnpmidgfaadoor", sum := "73da4c0103f431a726407abc5e15a25ba03f1217901e2f160e47056adf1770d4", func := "knurl/knurllaw10.CoastsLonger", spec := "coastsLonger", unfollowed := true, recurses := true, named := ["math/bits.deBruijn32tab", "math/bits.deBruijn64tab"], plainKeys := false, apart := false, laid := [("math/bits.deBruijn32tab", laid_math_bits_deBruijn32tab), ("math/bits.deBruijn64tab", laid_math_bits_deBruijn64tab)] }
def CoastsLongerSaid : Prop := coastsLongerRow.holds Tryd.pinned (OpenSpec.ofChange coastsLongerSpec)

/-- ITS FALSE NEIGHBOUR: 'it returns false'. Refute it at one input. -/
def coastsLongerWrong : ChangeSpec := { name := "coastsLonger", fn := fun _ => fun
  | [d1, d2, d3] => { results := [.lit (.bool false)], args := [d1, d2, d3] }
  | _ => none }
def CoastsLongerWrongFalsely : Prop := coastsLongerRow.holds Tryd.pinned (OpenSpec.ofChange coastsLongerWrong)

/-- 'knurllaw10.CoastsLeast': WHATEVER THE INPUT: true; the input reads as it did. -/
def coastsLeastSpec : ChangeSpec := { name := "coastsLeast", fn := fun _ => fun
  | [d1, d2, d3] => { results := [.lit (.bool true)], args := [d1, d2, d3] }
  | _ => none }
def coastsLeastRow : OpenClaim := { program := "ytibkgnnpmidgfaadoor", sum := "73da4c0103f431a726407abc5e15a25ba03f1217901e2f160e47056adf1770d4", func := "knurl/knurllaw10.CoastsLeast", spec := "coastsLeast", unfollowed := true, recurses := true, named := ["math/bits.deBruijn32tab", "math/bits.deBruijn64tab"], plainKeys := false, apart := false, laid := [("math/bits.deBruijn32tab", laid_math_bits_deBruijn32tab), ("math/bits.deBruijn64tab", laid_math_bits_deBruijn64tab)] }
def CoastsLeastSaid : Prop := coastsLeastRow.holds Tryd.pinned (OpenSpec.ofChange coastsLeastSpec)

/-- ITS FALSE NEIGHBOUR: 'it returns false'. Refute it at one input. -/
def coastsLeastWrong : ChangeSpec := { name := "coastsLeast", fn := fun _ => fun
  | [d1, d2, d3] => { results := [.lit (.bool false)], args := [d1, d2, d3] }
  | _ => none }
def CoastsLeastWrongFalsely : Prop := coastsLeastRow.holds Tryd.pinned (OpenSpec.ofChange coastsLeastWrong)

/-- 'knurllaw10.CoastsCounts': WHATEVER THE INPUT: true; the input reads as it did. -/
def coastsCountsSpec : ChangeSpec := { name := "coastsCounts", fn := fun _ => fun
  | [d1, d2] => { results := [.lit (.bool true)], args := [d1, d2] }
  | _ => none }
def coastsCountsRow : OpenClaim := { program := "ytibkgnnpmidgfaadoor", sum := "73da4c0103f431a726407abc5e15a25ba03f1217901e2f160e47056adf1770d4", func := "knurl/knurllaw10.CoastsCounts", spec := "coastsCounts", unfollowed := true, recurses := true, named := ["math/bits.deBruijn32tab", "math/bits.deBruijn64tab"], plainKeys := false, apart := false, laid := [("math/bits.deBruijn32tab", laid_math_bits_deBruijn32tab), ("math/bits.deBruijn64tab", laid_math_bits_deBruijn64tab)] }
def CoastsCountsSaid : Prop := coastsCountsRow.holds Tryd.pinned (OpenSpec.ofChange coastsCountsSpec)

/-- ITS FALSE NEIGHBOUR: 'it returns false'. Refute it at one input. -/
def coastsCountsWrong : ChangeSpec := { name := "coastsCounts", fn := fun _ => fun
  | [d1, d2] => { results := [.lit (.bool false)], args := [d1, d2] }
  | _ => none }
def CoastsCountsWrongFalsely : Prop := coastsCountsRow.holds Tryd.pinned (OpenSpec.ofChange coastsCountsWrong)

/-- 'knurllaw10.CoastsTrue': WHATEVER THE INPUT: true; the input reads as it did. -/
def coastsTrueSpec : ChangeSpec := { name := "coastsTrue", fn := fun _ => fun
  | [d1, d2, d3] => { results := [.lit (.bool true)], args := [d1, d2, d3] }
  | _ => none }
def coastsTrueRow : OpenClaim := { program := "ytibkgnnpmidgfaadoor", sum := "73da4c0103f431a726407abc5e15a25ba03f1217901e2f160e47056adf1770d4", func := "knurl/knurllaw10.CoastsTrue", spec := "coastsTrue", unfollowed := true, recurses := true, named := ["math/bits.deBruijn32tab", "math/bits.deBruijn64tab"], plainKeys := false, apart := false, laid := [("math/bits.deBruijn32tab", laid_math_bits_deBruijn32tab), ("math/bits.deBruijn64tab", laid_math_bits_deBruijn64tab)] }
def CoastsTrueSaid : Prop := coastsTrueRow.holds Tryd.pinned (OpenSpec.ofChange coastsTrueSpec)

/-- ITS FALSE NEIGHBOUR: 'it returns false'. Refute it at one input. -/
def coastsTrueWrong : ChangeSpec := { name := "coastsTrue", fn := fun _ => fun
  | [d1, d2, d3] => { results := [.lit (.bool false)], args := [d1, d2, d3] }
  | _ => none }
def CoastsTrueWrongFalsely : Prop := coastsTrueRow.holds Tryd.pinned (OpenSpec.ofChange coastsTrueWrong)

/- THE SECOND FORM. 'bulk': how many values and letters a reading holds, each counted each time it is reached (what is shared counts as often as it is met; a slice's spare places count too). A statement '..UptoSaid' is the law's where the arguments, and the package variables that the reading takes, are together of bulk at most 1048576: NARROWER than '..Said'. Prove '..Said' where nothing that the law and all that it calls make is longer than what came in: it says more and counts as full. Else prove '..UptoSaid'. A law counts once. -/
mutual
def uptoBulk {H : Type} : DataW H → Nat
  | .lit (.string bytes) => bytes.length + 1
  | .lit _ => 1
  | .nil => 1
  | .ptr d => uptoBulk d + 1
  | .slice elems spare => uptoBulkAll elems + uptoBulkAll spare + 1
  | .agg parts => uptoBulkAll parts + 1
  | .iface _ d => uptoBulk d + 1
  | .map entries => uptoBulkEntries entries + 1
  | .held _ => 1
def uptoBulkAll {H : Type} : List (DataW H) → Nat
  | [] => 0
  | d :: r => uptoBulk d + uptoBulkAll r
def uptoBulkEntries {H : Type} : List (Lit × DataW H) → Nat
  | [] => 0
  | x :: r => uptoBulkEntry x + uptoBulkEntries r
def uptoBulkEntry {H : Type} : Lit × DataW H → Nat
  | (.string bytes, d) => bytes.length + uptoBulk d + 1
  | (_, d) => uptoBulk d + 1
 end
def uptoSmall : (H : Type) → List (DataW H) → Bool := fun _ ds => decide (uptoBulkAll ds ≤ 1048576)
def OpenSpec.upto (s : _root_.Go.ChangeSpec) : _root_.Go.OpenSpec := { _root_.Go.OpenSpec.ofChange s with cond := some uptoSmall }

/-- 'knurltop.TopOpening', WHERE WHAT IT READS IS OF BULK AT MOST 1048576: true; the input reads as it did. -/
def topOpeningUptoRow : OpenClaim := { program := "ytibkgnnpmidgfaadoor", sum := "73da4c0103f431a726407abc5e15a25ba03f1217901e2f160e47056adf1770d4", func := "knurl/knurltop.TopOpening", spec := "topOpening", unfollowed := true, recurses := true, named := ["math/bits.deBruijn32tab", "math/bits.deBruijn64tab"], plainKeys := false, apart := false, laid := [("math/bits.deBruijn32tab", laid_math_bits_deBruijn32tab), ("math/bits.deBruijn64tab", laid_math_bits_deBruijn64tab)], narrowed := true }
def TopOpeningUptoSaid : Prop := topOpeningUptoRow.holds Tryd.pinned (OpenSpec.upto topOpeningSpec)

/-- 'knurllaw10.CoastsWider', WHERE WHAT IT READS IS OF BULK AT MOST 1048576: true; the input reads as it did. -/
def coastsWiderUptoRow : OpenClaim := { program := "ytibkgnnpmidgfaadoor", sum := "73da4c0103f431a726407abc5e15a25ba03f1217901e2f160e47056adf1770d4", func := "knurl/knurllaw10.CoastsWider", spec := "coastsWider", unfollowed := true, recurses := true, named := ["math/bits.deBruijn32tab", "math/bits.deBruijn64tab"], plainKeys := false, apart := false, laid := [("math/bits.deBruijn32tab", laid_math_bits_deBruijn32tab), ("math/bits.deBruijn64tab", laid_math_bits_deBruijn64tab)], narrowed := true }
def CoastsWiderUptoSaid : Prop := coastsWiderUptoRow.holds Tryd.pinned (OpenSpec.upto coastsWiderSpec)

/-- 'knurllaw10.CoastsWay', WHERE WHAT IT READS IS OF BULK AT MOST 1048576: true; the input reads as it did. -/
def coastsWayUptoRow : OpenClaim := { program := "ytibkgnnpmidgfaadoor", sum := "73da4c0103f431a726407abc5e15a25ba03f1217901e2f160e47056adf1770d4", func := "knurl/knurllaw10.CoastsWay", spec := "coastsWay", unfollowed := true, recurses := true, named := ["math/bits.deBruijn32tab", "math/bits.deBruijn64tab"], plainKeys := false, apart := false, laid := [("math/bits.deBruijn32tab", laid_math_bits_deBruijn32tab), ("math/bits.deBruijn64tab", laid_math_bits_deBruijn64tab)], narrowed := true }
def CoastsWayUptoSaid : Prop := coastsWayUptoRow.holds Tryd.pinned (OpenSpec.upto coastsWaySpec)

/-- 'knurllaw10.CoastsBack', WHERE WHAT IT READS IS OF BULK AT MOST 1048576: true; the input reads as it did. -/
def coastsBackUptoRow : OpenClaim := { program := "ytibkgnnpmidgfaadoor", sum := "73da4c0103f431a726407abc5e15a25ba03f1217901e2f160e47056adf1770d4", func := "knurl/knurllaw10.CoastsBack", spec := "coastsBack", unfollowed := true, recurses := true, named := ["math/bits.deBruijn32tab", "math/bits.deBruijn64tab"], plainKeys := false, apart := false, laid := [("math/bits.deBruijn32tab", laid_math_bits_deBruijn32tab), ("math/bits.deBruijn64tab", laid_math_bits_deBruijn64tab)], narrowed := true }
def CoastsBackUptoSaid : Prop := coastsBackUptoRow.holds Tryd.pinned (OpenSpec.upto coastsBackSpec)

/-- 'knurllaw10.CoastsMore', WHERE WHAT IT READS IS OF BULK AT MOST 1048576: true; the input reads as it did. -/
def coastsMoreUptoRow : OpenClaim := { program := "ytibkgnnpmidgfaadoor", sum := "73da4c0103f431a726407abc5e15a25ba03f1217901e2f160e47056adf1770d4", func := "knurl/knurllaw10.CoastsMore", spec := "coastsMore", unfollowed := true, recurses := true, named := ["math/bits.deBruijn32tab", "math/bits.deBruijn64tab"], plainKeys := false, apart := false, laid := [("math/bits.deBruijn32tab", laid_math_bits_deBruijn32tab), ("math/bits.deBruijn64tab", laid_math_bits_deBruijn64tab)], narrowed := true }
def CoastsMoreUptoSaid : Prop := coastsMoreUptoRow.holds Tryd.pinned (OpenSpec.upto coastsMoreSpec)

/-- 'knurllaw10.CoastsOpenings', WHERE WHAT IT READS IS OF BULK AT MOST 1048576: true; the input reads as it did. -/
def coastsOpeningsUptoRow : OpenClaim := { program := "ytibkgnnpmidgfaadoor", sum := "73da4c0103f431a726407abc5e15a25ba03f1217901e2f160e47056adf1770d4", func := "knurl/knurllaw10.CoastsOpenings", spec := "coastsOpenings", unfollowed := true, recurses := true, named := ["math/bits.deBruijn32tab", "math/bits.deBruijn64tab"], plainKeys := false, apart := false, laid := [("math/bits.deBruijn32tab", laid_math_bits_deBruijn32tab), ("math/bits.deBruijn64tab", laid_math_bits_deBruijn64tab)], narrowed := true }
def CoastsOpeningsUptoSaid : Prop := coastsOpeningsUptoRow.holds Tryd.pinned (OpenSpec.upto coastsOpeningsSpec)

/-- 'knurllaw10.CoastsLonger', WHERE WHAT IT READS IS OF BULK AT MOST 1048576: true; the input reads as it did. -/
def coastsLongerUptoRow : OpenClaim := { program := "ytibkgnnpmidgfaadoor", sum := "73da4c0103f431a726407abc5e15a25ba03f1217901e2f160e47056adf1770d4", func := "knurl/knurllaw10.CoastsLonger", spec := "coastsLonger", unfollowed := true, recurses := true, named := ["math/bits.deBruijn32tab", "math/bits.deBruijn64tab"], plainKeys := false, apart := false, laid := [("math/bits.deBruijn32tab", laid_math_bits_deBruijn32tab), ("math/bits.deBruijn64tab", laid_math_bits_deBruijn64tab)], narrowed := true }
def CoastsLongerUptoSaid : Prop := coastsLongerUptoRow.holds Tryd.pinned (OpenSpec.upto coastsLongerSpec)

/-- 'knurllaw10.CoastsLeast', WHERE WHAT IT READS IS OF BULK AT MOST 1048576: true; the input reads as it did. -/
def coastsLeastUptoRow : OpenClaim := { program := "ytibkgnnpmidgfaadoor", sum := "73da4c0103f431a726407abc5e15a25ba03f1217901e2f160e47056adf1770d4", func := "knurl/knurllaw10.CoastsLeast", spec := "coastsLeast", unfollowed := true, recurses := true, named := ["math/bits.deBruijn32tab", "math/bits.deBruijn64tab"], plainKeys := false, apart := false, laid := [("math/bits.deBruijn32tab", laid_math_bits_deBruijn32tab), ("math/bits.deBruijn64tab", laid_math_bits_deBruijn64tab)], narrowed := true }
def CoastsLeastUptoSaid : Prop := coastsLeastUptoRow.holds Tryd.pinned (OpenSpec.upto coastsLeastSpec)

/-- 'knurllaw10.CoastsCounts', WHERE WHAT IT READS IS OF BULK AT MOST 1048576: true; the input reads as it did. -/
def coastsCountsUptoRow : OpenClaim := { program := "ytibkgnnpmidgfaadoor", sum := "73da4c0103f431a726407abc5e15a25ba03f1217901e2f160e47056adf1770d4", func := "knurl/knurllaw10.CoastsCounts", spec := "coastsCounts", unfollowed := true, recurses := true, named := ["math/bits.deBruijn32tab", "math/bits.deBruijn64tab"], plainKeys := false, apart := false, laid := [("math/bits.deBruijn32tab", laid_math_bits_deBruijn32tab), ("math/bits.deBruijn64tab", laid_math_bits_deBruijn64tab)], narrowed := true }
def CoastsCountsUptoSaid : Prop := coastsCountsUptoRow.holds Tryd.pinned (OpenSpec.upto coastsCountsSpec)

/-- 'knurllaw10.CoastsTrue', WHERE WHAT IT READS IS OF BULK AT MOST 1048576: true; the input reads as it did. -/
def coastsTrueUptoRow : OpenClaim := { program := "ytibkgnnpmidgfaadoor", sum := "73da4c0103f431a726407abc5e15a25ba03f1217901e2f160e47056adf1770d4", func := "knurl/knurllaw10.CoastsTrue", spec := "coastsTrue", unfollowed := true, recurses := true, named := ["math/bits.deBruijn32tab", "math/bits.deBruijn64tab"], plainKeys := false, apart := false, laid := [("math/bits.deBruijn32tab", laid_math_bits_deBruijn32tab), ("math/bits.deBruijn64tab", laid_math_bits_deBruijn64tab)], narrowed := true }
def CoastsTrueUptoSaid : Prop := coastsTrueUptoRow.holds Tryd.pinned (OpenSpec.upto coastsTrueSpec)

end Rows
end Go.Proofs.YtibkgnnpmidgfaaDoor
