/-
  No cell of these rows narrows 'for every input' (looked for: loops, veiled, ifaces, maps, wideKeys, modest, calm, conditions, laid).
  DERIVED. THE GIVEN ROWS OF THIS SEAT. 4 by the template 'for every input the law returns true; each argument reads behind the call as it read before'; 0 by the template 'total and deterministic' (their statements: YtgmhelclofnpkaaTotals.lean).
  GIVEN WITH THE SEED: the statements are not yours to turn. If you find one false, say at which input.
  Laid BY PROGRAM, IN A SANDBOX (cutbox-rows.mjs): the forced cells as the released guide's own fill.sh prints them over the translation 987a2301675da806… (all of the seat's roots in one cut). By AI agents, Wed Nov 11 2026. No macro, syntax, notation, axiom, sorry.
-/
import Derived.Test.YtgmhelclofnpkaaChecked
import GoSem.Claim
import GoSem.ClaimJoined
import GoSem.ClaimMapViews
import Derived.JoinedTies
import Derived.KernelRfl
namespace Go.Proofs.Ytgmhelclofnpkaa
/- THE CELL 'sum', in the pinned program and in every row, IS THE sha256 OF THE DUMP (.gsa) THAT YtgmhelclofnpkaaProg.lean LOADS. Nothing in Lean hashes anything: it is a label: what it is worth is what the hold of that sum in a sandbox is worth. -/
noncomputable def Try.pinned : Pinned := { name := "ytgmhelclofnpkaa", sum := "987a2301675da806f530e9c54265f6cb5d65facd5b6ff41c233fa22c3f1da263", checked := Try.checked }
namespace Rows
def none {H : Type} : Left H := { results := [], args := [] }

/-- 'knurltop.TopRound': WHATEVER THE INPUT: true; the input reads as it did. -/
def topRoundSpec : ChangeSpec := { name := "topRound", fn := fun _ => fun
  | [d1, d2] => { results := [.lit (.bool true)], args := [d1, d2] }
  | _ => none }
def topRoundRow : OpenClaim := { program := "ytgmhelclofnpkaa", sum := "987a2301675da806f530e9c54265f6cb5d65facd5b6ff41c233fa22c3f1da263", func := "knurl/knurltop.TopRound", spec := "topRound", unfollowed := true, recurses := true, plainKeys := false, apart := false }
def TopRoundSaid : Prop := topRoundRow.holds Try.pinned (OpenSpec.ofChange topRoundSpec)

/-- ITS FALSE NEIGHBOUR: 'it returns false'. Refute it at one input. -/
def topRoundWrong : ChangeSpec := { name := "topRound", fn := fun _ => fun
  | [d1, d2] => { results := [.lit (.bool false)], args := [d1, d2] }
  | _ => none }
def TopRoundWrongFalsely : Prop := topRoundRow.holds Try.pinned (OpenSpec.ofChange topRoundWrong)

/-- 'knurltop.TopHull': WHATEVER THE INPUT: true; the input reads as it did. -/
def topHullSpec : ChangeSpec := { name := "topHull", fn := fun _ => fun
  | [d1, d2] => { results := [.lit (.bool true)], args := [d1, d2] }
  | _ => none }
def topHullRow : OpenClaim := { program := "ytgmhelclofnpkaa", sum := "987a2301675da806f530e9c54265f6cb5d65facd5b6ff41c233fa22c3f1da263", func := "knurl/knurltop.TopHull", spec := "topHull", unfollowed := true, recurses := true, plainKeys := false, apart := false }
def TopHullSaid : Prop := topHullRow.holds Try.pinned (OpenSpec.ofChange topHullSpec)

/-- ITS FALSE NEIGHBOUR: 'it returns false'. Refute it at one input. -/
def topHullWrong : ChangeSpec := { name := "topHull", fn := fun _ => fun
  | [d1, d2] => { results := [.lit (.bool false)], args := [d1, d2] }
  | _ => none }
def TopHullWrongFalsely : Prop := topHullRow.holds Try.pinned (OpenSpec.ofChange topHullWrong)

/-- 'knurltop.TopMended': WHATEVER THE INPUT: true; the input reads as it did. -/
def topMendedSpec : ChangeSpec := { name := "topMended", fn := fun _ => fun
  | [d] => { results := [.lit (.bool true)], args := [d] }
  | _ => none }
def topMendedRow : OpenClaim := { program := "ytgmhelclofnpkaa", sum := "987a2301675da806f530e9c54265f6cb5d65facd5b6ff41c233fa22c3f1da263", func := "knurl/knurltop.TopMended", spec := "topMended", unfollowed := true, recurses := true, plainKeys := false, apart := false }
def TopMendedSaid : Prop := topMendedRow.holds Try.pinned (OpenSpec.ofChange topMendedSpec)

/-- ITS FALSE NEIGHBOUR: 'it returns false'. Refute it at one input. -/
def topMendedWrong : ChangeSpec := { name := "topMended", fn := fun _ => fun
  | [d] => { results := [.lit (.bool false)], args := [d] }
  | _ => none }
def TopMendedWrongFalsely : Prop := topMendedRow.holds Try.pinned (OpenSpec.ofChange topMendedWrong)

/-- 'knurltop.TopFirm': WHATEVER THE INPUT: true; the input reads as it did. -/
def topFirmSpec : ChangeSpec := { name := "topFirm", fn := fun _ => fun
  | [d] => { results := [.lit (.bool true)], args := [d] }
  | _ => none }
def topFirmRow : OpenClaim := { program := "ytgmhelclofnpkaa", sum := "987a2301675da806f530e9c54265f6cb5d65facd5b6ff41c233fa22c3f1da263", func := "knurl/knurltop.TopFirm", spec := "topFirm", unfollowed := true, recurses := true, plainKeys := false, apart := false }
def TopFirmSaid : Prop := topFirmRow.holds Try.pinned (OpenSpec.ofChange topFirmSpec)

/-- ITS FALSE NEIGHBOUR: 'it returns false'. Refute it at one input. -/
def topFirmWrong : ChangeSpec := { name := "topFirm", fn := fun _ => fun
  | [d] => { results := [.lit (.bool false)], args := [d] }
  | _ => none }
def TopFirmWrongFalsely : Prop := topFirmRow.holds Try.pinned (OpenSpec.ofChange topFirmWrong)

/- THE SECOND FORM. 'bulk': how many values and letters a reading holds, each counted each time it is reached (what is shared counts as often as it is met; a slice's spare places count too). A statement '..UptoSaid' is the law's where the arguments, and the package variables that the reading takes, are together of bulk at most 1048576: NARROWER than '..Said'. Prove '..Said' where nothing that the law and all that it calls make is longer than what came in: it says more and counts as full. Else prove '..UptoSaid'. A law counts once. -/
mutual
def uptoBulk {H : Type} : DataW H → Nat
  | .lit (.string bytes) => bytes.length + 1
  | .lit _ => 1
  | .nil => 1
  | .ptr d => uptoBulk d + 1
  | .slice elems spare => uptoBulkAll elems + uptoBulkAll spare + 1
  | .agg parts => uptoBulkAll parts + 1
  | .iface _ d => uptoBulk d + 1
  | .map entries => uptoBulkEntries entries + 1
  | .held _ => 1
def uptoBulkAll {H : Type} : List (DataW H) → Nat
  | [] => 0
  | d :: r => uptoBulk d + uptoBulkAll r
def uptoBulkEntries {H : Type} : List (Lit × DataW H) → Nat
  | [] => 0
  | x :: r => uptoBulkEntry x + uptoBulkEntries r
def uptoBulkEntry {H : Type} : Lit × DataW H → Nat
  | (.string bytes, d) => bytes.length + uptoBulk d + 1
  | (_, d) => uptoBulk d + 1
 end
def uptoSmall : (H : Type) → List (DataW H) → Bool := fun _ ds => decide (uptoBulkAll ds ≤ 1048576)
def OpenSpec.upto (s : _root_.Go.ChangeSpec) : _root_.Go.OpenSpec := { _root_.Go.OpenSpec.ofChange s with cond := some uptoSmall }

/-- 'knurltop.TopRound', WHERE WHAT IT READS IS OF BULK AT MOST 1048576: true; the input reads as it did. -/
def topRoundUptoRow : OpenClaim := { program := "ytgmhelclofnpkaa", sum := "987a2301675da806f530e9c54265f6cb5d65facd5b6ff41c233fa22c3f1da263", func := "knurl/knurltop.TopRound", spec := "topRound", unfollowed := true, recurses := true, plainKeys := false, apart := false, narrowed := true }
def TopRoundUptoSaid : Prop := topRoundUptoRow.holds Try.pinned (OpenSpec.upto topRoundSpec)

/-- 'knurltop.TopHull', WHERE WHAT IT READS IS OF BULK AT MOST 1048576: true; the input reads as it did. -/
def topHullUptoRow : OpenClaim := { program := "ytgmhelclofnpkaa", sum := "987a2301675da806f530e9c54265f6cb5d65facd5b6ff41c233fa22c3f1da263", func := "knurl/knurltop.TopHull", spec := "topHull", unfollowed := true, recurses := true, plainKeys := false, apart := false, narrowed := true }
def TopHullUptoSaid : Prop := topHullUptoRow.holds Try.pinned (OpenSpec.upto topHullSpec)

/-- 'knurltop.TopMended', WHERE WHAT IT READS IS OF BULK AT MOST 1048576: true; the input reads as it did. -/
def topMendedUptoRow : OpenClaim := { program := "ytgmhelclofnpkaa", sum := "987a2301675da806f530e9c54265f6cb5d65facd5b6ff41c233fa22c3f1da263", func := "knurl/knurltop.TopMended", spec := "topMended", unfollowed := true, recurses := true, plainKeys := false, apart := false, narrowed := true }
def TopMendedUptoSaid : Prop := topMendedUptoRow.holds Try.pinned (OpenSpec.upto topMendedSpec)

/-- 'knurltop.TopFirm', WHERE WHAT IT READS IS OF BULK AT MOST 1048576: true; the input reads as it did. -/
def topFirmUptoRow : OpenClaim := { program := "ytgmhelclofnpkaa", sum := "987a2301675da806f530e9c54265f6cb5d65facd5b6ff41c233fa22c3f1da263", func := "knurl/knurltop.TopFirm", spec := "topFirm", unfollowed := true, recurses := true, plainKeys := false, apart := false, narrowed := true }
def TopFirmUptoSaid : Prop := topFirmUptoRow.holds Try.pinned (OpenSpec.upto topFirmSpec)

end Rows
end Go.Proofs.Ytgmhelclofnpkaa
