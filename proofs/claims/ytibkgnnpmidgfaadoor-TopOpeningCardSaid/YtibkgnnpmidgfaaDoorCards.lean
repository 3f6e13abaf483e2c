/-
  DERIVED. GIVEN WITH THE SEED: THE CARDS: each row of YtibkgnnpmidgfaaDoorRows.lean that lists a variable, with what it lists TIED to the program's text (the seventh form; the later family's looks); each row that meets fmt, with fmt's text TOLD by the authors' own Lean function (tested against real Go, not proved from fmt's source: count such statements apart). THE CARD IS WHAT COUNTS. Prove the row's statement (the work); the ties are given (YtibkgnnpmidgfaaDoorTie.lean); close each card by the builder's one call (the guide's Derived/Test/ToyasCard.lean, 'card_holds'). Laid BY PROGRAM, IN A SANDBOX (cutbox-door.mjs). By AI agents, Wed Nov 11 2026. No macro, syntax, notation, axiom, sorry.
-/
import Derived.Test.YtibkgnnpmidgfaaDoorRows
import GoSem.ClaimSeven
namespace Go.Proofs.YtibkgnnpmidgfaaDoor
namespace Rows

/-- THE TIED CARD OF 'knurltop.TopOpening'. -/
def topOpeningCard : Claim7 := { stood := { row := topOpeningRow, standIns := [], harness := (true, "e9e97da005e1fe4d26fa0165bb69324760341317a74b0bd2a854d8c438f4771b"), looks := false }, kinds := [], alts := [], laidByText := true, laidKinds := [.data, .data], laidTests := true, laidLooks := .later }
def TopOpeningCardSaid : Prop := Claim7.holds Tryd.pinned (.plain (OpenSpec.ofChange topOpeningSpec)) topOpeningCard

/-- THE TIED CARD OF 'knurllaw10.CoastsWider'. -/
def coastsWiderCard : Claim7 := { stood := { row := coastsWiderRow, standIns := [], harness := (true, "e9e97da005e1fe4d26fa0165bb69324760341317a74b0bd2a854d8c438f4771b"), looks := false }, kinds := [], alts := [], laidByText := true, laidKinds := [.data, .data], laidTests := true, laidLooks := .later }
def CoastsWiderCardSaid : Prop := Claim7.holds Tryd.pinned (.plain (OpenSpec.ofChange coastsWiderSpec)) coastsWiderCard

/-- THE TIED CARD OF 'knurllaw10.CoastsWay'. -/
def coastsWayCard : Claim7 := { stood := { row := coastsWayRow, standIns := [], harness := (true, "e9e97da005e1fe4d26fa0165bb69324760341317a74b0bd2a854d8c438f4771b"), looks := false }, kinds := [], alts := [], laidByText := true, laidKinds := [.data, .data], laidTests := true, laidLooks := .later }
def CoastsWayCardSaid : Prop := Claim7.holds Tryd.pinned (.plain (OpenSpec.ofChange coastsWaySpec)) coastsWayCard

/-- THE TIED CARD OF 'knurllaw10.CoastsBack'. -/
def coastsBackCard : Claim7 := { stood := { row := coastsBackRow, standIns := [], harness := (true, "e9e97da005e1fe4d26fa0165bb69324760341317a74b0bd2a854d8c438f4771b"), looks := false }, kinds := [], alts := [], laidByText := true, laidKinds := [.data, .data], laidTests := true, laidLooks := .later }
def CoastsBackCardSaid : Prop := Claim7.holds Tryd.pinned (.plain (OpenSpec.ofChange coastsBackSpec)) coastsBackCard

/-- THE TIED CARD OF 'knurllaw10.CoastsMore'. -/
def coastsMoreCard : Claim7 := { stood := { row := coastsMoreRow, standIns := [], harness := (true, "e9e97da005e1fe4d26fa0165bb69324760341317a74b0bd2a854d8c438f4771b"), looks := false }, kinds := [], alts := [], laidByText := true, laidKinds := [.data, .data], laidTests := true, laidLooks := .later }
def CoastsMoreCardSaid : Prop := Claim7.holds Tryd.pinned (.plain (OpenSpec.ofChange coastsMoreSpec)) coastsMoreCard

/-- THE TIED CARD OF 'knurllaw10.CoastsOpenings'. -/
def coastsOpeningsCard : Claim7 := { stood := { row := coastsOpeningsRow, standIns := [], harness := (true, "e9e97da005e1fe4d26fa0165bb69324760341317a74b0bd2a854d8c438f4771b"), looks := false }, kinds := [], alts := [], laidByText := true, laidKinds := [.data, .data], laidTests := true, laidLooks := .later }
def CoastsOpeningsCardSaid : Prop := Claim7.holds Tryd.pinned (.plain (OpenSpec.ofChange coastsOpeningsSpec)) coastsOpeningsCard

/-- THE TIED CARD OF 'knurllaw10.CoastsLonger'. -/
def coastsLongerCard : Claim7 := { stood := { row := coastsLongerRow, standIns := [], harness := (true, "e9e97da005e1fe4d26fa0165bb69324760341317a74b0bd2a854d8c438f4771b"), looks := false }, kinds := [], alts := [], laidByText := true, laidKinds := [.data, .data], laidTests := true, laidLooks := .later }
def CoastsLongerCardSaid : Prop := Claim7.holds Tryd.pinned (.plain (OpenSpec.ofChange coastsLongerSpec)) coastsLongerCard

/-- THE TIED CARD OF 'knurllaw10.CoastsLeast'. -/
def coastsLeastCard : Claim7 := { stood := { row := coastsLeastRow, standIns := [], harness := (true, "e9e97da005e1fe4d26fa0165bb69324760341317a74b0bd2a854d8c438f4771b"), looks := false }, kinds := [], alts := [], laidByText := true, laidKinds := [.data, .data], laidTests := true, laidLooks := .later }
def CoastsLeastCardSaid : Prop := Claim7.holds Tryd.pinned (.plain (OpenSpec.ofChange coastsLeastSpec)) coastsLeastCard

/-- THE TIED CARD OF 'knurllaw10.CoastsCounts'. -/
def coastsCountsCard : Claim7 := { stood := { row := coastsCountsRow, standIns := [], harness := (true, "e9e97da005e1fe4d26fa0165bb69324760341317a74b0bd2a854d8c438f4771b"), looks := false }, kinds := [], alts := [], laidByText := true, laidKinds := [.data, .data], laidTests := true, laidLooks := .later }
def CoastsCountsCardSaid : Prop := Claim7.holds Tryd.pinned (.plain (OpenSpec.ofChange coastsCountsSpec)) coastsCountsCard

/-- THE TIED CARD OF 'knurllaw10.CoastsTrue'. -/
def coastsTrueCard : Claim7 := { stood := { row := coastsTrueRow, standIns := [], harness := (true, "e9e97da005e1fe4d26fa0165bb69324760341317a74b0bd2a854d8c438f4771b"), looks := false }, kinds := [], alts := [], laidByText := true, laidKinds := [.data, .data], laidTests := true, laidLooks := .later }
def CoastsTrueCardSaid : Prop := Claim7.holds Tryd.pinned (.plain (OpenSpec.ofChange coastsTrueSpec)) coastsTrueCard

/-- THE SECOND FORM's CARD OF 'knurltop.TopOpening'. -/
def topOpeningUptoCard : Claim7 := { stood := { row := topOpeningUptoRow, standIns := [], harness := (true, "e9e97da005e1fe4d26fa0165bb69324760341317a74b0bd2a854d8c438f4771b"), looks := false }, kinds := [], alts := [], laidByText := true, laidKinds := [.data, .data], laidTests := true, laidLooks := .later }
def TopOpeningUptoCardSaid : Prop := Claim7.holds Tryd.pinned (.plain (OpenSpec.upto topOpeningSpec)) topOpeningUptoCard

/-- THE SECOND FORM's CARD OF 'knurllaw10.CoastsWider'. -/
def coastsWiderUptoCard : Claim7 := { stood := { row := coastsWiderUptoRow, standIns := [], harness := (true, "e9e97da005e1fe4d26fa0165bb69324760341317a74b0bd2a854d8c438f4771b"), looks := false }, kinds := [], alts := [], laidByText := true, laidKinds := [.data, .data], laidTests := true, laidLooks := .later }
def CoastsWiderUptoCardSaid : Prop := Claim7.holds Tryd.pinned (.plain (OpenSpec.upto coastsWiderSpec)) coastsWiderUptoCard

/-- THE SECOND FORM's CARD OF 'knurllaw10.CoastsWay'. -/
def coastsWayUptoCard : Claim7 := { stood := { row := coastsWayUptoRow, standIns := [], harness := (true, "e9e97da005e1fe4d26fa0165bb69324760341317a74b0bd2a854d8c438f4771b"), looks := false }, kinds := [], alts := [], laidByText := true, laidKinds := [.data, .data], laidTests := true, laidLooks := .later }
def CoastsWayUptoCardSaid : Prop := Claim7.holds Tryd.pinned (.plain (OpenSpec.upto coastsWaySpec)) coastsWayUptoCard

/-- THE SECOND FORM's CARD OF 'knurllaw10.CoastsBack'. -/
def coastsBackUptoCard : Claim7 := { stood := { row := coastsBackUptoRow, standIns := [], harness := (true, "e9e97da005e1fe4d26fa0165bb69324760341317a74b0bd2a854d8c438f4771b"), looks := false }, kinds := [], alts := [], laidByText := true, laidKinds := [.data, .data], laidTests := true, laidLooks := .later }
def CoastsBackUptoCardSaid : Prop := Claim7.holds Tryd.pinned (.plain (OpenSpec.upto coastsBackSpec)) coastsBackUptoCard

/-- THE SECOND FORM's CARD OF 'knurllaw10.CoastsMore'. -/
def coastsMoreUptoCard : Claim7 := { stood := { row := coastsMoreUptoRow, standIns := [], harness := (true, "e9e97da005e1fe4d26fa0165bb69324760341317a74b0bd2a854d8c438f4771b"), looks := false }, kinds := [], alts := [], laidByText := true, laidKinds := [.data, .data], laidTests := true, laidLooks := .later }
def CoastsMoreUptoCardSaid : Prop := Claim7.holds Tryd.pinned (.plain (OpenSpec.upto coastsMoreSpec)) coastsMoreUptoCard

/-- THE SECOND FORM's CARD OF 'knurllaw10.CoastsOpenings'. -/
def coastsOpeningsUptoCard : Claim7 := { stood := { row := coastsOpeningsUptoRow, standIns := [], harness := (true, "e9e97da005e1fe4d26fa0165bb69324760341317a74b0bd2a854d8c438f4771b"), looks := false }, kinds := [], alts := [], laidByText := true, laidKinds := [.data, .data], laidTests := true, laidLooks := .later }
def CoastsOpeningsUptoCardSaid : Prop := Claim7.holds Tryd.pinned (.plain (OpenSpec.upto coastsOpeningsSpec)) coastsOpeningsUptoCard

/-- THE SECOND FORM's CARD OF 'knurllaw10.CoastsLonger'. -/
def coastsLongerUptoCard : Claim7 := { stood := { row := coastsLongerUptoRow, standIns := [], harness := (true, "e9e97da005e1fe4d26fa0165bb69324760341317a74b0bd2a854d8c438f4771b"), looks := false }, kinds := [], alts := [], laidByText := true, laidKinds := [.data, .data], laidTests := true, laidLooks := .later }
def CoastsLongerUptoCardSaid : Prop := Claim7.holds Tryd.pinned (.plain (OpenSpec.upto coastsLongerSpec)) coastsLongerUptoCard

/-- THE SECOND FORM's CARD OF 'knurllaw10.CoastsLeast'. -/
def coastsLeastUptoCard : Claim7 := { stood := { row := coastsLeastUptoRow, standIns := [], harness := (true, "e9e97da005e1fe4d26fa0165bb69324760341317a74b0bd2a854d8c438f4771b"), looks := false }, kinds := [], alts := [], laidByText := true, laidKinds := [.data, .data], laidTests := true, laidLooks := .later }
def CoastsLeastUptoCardSaid : Prop := Claim7.holds Tryd.pinned (.plain (OpenSpec.upto coastsLeastSpec)) coastsLeastUptoCard

/-- THE SECOND FORM's CARD OF 'knurllaw10.CoastsCounts'. -/
def coastsCountsUptoCard : Claim7 := { stood := { row := coastsCountsUptoRow, standIns := [], harness := (true, "e9e97da005e1fe4d26fa0165bb69324760341317a74b0bd2a854d8c438f4771b"), looks := false }, kinds := [], alts := [], laidByText := true, laidKinds := [.data, .data], laidTests := true, laidLooks := .later }
def CoastsCountsUptoCardSaid : Prop := Claim7.holds Tryd.pinned (.plain (OpenSpec.upto coastsCountsSpec)) coastsCountsUptoCard

/-- THE SECOND FORM's CARD OF 'knurllaw10.CoastsTrue'. -/
def coastsTrueUptoCard : Claim7 := { stood := { row := coastsTrueUptoRow, standIns := [], harness := (true, "e9e97da005e1fe4d26fa0165bb69324760341317a74b0bd2a854d8c438f4771b"), looks := false }, kinds := [], alts := [], laidByText := true, laidKinds := [.data, .data], laidTests := true, laidLooks := .later }
def CoastsTrueUptoCardSaid : Prop := Claim7.holds Tryd.pinned (.plain (OpenSpec.upto coastsTrueSpec)) coastsTrueUptoCard
end Rows
end Go.Proofs.YtibkgnnpmidgfaaDoor
