/-
  DERIVED. GIVEN WITH THE SEED: THE CARDS: each row of YtajkbnfpnohdlaaDoorRows.lean that lists a variable, with what it lists TIED to the program's text (the seventh form; the later family's looks); each row that meets fmt, with fmt's text TOLD by the authors' own Lean function (tested against real Go, not proved from fmt's source: count such statements apart). THE CARD IS WHAT COUNTS. Prove the row's statement (the work); the ties are given (YtajkbnfpnohdlaaDoorTie.lean); close each card by the builder's one call (the guide's Derived/Test/ToyasCard.lean, 'card_holds'). Laid BY PROGRAM, IN A SANDBOX (cutbox-door.mjs). By AI agents, Wed Nov 11 2026. No macro, syntax, notation, axiom, sorry.
-/
import Derived.Test.YtajkbnfpnohdlaaDoorRows
import GoSem.ClaimSeven
namespace Go.Proofs.YtajkbnfpnohdlaaDoor
namespace Rows

/-- THE TIED CARD OF 'bitemporallaw01.PeriodCombines'. -/
def periodCombinesCard : Claim7 := { stood := { row := periodCombinesRow, standIns := [], harness := (true, "e6516564ce2f39bda98147814fcfe83d38087141d4efbf294bf599d12d7352d8"), looks := false }, kinds := [], alts := [], laidByText := true, laidKinds := [.data, .data, .data], laidTests := true, laidLooks := .later }
def PeriodCombinesCardSaid : Prop := Claim7.holds Tryd.pinned (.plain (OpenSpec.ofChange periodCombinesSpec)) periodCombinesCard

/-- THE TIED CARD OF 'bitemporallaw01.PeriodBack'. -/
def periodBackCard : Claim7 := { stood := { row := periodBackRow, standIns := [], harness := (true, "e6516564ce2f39bda98147814fcfe83d38087141d4efbf294bf599d12d7352d8"), looks := false }, kinds := [], alts := [], laidByText := true, laidKinds := [.data, .data, .data], laidTests := true, laidLooks := .later }
def PeriodBackCardSaid : Prop := Claim7.holds Tryd.pinned (.plain (OpenSpec.ofChange periodBackSpec)) periodBackCard

/-- THE TIED CARD OF 'bitemporallaw01.PeriodParse'. -/
def periodParseCard : Claim7 := { stood := { row := periodParseRow, standIns := [], harness := (true, "e6516564ce2f39bda98147814fcfe83d38087141d4efbf294bf599d12d7352d8"), looks := false }, kinds := [], alts := [], laidByText := true, laidKinds := [.data, .data, .data], laidTests := true, laidLooks := .later }
def PeriodParseCardSaid : Prop := Claim7.holds Tryd.pinned (.plain (OpenSpec.ofChange periodParseSpec)) periodParseCard

/-- THE TIED CARD OF 'bitemporallaw01.PeriodPartition'. -/
def periodPartitionCard : Claim7 := { stood := { row := periodPartitionRow, standIns := [], harness := (true, "e6516564ce2f39bda98147814fcfe83d38087141d4efbf294bf599d12d7352d8"), looks := false }, kinds := [], alts := [], laidByText := true, laidKinds := [.data, .data, .data], laidTests := true, laidLooks := .later }
def PeriodPartitionCardSaid : Prop := Claim7.holds Tryd.pinned (.plain (OpenSpec.ofChange periodPartitionSpec)) periodPartitionCard

/-- THE TIED CARD OF 'bitemporallaw01.PeriodTells'. -/
def periodTellsCard : Claim7 := { stood := { row := periodTellsRow, standIns := [], harness := (true, "e6516564ce2f39bda98147814fcfe83d38087141d4efbf294bf599d12d7352d8"), looks := false }, kinds := [], alts := [], laidByText := true, laidKinds := [.data, .data, .data], laidTests := true, laidLooks := .later }
def PeriodTellsCardSaid : Prop := Claim7.holds Tryd.pinned (.plain (OpenSpec.ofChange periodTellsSpec)) periodTellsCard

/-- THE TIED CARD OF 'bitemporallaw01.PeriodOrder'. -/
def periodOrderCard : Claim7 := { stood := { row := periodOrderRow, standIns := [], harness := (true, "e6516564ce2f39bda98147814fcfe83d38087141d4efbf294bf599d12d7352d8"), looks := false }, kinds := [], alts := [], laidByText := true, laidKinds := [.data, .data, .data], laidTests := true, laidLooks := .later }
def PeriodOrderCardSaid : Prop := Claim7.holds Tryd.pinned (.plain (OpenSpec.ofChange periodOrderSpec)) periodOrderCard

/-- THE SECOND FORM's CARD OF 'bitemporallaw01.PeriodCombines'. -/
def periodCombinesUptoCard : Claim7 := { stood := { row := periodCombinesUptoRow, standIns := [], harness := (true, "e6516564ce2f39bda98147814fcfe83d38087141d4efbf294bf599d12d7352d8"), looks := false }, kinds := [], alts := [], laidByText := true, laidKinds := [.data, .data, .data], laidTests := true, laidLooks := .later }
def PeriodCombinesUptoCardSaid : Prop := Claim7.holds Tryd.pinned (.plain (OpenSpec.upto periodCombinesSpec)) periodCombinesUptoCard

/-- THE SECOND FORM's CARD OF 'bitemporallaw01.PeriodBack'. -/
def periodBackUptoCard : Claim7 := { stood := { row := periodBackUptoRow, standIns := [], harness := (true, "e6516564ce2f39bda98147814fcfe83d38087141d4efbf294bf599d12d7352d8"), looks := false }, kinds := [], alts := [], laidByText := true, laidKinds := [.data, .data, .data], laidTests := true, laidLooks := .later }
def PeriodBackUptoCardSaid : Prop := Claim7.holds Tryd.pinned (.plain (OpenSpec.upto periodBackSpec)) periodBackUptoCard

/-- THE SECOND FORM's CARD OF 'bitemporallaw01.PeriodParse'. -/
def periodParseUptoCard : Claim7 := { stood := { row := periodParseUptoRow, standIns := [], harness := (true, "e6516564ce2f39bda98147814fcfe83d38087141d4efbf294bf599d12d7352d8"), looks := false }, kinds := [], alts := [], laidByText := true, laidKinds := [.data, .data, .data], laidTests := true, laidLooks := .later }
def PeriodParseUptoCardSaid : Prop := Claim7.holds Tryd.pinned (.plain (OpenSpec.upto periodParseSpec)) periodParseUptoCard

/-- THE SECOND FORM's CARD OF 'bitemporallaw01.PeriodPartition'. -/
def periodPartitionUptoCard : Claim7 := { stood := { row := periodPartitionUptoRow, standIns := [], harness := (true, "e6516564ce2f39bda98147814fcfe83d38087141d4efbf294bf599d12d7352d8"), looks := false }, kinds := [], alts := [], laidByText := true, laidKinds := [.data, .data, .data], laidTests := true, laidLooks := .later }
def PeriodPartitionUptoCardSaid : Prop := Claim7.holds Tryd.pinned (.plain (OpenSpec.upto periodPartitionSpec)) periodPartitionUptoCard

/-- THE SECOND FORM's CARD OF 'bitemporallaw01.PeriodTells'. -/
def periodTellsUptoCard : Claim7 := { stood := { row := periodTellsUptoRow, standIns := [], harness := (true, "e6516564ce2f39bda98147814fcfe83d38087141d4efbf294bf599d12d7352d8"), looks := false }, kinds := [], alts := [], laidByText := true, laidKinds := [.data, .data, .data], laidTests := true, laidLooks := .later }
def PeriodTellsUptoCardSaid : Prop := Claim7.holds Tryd.pinned (.plain (OpenSpec.upto periodTellsSpec)) periodTellsUptoCard

/-- THE SECOND FORM's CARD OF 'bitemporallaw01.PeriodOrder'. -/
def periodOrderUptoCard : Claim7 := { stood := { row := periodOrderUptoRow, standIns := [], harness := (true, "e6516564ce2f39bda98147814fcfe83d38087141d4efbf294bf599d12d7352d8"), looks := false }, kinds := [], alts := [], laidByText := true, laidKinds := [.data, .data, .data], laidTests := true, laidLooks := .later }
def PeriodOrderUptoCardSaid : Prop := Claim7.holds Tryd.pinned (.plain (OpenSpec.upto periodOrderSpec)) periodOrderUptoCard
end Rows
end Go.Proofs.YtajkbnfpnohdlaaDoor
