/-
  DERIVED. GIVEN WITH THE SEED: THE CARDS: each row of YtjobmlnekpaagaaDoorRows.lean that lists a variable, with what it lists TIED to the program's text (the seventh form; the later family's looks); each row that meets fmt, with fmt's text TOLD by the authors' own Lean function (tested against real Go, not proved from fmt's source: count such statements apart). THE CARD IS WHAT COUNTS. Prove the row's statement (the work); the ties are given (YtjobmlnekpaagaaDoorTie.lean); close each card by the builder's one call (the guide's Derived/Test/ToyasCard.lean, 'card_holds'). Laid BY PROGRAM, IN A SANDBOX (cutbox-door.mjs). By AI agents, Wed Nov 11 2026. No macro, syntax, notation, axiom, sorry.
-/
import Derived.Test.YtjobmlnekpaagaaDoorRows
import GoSem.ClaimSeven
namespace Go.Proofs.YtjobmlnekpaagaaDoor
namespace Rows

/-- THE TIED CARD OF 'auspicelaw05.DiskSure'. -/
def diskSureCard : Claim7 := { stood := { row := diskSureRow, standIns := [], harness := (true, "92b294903e7242efe34b730e3156ce04ebdeb97559095f35d148a68af3d799c2"), looks := true }, kinds := [], alts := [], laidByText := true, laidKinds := [.data, .pinned], laidTests := true, laidLooks := .later }
def DiskSureCardSaid : Prop := Claim7.holds Tryd.pinned (.plain (OpenSpec.ofChange diskSureSpec)) diskSureCard

/-- THE TIED CARD OF 'auspicelaw07.ShelfReads'. -/
def shelfReadsCard : Claim7 := { stood := { row := shelfReadsRow, standIns := [], harness := (true, "92b294903e7242efe34b730e3156ce04ebdeb97559095f35d148a68af3d799c2"), looks := true }, kinds := [], alts := [], laidByText := true, laidKinds := [.data, .pinned], laidTests := true, laidLooks := .later }
def ShelfReadsCardSaid : Prop := Claim7.holds Tryd.pinned (.plain (OpenSpec.ofChange shelfReadsSpec)) shelfReadsCard

/-- THE TIED CARD OF 'auspicelaw07.ShelfTexts'. -/
def shelfTextsCard : Claim7 := { stood := { row := shelfTextsRow, standIns := [], harness := (true, "92b294903e7242efe34b730e3156ce04ebdeb97559095f35d148a68af3d799c2"), looks := true }, kinds := [], alts := [], laidByText := true, laidKinds := [.data, .pinned], laidTests := true, laidLooks := .later }
def ShelfTextsCardSaid : Prop := Claim7.holds Tryd.pinned (.plain (OpenSpec.ofChange shelfTextsSpec)) shelfTextsCard

/-- THE TIED CARD OF 'auspicelaw07.ShelfBack'. -/
def shelfBackCard : Claim7 := { stood := { row := shelfBackRow, standIns := [], harness := (true, "92b294903e7242efe34b730e3156ce04ebdeb97559095f35d148a68af3d799c2"), looks := true }, kinds := [], alts := [], laidByText := true, laidKinds := [.data, .pinned], laidTests := true, laidLooks := .later }
def ShelfBackCardSaid : Prop := Claim7.holds Tryd.pinned (.plain (OpenSpec.ofChange shelfBackSpec)) shelfBackCard

/-- THE TIED CARD OF 'auspicelaw07.ShelfNil'. -/
def shelfNilCard : Claim7 := { stood := { row := shelfNilRow, standIns := [], harness := (true, "92b294903e7242efe34b730e3156ce04ebdeb97559095f35d148a68af3d799c2"), looks := true }, kinds := [], alts := [], laidByText := true, laidKinds := [.data, .pinned], laidTests := true, laidLooks := .later }
def ShelfNilCardSaid : Prop := Claim7.holds Tryd.pinned (.plain (OpenSpec.ofChange shelfNilSpec)) shelfNilCard

/-- THE TIED CARD OF 'auspicelaw07.ShelfFalls'. -/
def shelfFallsCard : Claim7 := { stood := { row := shelfFallsRow, standIns := [], harness := (true, "92b294903e7242efe34b730e3156ce04ebdeb97559095f35d148a68af3d799c2"), looks := true }, kinds := [], alts := [], laidByText := true, laidKinds := [.data, .pinned], laidTests := true, laidLooks := .later }
def ShelfFallsCardSaid : Prop := Claim7.holds Tryd.pinned (.plain (OpenSpec.ofChange shelfFallsSpec)) shelfFallsCard

/-- THE TIED CARD OF 'auspicelaw07.ShelfFull'. -/
def shelfFullCard : Claim7 := { stood := { row := shelfFullRow, standIns := [], harness := (true, "92b294903e7242efe34b730e3156ce04ebdeb97559095f35d148a68af3d799c2"), looks := true }, kinds := [], alts := [], laidByText := true, laidKinds := [.data, .pinned], laidTests := true, laidLooks := .later }
def ShelfFullCardSaid : Prop := Claim7.holds Tryd.pinned (.plain (OpenSpec.ofChange shelfFullSpec)) shelfFullCard

/-- THE TIED CARD OF 'auspicelaw05.DiskPrefix'. -/
def diskPrefixCard : Claim7 := { stood := { row := diskPrefixRow, standIns := [], harness := (true, "92b294903e7242efe34b730e3156ce04ebdeb97559095f35d148a68af3d799c2"), looks := true }, kinds := [], alts := [], laidByText := true, laidKinds := [.data, .pinned], laidTests := true, laidLooks := .later }
def DiskPrefixCardSaid : Prop := Claim7.holds Tryd.pinned (.plain (OpenSpec.ofChange diskPrefixSpec)) diskPrefixCard

/-- THE TIED CARD OF 'auspicelaw05.DiskRoom'. -/
def diskRoomCard : Claim7 := { stood := { row := diskRoomRow, standIns := [], harness := (true, "92b294903e7242efe34b730e3156ce04ebdeb97559095f35d148a68af3d799c2"), looks := true }, kinds := [], alts := [], laidByText := true, laidKinds := [.data, .pinned], laidTests := true, laidLooks := .later }
def DiskRoomCardSaid : Prop := Claim7.holds Tryd.pinned (.plain (OpenSpec.ofChange diskRoomSpec)) diskRoomCard

/-- THE TIED CARD OF 'auspicelaw05.DiskNil'. -/
def diskNilCard : Claim7 := { stood := { row := diskNilRow, standIns := [], harness := (true, "92b294903e7242efe34b730e3156ce04ebdeb97559095f35d148a68af3d799c2"), looks := true }, kinds := [], alts := [], laidByText := true, laidKinds := [.data, .pinned], laidTests := true, laidLooks := .later }
def DiskNilCardSaid : Prop := Claim7.holds Tryd.pinned (.plain (OpenSpec.ofChange diskNilSpec)) diskNilCard

/-- THE SECOND FORM's CARD OF 'auspicelaw05.DiskSure'. -/
def diskSureUptoCard : Claim7 := { stood := { row := diskSureUptoRow, standIns := [], harness := (true, "92b294903e7242efe34b730e3156ce04ebdeb97559095f35d148a68af3d799c2"), looks := true }, kinds := [], alts := [], laidByText := true, laidKinds := [.data, .pinned], laidTests := true, laidLooks := .later }
def DiskSureUptoCardSaid : Prop := Claim7.holds Tryd.pinned (.plain (OpenSpec.upto diskSureSpec)) diskSureUptoCard

/-- THE SECOND FORM's CARD OF 'auspicelaw07.ShelfReads'. -/
def shelfReadsUptoCard : Claim7 := { stood := { row := shelfReadsUptoRow, standIns := [], harness := (true, "92b294903e7242efe34b730e3156ce04ebdeb97559095f35d148a68af3d799c2"), looks := true }, kinds := [], alts := [], laidByText := true, laidKinds := [.data, .pinned], laidTests := true, laidLooks := .later }
def ShelfReadsUptoCardSaid : Prop := Claim7.holds Tryd.pinned (.plain (OpenSpec.upto shelfReadsSpec)) shelfReadsUptoCard

/-- THE SECOND FORM's CARD OF 'auspicelaw07.ShelfTexts'. -/
def shelfTextsUptoCard : Claim7 := { stood := { row := shelfTextsUptoRow, standIns := [], harness := (true, "92b294903e7242efe34b730e3156ce04ebdeb97559095f35d148a68af3d799c2"), looks := true }, kinds := [], alts := [], laidByText := true, laidKinds := [.data, .pinned], laidTests := true, laidLooks := .later }
def ShelfTextsUptoCardSaid : Prop := Claim7.holds Tryd.pinned (.plain (OpenSpec.upto shelfTextsSpec)) shelfTextsUptoCard

/-- THE SECOND FORM's CARD OF 'auspicelaw07.ShelfBack'. -/
def shelfBackUptoCard : Claim7 := { stood := { row := shelfBackUptoRow, standIns := [], harness := (true, "92b294903e7242efe34b730e3156ce04ebdeb97559095f35d148a68af3d799c2"), looks := true }, kinds := [], alts := [], laidByText := true, laidKinds := [.data, .pinned], laidTests := true, laidLooks := .later }
def ShelfBackUptoCardSaid : Prop := Claim7.holds Tryd.pinned (.plain (OpenSpec.upto shelfBackSpec)) shelfBackUptoCard

/-- THE SECOND FORM's CARD OF 'auspicelaw07.ShelfNil'. -/
def shelfNilUptoCard : Claim7 := { stood := { row := shelfNilUptoRow, standIns := [], harness := (true, "92b294903e7242efe34b730e3156ce04ebdeb97559095f35d148a68af3d799c2"), looks := true }, kinds := [], alts := [], laidByText := true, laidKinds := [.data, .pinned], laidTests := true, laidLooks := .later }
def ShelfNilUptoCardSaid : Prop := Claim7.holds Tryd.pinned (.plain (OpenSpec.upto shelfNilSpec)) shelfNilUptoCard

/-- THE SECOND FORM's CARD OF 'auspicelaw07.ShelfFalls'. -/
def shelfFallsUptoCard : Claim7 := { stood := { row := shelfFallsUptoRow, standIns := [], harness := (true, "92b294903e7242efe34b730e3156ce04ebdeb97559095f35d148a68af3d799c2"), looks := true }, kinds := [], alts := [], laidByText := true, laidKinds := [.data, .pinned], laidTests := true, laidLooks := .later }
def ShelfFallsUptoCardSaid : Prop := Claim7.holds Tryd.pinned (.plain (OpenSpec.upto shelfFallsSpec)) shelfFallsUptoCard

/-- THE SECOND FORM's CARD OF 'auspicelaw07.ShelfFull'. -/
def shelfFullUptoCard : Claim7 := { stood := { row := shelfFullUptoRow, standIns := [], harness := (true, "92b294903e7242efe34b730e3156ce04ebdeb97559095f35d148a68af3d799c2"), looks := true }, kinds := [], alts := [], laidByText := true, laidKinds := [.data, .pinned], laidTests := true, laidLooks := .later }
def ShelfFullUptoCardSaid : Prop := Claim7.holds Tryd.pinned (.plain (OpenSpec.upto shelfFullSpec)) shelfFullUptoCard

/-- THE SECOND FORM's CARD OF 'auspicelaw05.DiskPrefix'. -/
def diskPrefixUptoCard : Claim7 := { stood := { row := diskPrefixUptoRow, standIns := [], harness := (true, "92b294903e7242efe34b730e3156ce04ebdeb97559095f35d148a68af3d799c2"), looks := true }, kinds := [], alts := [], laidByText := true, laidKinds := [.data, .pinned], laidTests := true, laidLooks := .later }
def DiskPrefixUptoCardSaid : Prop := Claim7.holds Tryd.pinned (.plain (OpenSpec.upto diskPrefixSpec)) diskPrefixUptoCard

/-- THE SECOND FORM's CARD OF 'auspicelaw05.DiskRoom'. -/
def diskRoomUptoCard : Claim7 := { stood := { row := diskRoomUptoRow, standIns := [], harness := (true, "92b294903e7242efe34b730e3156ce04ebdeb97559095f35d148a68af3d799c2"), looks := true }, kinds := [], alts := [], laidByText := true, laidKinds := [.data, .pinned], laidTests := true, laidLooks := .later }
def DiskRoomUptoCardSaid : Prop := Claim7.holds Tryd.pinned (.plain (OpenSpec.upto diskRoomSpec)) diskRoomUptoCard

/-- THE SECOND FORM's CARD OF 'auspicelaw05.DiskNil'. -/
def diskNilUptoCard : Claim7 := { stood := { row := diskNilUptoRow, standIns := [], harness := (true, "92b294903e7242efe34b730e3156ce04ebdeb97559095f35d148a68af3d799c2"), looks := true }, kinds := [], alts := [], laidByText := true, laidKinds := [.data, .pinned], laidTests := true, laidLooks := .later }
def DiskNilUptoCardSaid : Prop := Claim7.holds Tryd.pinned (.plain (OpenSpec.upto diskNilSpec)) diskNilUptoCard
end Rows
end Go.Proofs.YtjobmlnekpaagaaDoor
