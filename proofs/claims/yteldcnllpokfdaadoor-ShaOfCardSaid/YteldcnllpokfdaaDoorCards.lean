/-
  DERIVED. GIVEN WITH THE SEED: THE CARDS: each row of YteldcnllpokfdaaDoorRows.lean that lists a variable, with what it lists TIED to the program's text (the seventh form; the later family's looks); each row that meets fmt, with fmt's text TOLD by the authors' own Lean function (tested against real Go, not proved from fmt's source: count such statements apart). THE CARD IS WHAT COUNTS. Prove the row's statement (the work); the ties are given (YteldcnllpokfdaaDoorTie.lean); close each card by the builder's one call (the guide's Derived/Test/ToyasCard.lean, 'card_holds'). Laid BY PROGRAM, IN A SANDBOX (cutbox-door.mjs). By AI agents, Wed Nov 11 2026. No macro, syntax, notation, axiom, sorry.
-/
import Derived.Test.YteldcnllpokfdaaDoorRows
import GoSem.ClaimSeven
namespace Go.Proofs.YteldcnllpokfdaaDoor
namespace Rows

/-- THE TIED CARD OF 'sordinelaw2.ShaRuns'. -/
def shaRunsCard : Claim7 := { stood := { row := shaRunsRow, standIns := [], harness := (true, "c1a1c13433a46fbbddf1a5de7e97490dc733502104a488d0b90299ecb7525f3a"), looks := false }, kinds := [], alts := [], laidByText := true, laidKinds := [.data], laidTests := true, laidLooks := .later }
def ShaRunsCardSaid : Prop := Claim7.holds Tryd.pinned (.plain (OpenSpec.ofChange shaRunsSpec)) shaRunsCard

/-- THE TIED CARD OF 'sordinelaw2.ShaNone'. -/
def shaNoneCard : Claim7 := { stood := { row := shaNoneRow, standIns := [], harness := (true, "c1a1c13433a46fbbddf1a5de7e97490dc733502104a488d0b90299ecb7525f3a"), looks := false }, kinds := [], alts := [], laidByText := true, laidKinds := [.data], laidTests := true, laidLooks := .later }
def ShaNoneCardSaid : Prop := Claim7.holds Tryd.pinned (.plain (OpenSpec.ofChange shaNoneSpec)) shaNoneCard

/-- THE TIED CARD OF 'sordinelaw2.ShaPads'. -/
def shaPadsCard : Claim7 := { stood := { row := shaPadsRow, standIns := [], harness := (true, "c1a1c13433a46fbbddf1a5de7e97490dc733502104a488d0b90299ecb7525f3a"), looks := false }, kinds := [], alts := [], laidByText := true, laidKinds := [.data], laidTests := true, laidLooks := .later }
def ShaPadsCardSaid : Prop := Claim7.holds Tryd.pinned (.plain (OpenSpec.ofChange shaPadsSpec)) shaPadsCard

/-- THE TIED CARD OF 'sordinelaw2.ShaRounds'. -/
def shaRoundsCard : Claim7 := { stood := { row := shaRoundsRow, standIns := [], harness := (true, "c1a1c13433a46fbbddf1a5de7e97490dc733502104a488d0b90299ecb7525f3a"), looks := false }, kinds := [], alts := [], laidByText := true, laidKinds := [.data, .data], laidTests := true, laidLooks := .later }
def ShaRoundsCardSaid : Prop := Claim7.holds Tryd.pinned (.plain (OpenSpec.ofChange shaRoundsSpec)) shaRoundsCard

/-- THE TIED CARD OF 'sordinelaw2.ShaOf'. -/
def shaOfCard : Claim7 := { stood := { row := shaOfRow, standIns := [], harness := (true, "c1a1c13433a46fbbddf1a5de7e97490dc733502104a488d0b90299ecb7525f3a"), looks := false }, kinds := [], alts := [], laidByText := true, laidKinds := [.data, .data], laidTests := true, laidLooks := .later }
def ShaOfCardSaid : Prop := Claim7.holds Tryd.pinned (.plain (OpenSpec.ofChange shaOfSpec)) shaOfCard

/-- THE TIED CARD OF 'sordinelaw2.ShaWhole'. -/
def shaWholeCard : Claim7 := { stood := { row := shaWholeRow, standIns := [], harness := (true, "c1a1c13433a46fbbddf1a5de7e97490dc733502104a488d0b90299ecb7525f3a"), looks := false }, kinds := [], alts := [], laidByText := true, laidKinds := [.data], laidTests := true, laidLooks := .later }
def ShaWholeCardSaid : Prop := Claim7.holds Tryd.pinned (.plain (OpenSpec.ofChange shaWholeSpec)) shaWholeCard

/-- THE SECOND FORM's CARD OF 'sordinelaw2.ShaRuns'. -/
def shaRunsUptoCard : Claim7 := { stood := { row := shaRunsUptoRow, standIns := [], harness := (true, "c1a1c13433a46fbbddf1a5de7e97490dc733502104a488d0b90299ecb7525f3a"), looks := false }, kinds := [], alts := [], laidByText := true, laidKinds := [.data], laidTests := true, laidLooks := .later }
def ShaRunsUptoCardSaid : Prop := Claim7.holds Tryd.pinned (.plain (OpenSpec.upto shaRunsSpec)) shaRunsUptoCard

/-- THE SECOND FORM's CARD OF 'sordinelaw2.ShaNone'. -/
def shaNoneUptoCard : Claim7 := { stood := { row := shaNoneUptoRow, standIns := [], harness := (true, "c1a1c13433a46fbbddf1a5de7e97490dc733502104a488d0b90299ecb7525f3a"), looks := false }, kinds := [], alts := [], laidByText := true, laidKinds := [.data], laidTests := true, laidLooks := .later }
def ShaNoneUptoCardSaid : Prop := Claim7.holds Tryd.pinned (.plain (OpenSpec.upto shaNoneSpec)) shaNoneUptoCard

/-- THE SECOND FORM's CARD OF 'sordinelaw2.ShaPads'. -/
def shaPadsUptoCard : Claim7 := { stood := { row := shaPadsUptoRow, standIns := [], harness := (true, "c1a1c13433a46fbbddf1a5de7e97490dc733502104a488d0b90299ecb7525f3a"), looks := false }, kinds := [], alts := [], laidByText := true, laidKinds := [.data], laidTests := true, laidLooks := .later }
def ShaPadsUptoCardSaid : Prop := Claim7.holds Tryd.pinned (.plain (OpenSpec.upto shaPadsSpec)) shaPadsUptoCard

/-- THE SECOND FORM's CARD OF 'sordinelaw2.ShaRounds'. -/
def shaRoundsUptoCard : Claim7 := { stood := { row := shaRoundsUptoRow, standIns := [], harness := (true, "c1a1c13433a46fbbddf1a5de7e97490dc733502104a488d0b90299ecb7525f3a"), looks := false }, kinds := [], alts := [], laidByText := true, laidKinds := [.data, .data], laidTests := true, laidLooks := .later }
def ShaRoundsUptoCardSaid : Prop := Claim7.holds Tryd.pinned (.plain (OpenSpec.upto shaRoundsSpec)) shaRoundsUptoCard

/-- THE SECOND FORM's CARD OF 'sordinelaw2.ShaOf'. -/
def shaOfUptoCard : Claim7 := { stood := { row := shaOfUptoRow, standIns := [], harness := (true, "c1a1c13433a46fbbddf1a5de7e97490dc733502104a488d0b90299ecb7525f3a"), looks := false }, kinds := [], alts := [], laidByText := true, laidKinds := [.data, .data], laidTests := true, laidLooks := .later }
def ShaOfUptoCardSaid : Prop := Claim7.holds Tryd.pinned (.plain (OpenSpec.upto shaOfSpec)) shaOfUptoCard

/-- THE SECOND FORM's CARD OF 'sordinelaw2.ShaWhole'. -/
def shaWholeUptoCard : Claim7 := { stood := { row := shaWholeUptoRow, standIns := [], harness := (true, "c1a1c13433a46fbbddf1a5de7e97490dc733502104a488d0b90299ecb7525f3a"), looks := false }, kinds := [], alts := [], laidByText := true, laidKinds := [.data], laidTests := true, laidLooks := .later }
def ShaWholeUptoCardSaid : Prop := Claim7.holds Tryd.pinned (.plain (OpenSpec.upto shaWholeSpec)) shaWholeUptoCard
end Rows
end Go.Proofs.YteldcnllpokfdaaDoor
