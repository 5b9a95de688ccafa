/-
  DERIVED. GIVEN WITH THE SEED: THE CARDS: each row of YtoclbmepgeelmaaDoorRows.lean that lists a variable, with what it lists TIED to the program's text (the seventh form; the later family's looks); each row that meets fmt, with fmt's text TOLD by the authors' own Lean function (tested against real Go, not proved from fmt's source: count such statements apart). THE CARD IS WHAT COUNTS. Prove the row's statement (the work); the ties are given (YtoclbmepgeelmaaDoorTie.lean); close each card by the builder's one call (the guide's Derived/Test/ToyasCard.lean, 'card_holds'). Laid BY PROGRAM, IN A SANDBOX (cutbox-door.mjs). By AI agents, Wed Nov 11 2026. No macro, syntax, notation, axiom, sorry.
-/
import Derived.Test.YtoclbmepgeelmaaDoorRows
import GoSem.ClaimSeven
namespace Go.Proofs.YtoclbmepgeelmaaDoor
namespace Rows

/-- THE TIED CARD OF 'hindsightlaw06.LikeMatches'. -/
def likeMatchesCard : Claim7 := { stood := { row := likeMatchesRow, standIns := [], harness := (true, "ac33d02b936d2efbd9abd3199f49a9c135dfeb5bd319198bf5671ea60b3fc21d"), looks := false }, kinds := [], alts := [], laidByText := true, laidKinds := [.data, .pinned], laidTests := true, laidLooks := .later }
def LikeMatchesCardSaid : Prop := Claim7.holds Tryd.pinned (.plain (OpenSpec.ofChange likeMatchesSpec)) likeMatchesCard

/-- THE TIED CARD OF 'hindsightlaw06.LikeSelf'. -/
def likeSelfCard : Claim7 := { stood := { row := likeSelfRow, standIns := [], harness := (true, "ac33d02b936d2efbd9abd3199f49a9c135dfeb5bd319198bf5671ea60b3fc21d"), looks := false }, kinds := [], alts := [], laidByText := true, laidKinds := [.data, .pinned], laidTests := true, laidLooks := .later }
def LikeSelfCardSaid : Prop := Claim7.holds Tryd.pinned (.plain (OpenSpec.ofChange likeSelfSpec)) likeSelfCard

/-- THE TIED CARD OF 'hindsightlaw06.LikeJoins'. -/
def likeJoinsCard : Claim7 := { stood := { row := likeJoinsRow, standIns := [], harness := (true, "ac33d02b936d2efbd9abd3199f49a9c135dfeb5bd319198bf5671ea60b3fc21d"), looks := false }, kinds := [], alts := [], laidByText := true, laidKinds := [.data, .pinned], laidTests := true, laidLooks := .later }
def LikeJoinsCardSaid : Prop := Claim7.holds Tryd.pinned (.plain (OpenSpec.ofChange likeJoinsSpec)) likeJoinsCard

/-- THE TIED CARD OF 'hindsightlaw06.LikeFronts'. -/
def likeFrontsCard : Claim7 := { stood := { row := likeFrontsRow, standIns := [], harness := (true, "ac33d02b936d2efbd9abd3199f49a9c135dfeb5bd319198bf5671ea60b3fc21d"), looks := false }, kinds := [], alts := [], laidByText := true, laidKinds := [.data, .pinned], laidTests := true, laidLooks := .later }
def LikeFrontsCardSaid : Prop := Claim7.holds Tryd.pinned (.plain (OpenSpec.ofChange likeFrontsSpec)) likeFrontsCard

/-- THE TIED CARD OF 'hindsightlaw06.LikeBegins'. -/
def likeBeginsCard : Claim7 := { stood := { row := likeBeginsRow, standIns := [], harness := (true, "ac33d02b936d2efbd9abd3199f49a9c135dfeb5bd319198bf5671ea60b3fc21d"), looks := false }, kinds := [], alts := [], laidByText := true, laidKinds := [.data, .pinned], laidTests := true, laidLooks := .later }
def LikeBeginsCardSaid : Prop := Claim7.holds Tryd.pinned (.plain (OpenSpec.ofChange likeBeginsSpec)) likeBeginsCard

/-- THE TIED CARD OF 'hindsightlaw19.TokenReads'. -/
def tokenReadsCard : Claim7 := { stood := { row := tokenReadsRow, standIns := [], harness := (true, "ac33d02b936d2efbd9abd3199f49a9c135dfeb5bd319198bf5671ea60b3fc21d"), looks := false }, kinds := [], alts := [], laidByText := true, laidKinds := [.data, .pinned], laidTests := true, laidLooks := .later }
def TokenReadsCardSaid : Prop := Claim7.holds Tryd.pinned (.plain (OpenSpec.ofChange tokenReadsSpec)) tokenReadsCard

/-- THE TIED CARD OF 'hindsightlaw19.TokenPlaces'. -/
def tokenPlacesCard : Claim7 := { stood := { row := tokenPlacesRow, standIns := [], harness := (true, "ac33d02b936d2efbd9abd3199f49a9c135dfeb5bd319198bf5671ea60b3fc21d"), looks := false }, kinds := [], alts := [], laidByText := true, laidKinds := [.data, .pinned], laidTests := true, laidLooks := .later }
def TokenPlacesCardSaid : Prop := Claim7.holds Tryd.pinned (.plain (OpenSpec.ofChange tokenPlacesSpec)) tokenPlacesCard

/-- THE TIED CARD OF 'hindsightlaw05.RunesNames'. -/
def runesNamesCard : Claim7 := { stood := { row := runesNamesRow, standIns := [], harness := (true, "ac33d02b936d2efbd9abd3199f49a9c135dfeb5bd319198bf5671ea60b3fc21d"), looks := false }, kinds := [], alts := [], laidByText := true, laidKinds := [.data, .data, .data, .data, .pinned], laidTests := true, laidLooks := .later }
def RunesNamesCardSaid : Prop := Claim7.holds Tryd.pinned (.plain (OpenSpec.ofChange runesNamesSpec)) runesNamesCard

/-- THE TIED CARD OF 'hindsightlaw05.RunesQuotes'. -/
def runesQuotesCard : Claim7 := { stood := { row := runesQuotesRow, standIns := [], harness := (true, "ac33d02b936d2efbd9abd3199f49a9c135dfeb5bd319198bf5671ea60b3fc21d"), looks := false }, kinds := [], alts := [], laidByText := true, laidKinds := [.data, .data, .data, .data, .pinned], laidTests := true, laidLooks := .later }
def RunesQuotesCardSaid : Prop := Claim7.holds Tryd.pinned (.plain (OpenSpec.ofChange runesQuotesSpec)) runesQuotesCard

/-- THE TIED CARD OF 'hindsightlaw05.RunesTold'. -/
def runesToldCard : Claim7 := { stood := { row := runesToldRow, standIns := [], harness := (true, "ac33d02b936d2efbd9abd3199f49a9c135dfeb5bd319198bf5671ea60b3fc21d"), looks := false }, kinds := [], alts := [], laidByText := true, laidKinds := [.data, .data, .data, .data, .pinned], laidTests := true, laidLooks := .later }
def RunesToldCardSaid : Prop := Claim7.holds Tryd.pinned (.plain (OpenSpec.ofChange runesToldSpec)) runesToldCard

/-- THE TIED CARD OF 'hindsightlaw05.RunesPoints'. -/
def runesPointsCard : Claim7 := { stood := { row := runesPointsRow, standIns := [], harness := (true, "ac33d02b936d2efbd9abd3199f49a9c135dfeb5bd319198bf5671ea60b3fc21d"), looks := false }, kinds := [], alts := [], laidByText := true, laidKinds := [.data, .data, .data, .data, .pinned], laidTests := true, laidLooks := .later }
def RunesPointsCardSaid : Prop := Claim7.holds Tryd.pinned (.plain (OpenSpec.ofChange runesPointsSpec)) runesPointsCard

/-- THE TIED CARD OF 'hindsightlaw05.RunesBack'. -/
def runesBackCard : Claim7 := { stood := { row := runesBackRow, standIns := [], harness := (true, "ac33d02b936d2efbd9abd3199f49a9c135dfeb5bd319198bf5671ea60b3fc21d"), looks := false }, kinds := [], alts := [], laidByText := true, laidKinds := [.data, .data, .data, .data, .pinned], laidTests := true, laidLooks := .later }
def RunesBackCardSaid : Prop := Claim7.holds Tryd.pinned (.plain (OpenSpec.ofChange runesBackSpec)) runesBackCard

/-- THE TIED CARD OF 'hindsightlaw19.TokenWrites'. -/
def tokenWritesCard : Claim7 := { stood := { row := tokenWritesRow, standIns := [], harness := (true, "ac33d02b936d2efbd9abd3199f49a9c135dfeb5bd319198bf5671ea60b3fc21d"), looks := false }, kinds := [], alts := [], laidByText := true, laidKinds := [.data, .data, .data, .data, .pinned], laidTests := true, laidLooks := .later }
def TokenWritesCardSaid : Prop := Claim7.holds Tryd.pinned (.plain (OpenSpec.ofChange tokenWritesSpec)) tokenWritesCard

/-- THE TIED CARD OF 'hindsightlaw19.TokenBack'. -/
def tokenBackCard : Claim7 := { stood := { row := tokenBackRow, standIns := [], harness := (true, "ac33d02b936d2efbd9abd3199f49a9c135dfeb5bd319198bf5671ea60b3fc21d"), looks := false }, kinds := [], alts := [], laidByText := true, laidKinds := [.data, .data, .data, .data, .pinned], laidTests := true, laidLooks := .later }
def TokenBackCardSaid : Prop := Claim7.holds Tryd.pinned (.plain (OpenSpec.ofChange tokenBackSpec)) tokenBackCard

/-- THE SECOND FORM's CARD OF 'hindsightlaw06.LikeMatches'. -/
def likeMatchesUptoCard : Claim7 := { stood := { row := likeMatchesUptoRow, standIns := [], harness := (true, "ac33d02b936d2efbd9abd3199f49a9c135dfeb5bd319198bf5671ea60b3fc21d"), looks := false }, kinds := [], alts := [], laidByText := true, laidKinds := [.data, .pinned], laidTests := true, laidLooks := .later }
def LikeMatchesUptoCardSaid : Prop := Claim7.holds Tryd.pinned (.plain (OpenSpec.upto likeMatchesSpec)) likeMatchesUptoCard

/-- THE SECOND FORM's CARD OF 'hindsightlaw06.LikeSelf'. -/
def likeSelfUptoCard : Claim7 := { stood := { row := likeSelfUptoRow, standIns := [], harness := (true, "ac33d02b936d2efbd9abd3199f49a9c135dfeb5bd319198bf5671ea60b3fc21d"), looks := false }, kinds := [], alts := [], laidByText := true, laidKinds := [.data, .pinned], laidTests := true, laidLooks := .later }
def LikeSelfUptoCardSaid : Prop := Claim7.holds Tryd.pinned (.plain (OpenSpec.upto likeSelfSpec)) likeSelfUptoCard

/-- THE SECOND FORM's CARD OF 'hindsightlaw06.LikeJoins'. -/
def likeJoinsUptoCard : Claim7 := { stood := { row := likeJoinsUptoRow, standIns := [], harness := (true, "ac33d02b936d2efbd9abd3199f49a9c135dfeb5bd319198bf5671ea60b3fc21d"), looks := false }, kinds := [], alts := [], laidByText := true, laidKinds := [.data, .pinned], laidTests := true, laidLooks := .later }
def LikeJoinsUptoCardSaid : Prop := Claim7.holds Tryd.pinned (.plain (OpenSpec.upto likeJoinsSpec)) likeJoinsUptoCard

/-- THE SECOND FORM's CARD OF 'hindsightlaw06.LikeFronts'. -/
def likeFrontsUptoCard : Claim7 := { stood := { row := likeFrontsUptoRow, standIns := [], harness := (true, "ac33d02b936d2efbd9abd3199f49a9c135dfeb5bd319198bf5671ea60b3fc21d"), looks := false }, kinds := [], alts := [], laidByText := true, laidKinds := [.data, .pinned], laidTests := true, laidLooks := .later }
def LikeFrontsUptoCardSaid : Prop := Claim7.holds Tryd.pinned (.plain (OpenSpec.upto likeFrontsSpec)) likeFrontsUptoCard

/-- THE SECOND FORM's CARD OF 'hindsightlaw06.LikeBegins'. -/
def likeBeginsUptoCard : Claim7 := { stood := { row := likeBeginsUptoRow, standIns := [], harness := (true, "ac33d02b936d2efbd9abd3199f49a9c135dfeb5bd319198bf5671ea60b3fc21d"), looks := false }, kinds := [], alts := [], laidByText := true, laidKinds := [.data, .pinned], laidTests := true, laidLooks := .later }
def LikeBeginsUptoCardSaid : Prop := Claim7.holds Tryd.pinned (.plain (OpenSpec.upto likeBeginsSpec)) likeBeginsUptoCard

/-- THE SECOND FORM's CARD OF 'hindsightlaw19.TokenReads'. -/
def tokenReadsUptoCard : Claim7 := { stood := { row := tokenReadsUptoRow, standIns := [], harness := (true, "ac33d02b936d2efbd9abd3199f49a9c135dfeb5bd319198bf5671ea60b3fc21d"), looks := false }, kinds := [], alts := [], laidByText := true, laidKinds := [.data, .pinned], laidTests := true, laidLooks := .later }
def TokenReadsUptoCardSaid : Prop := Claim7.holds Tryd.pinned (.plain (OpenSpec.upto tokenReadsSpec)) tokenReadsUptoCard

/-- THE SECOND FORM's CARD OF 'hindsightlaw19.TokenPlaces'. -/
def tokenPlacesUptoCard : Claim7 := { stood := { row := tokenPlacesUptoRow, standIns := [], harness := (true, "ac33d02b936d2efbd9abd3199f49a9c135dfeb5bd319198bf5671ea60b3fc21d"), looks := false }, kinds := [], alts := [], laidByText := true, laidKinds := [.data, .pinned], laidTests := true, laidLooks := .later }
def TokenPlacesUptoCardSaid : Prop := Claim7.holds Tryd.pinned (.plain (OpenSpec.upto tokenPlacesSpec)) tokenPlacesUptoCard

/-- THE SECOND FORM's CARD OF 'hindsightlaw05.RunesNames'. -/
def runesNamesUptoCard : Claim7 := { stood := { row := runesNamesUptoRow, standIns := [], harness := (true, "ac33d02b936d2efbd9abd3199f49a9c135dfeb5bd319198bf5671ea60b3fc21d"), looks := false }, kinds := [], alts := [], laidByText := true, laidKinds := [.data, .data, .data, .data, .pinned], laidTests := true, laidLooks := .later }
def RunesNamesUptoCardSaid : Prop := Claim7.holds Tryd.pinned (.plain (OpenSpec.upto runesNamesSpec)) runesNamesUptoCard

/-- THE SECOND FORM's CARD OF 'hindsightlaw05.RunesQuotes'. -/
def runesQuotesUptoCard : Claim7 := { stood := { row := runesQuotesUptoRow, standIns := [], harness := (true, "ac33d02b936d2efbd9abd3199f49a9c135dfeb5bd319198bf5671ea60b3fc21d"), looks := false }, kinds := [], alts := [], laidByText := true, laidKinds := [.data, .data, .data, .data, .pinned], laidTests := true, laidLooks := .later }
def RunesQuotesUptoCardSaid : Prop := Claim7.holds Tryd.pinned (.plain (OpenSpec.upto runesQuotesSpec)) runesQuotesUptoCard

/-- THE SECOND FORM's CARD OF 'hindsightlaw05.RunesTold'. -/
def runesToldUptoCard : Claim7 := { stood := { row := runesToldUptoRow, standIns := [], harness := (true, "ac33d02b936d2efbd9abd3199f49a9c135dfeb5bd319198bf5671ea60b3fc21d"), looks := false }, kinds := [], alts := [], laidByText := true, laidKinds := [.data, .data, .data, .data, .pinned], laidTests := true, laidLooks := .later }
def RunesToldUptoCardSaid : Prop := Claim7.holds Tryd.pinned (.plain (OpenSpec.upto runesToldSpec)) runesToldUptoCard

/-- THE SECOND FORM's CARD OF 'hindsightlaw05.RunesPoints'. -/
def runesPointsUptoCard : Claim7 := { stood := { row := runesPointsUptoRow, standIns := [], harness := (true, "ac33d02b936d2efbd9abd3199f49a9c135dfeb5bd319198bf5671ea60b3fc21d"), looks := false }, kinds := [], alts := [], laidByText := true, laidKinds := [.data, .data, .data, .data, .pinned], laidTests := true, laidLooks := .later }
def RunesPointsUptoCardSaid : Prop := Claim7.holds Tryd.pinned (.plain (OpenSpec.upto runesPointsSpec)) runesPointsUptoCard

/-- THE SECOND FORM's CARD OF 'hindsightlaw05.RunesBack'. -/
def runesBackUptoCard : Claim7 := { stood := { row := runesBackUptoRow, standIns := [], harness := (true, "ac33d02b936d2efbd9abd3199f49a9c135dfeb5bd319198bf5671ea60b3fc21d"), looks := false }, kinds := [], alts := [], laidByText := true, laidKinds := [.data, .data, .data, .data, .pinned], laidTests := true, laidLooks := .later }
def RunesBackUptoCardSaid : Prop := Claim7.holds Tryd.pinned (.plain (OpenSpec.upto runesBackSpec)) runesBackUptoCard

/-- THE SECOND FORM's CARD OF 'hindsightlaw19.TokenWrites'. -/
def tokenWritesUptoCard : Claim7 := { stood := { row := tokenWritesUptoRow, standIns := [], harness := (true, "ac33d02b936d2efbd9abd3199f49a9c135dfeb5bd319198bf5671ea60b3fc21d"), looks := false }, kinds := [], alts := [], laidByText := true, laidKinds := [.data, .data, .data, .data, .pinned], laidTests := true, laidLooks := .later }
def TokenWritesUptoCardSaid : Prop := Claim7.holds Tryd.pinned (.plain (OpenSpec.upto tokenWritesSpec)) tokenWritesUptoCard

/-- THE SECOND FORM's CARD OF 'hindsightlaw19.TokenBack'. -/
def tokenBackUptoCard : Claim7 := { stood := { row := tokenBackUptoRow, standIns := [], harness := (true, "ac33d02b936d2efbd9abd3199f49a9c135dfeb5bd319198bf5671ea60b3fc21d"), looks := false }, kinds := [], alts := [], laidByText := true, laidKinds := [.data, .data, .data, .data, .pinned], laidTests := true, laidLooks := .later }
def TokenBackUptoCardSaid : Prop := Claim7.holds Tryd.pinned (.plain (OpenSpec.upto tokenBackSpec)) tokenBackUptoCard
end Rows
end Go.Proofs.YtoclbmepgeelmaaDoor
