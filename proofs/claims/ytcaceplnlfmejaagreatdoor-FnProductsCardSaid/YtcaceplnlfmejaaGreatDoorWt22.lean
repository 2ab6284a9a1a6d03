/- ReadList: the walk of the program. -/
import Derived.Test.YtcaceplnlfmejaaGreatDoorWt21
namespace Go.Proofs.YtcaceplnlfmejaaGreatDoor
open Go.RowKit
open Lib (itoa decDigits parseIntB)



end Go.Proofs.YtcaceplnlfmejaaGreatDoor
