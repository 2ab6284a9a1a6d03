/- ListText: the law. -/
import Derived.Test.YtcaceplnlfmejaaGreatDoorWt16
namespace Go.Proofs.YtcaceplnlfmejaaGreatDoor
open Go.RowKit
open Lib (itoa decDigits parseIntB)



end Go.Proofs.YtcaceplnlfmejaaGreatDoor
