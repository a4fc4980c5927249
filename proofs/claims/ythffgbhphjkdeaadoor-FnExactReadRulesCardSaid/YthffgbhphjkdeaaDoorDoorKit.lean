/-
  PROVED: nothing by itself: what the laws of the door seat import.
-/
import Derived.Test.YthffgbhphjkdeaaDoorTabVar
import Derived.Test.YthffgbhphjkdeaaDoorRd
import Derived.Test.YthffgbhphjkdeaaDoorRep2
import Derived.Test.YthffgbhphjkdeaaDoorRows
import Derived.Test.YthffgbhphjkdeaaDoorCards
import Derived.Test.YthffgbhphjkdeaaDoorTie
import Derived.ProofKit
import Derived.OpenShut
import Derived.ShutString
import Derived.ChangeOld
import Derived.LaidMore
import Derived.Lay
import Derived.MakeChecks
import Derived.SevenTiedAt
import Derived.Stop.Joined
import Derived.Stop.LaidErr
import Derived.Deep.DeepHandedRow
