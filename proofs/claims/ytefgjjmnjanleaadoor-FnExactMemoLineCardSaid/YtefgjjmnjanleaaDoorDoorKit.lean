/-
  PROVED: nothing by itself: what the laws of the door seat import.
-/
import Derived.Test.YtefgjjmnjanleaaDoorTabVar
import Derived.Test.YtefgjjmnjanleaaDoorRd
import Derived.Test.YtefgjjmnjanleaaDoorRep2
import Derived.Test.YtefgjjmnjanleaaDoorRows
import Derived.Test.YtefgjjmnjanleaaDoorCards
import Derived.Test.YtefgjjmnjanleaaDoorTie
import Derived.ProofKit
import Derived.OpenShut
import Derived.ShutString
import Derived.ChangeOld
import Derived.LaidMore
import Derived.Lay
import Derived.MakeChecks
import Derived.SevenTiedAt
import Derived.Stop.Joined
import Derived.Stop.LaidErr
import Derived.Deep.DeepHandedRow
