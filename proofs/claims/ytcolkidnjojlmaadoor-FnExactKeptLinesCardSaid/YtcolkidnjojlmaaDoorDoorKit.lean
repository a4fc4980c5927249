/-
  PROVED: nothing by itself: what the laws of the door seat import.
-/
import Derived.Test.YtcolkidnjojlmaaDoorTabVar
import Derived.Test.YtcolkidnjojlmaaDoorRd
import Derived.Test.YtcolkidnjojlmaaDoorRep2
import Derived.Test.YtcolkidnjojlmaaDoorRows
import Derived.Test.YtcolkidnjojlmaaDoorCards
import Derived.Test.YtcolkidnjojlmaaDoorTie
import Derived.ProofKit
import Derived.OpenShut
import Derived.ShutString
import Derived.ChangeOld
import Derived.LaidMore
import Derived.Lay
import Derived.MakeChecks
import Derived.SevenTiedAt
import Derived.Stop.Joined
import Derived.Stop.LaidErr
import Derived.Deep.DeepHandedRow
