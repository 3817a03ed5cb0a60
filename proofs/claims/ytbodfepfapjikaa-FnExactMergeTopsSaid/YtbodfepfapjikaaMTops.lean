/-
  MergeTops: reference and program, by contract.
-/
import Derived.Test.YtbodfepfapjikaaMTopS
import Derived.Test.YtbodfepfapjikaaMTopI
import Derived.Deep.CutRange
import Derived.Deep.RegionHeld3
import Derived.Deep.RegionLaw
