/- Keys that must rise: RisingFault, risingKeys. -/
import Derived.Test.YtnocceilpnmbpaaGreatDoorKey
import Derived.Test.YtnocceilpnmbpaaGreatDoorList
namespace Go.Proofs.YtnocceilpnmbpaaGreatDoor
open Go.RowKit
set_option linter.unusedVariables false
set_option linter.unusedSimpArgs false

/-- The first error of keys that must rise. -/
def riseE (ks : List ByteArray) (i : Nat) : Int :=
 match ks[i]? with
 | none => 0
 | some x => if keyB x = false then 5 else if ordB ks i then 7 else 0
def riseFault (ks : List ByteArray) : Int := firstErr (riseE ks) ks.length
theorem isKey_gives (s : ByteArray) (w : World) (hs : s.size ≤ 9223372036854775807) : Calls Tryz.prog 57 #[.string s] w (Gives (.bool (keyB s)) w) :=
 (isKey_any s w hs).mono fun e w' ⟨h1, h2⟩ => ⟨h1, by subst h2; exact Below.refl _ _⟩

end Go.Proofs.YtnocceilpnmbpaaGreatDoor
