/- Calls and arrivals as values. -/
import Derived.Test.YtifflpilnpcmoaaGreatDoorList
namespace Go.Proofs.YtifflpilnpcmoaaGreatDoor
open Go.RowKit
def callAgg (o a f : Int) (s : List Skill) (a3 : Option Addr) (c3 : Nat) : Value := .agg #[.int .i64 o, .int .i64 a, .int .i64 f, .slice a3 s.length c3]
def arrAgg (p : ByteArray) (t k : Int) (r x : ByteArray) : Value := .agg #[.string p, .int .i64 t, .int .i64 k, .string r, .string x]
end Go.Proofs.YtifflpilnpcmoaaGreatDoor
