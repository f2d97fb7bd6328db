/- What the package variables hold. -/
import Derived.Test.YtnigceddndemkaaGreatDoorSTab
namespace Go.Proofs.YtnigceddndemkaaGreatDoor
open Go Go.Eng
def pow10L : List Int := [1, 10, 100, 1000, 10000, 100000, 1000000, 10000000, 100000000, 1000000000, 10000000000, 100000000000, 1000000000000, 10000000000000, 100000000000000, 1000000000000000, 10000000000000000, 100000000000000000, 1000000000000000000, 10000000000000000000]
def pow10V : List Value := pow10L.map (Value.int .u64)
def bru32L : List Int := [0, 1, 28, 2, 29, 14, 24, 3, 30, 22, 20, 15, 25, 17, 4, 8, 31, 27, 13, 23, 21, 19, 16, 7, 26, 12, 18, 6, 11, 5, 10, 9]
def bru32V : List Value := bru32L.map (Value.int .u8)
def bru64L : List Int := [0, 1, 56, 2, 57, 49, 28, 3, 61, 58, 42, 50, 38, 29, 17, 4, 62, 47, 59, 36, 45, 43, 51, 22, 53, 39, 33, 30, 24, 18, 12, 5, 63, 55, 48, 27, 60, 41, 37, 16, 46, 35, 44, 21, 52, 32, 23, 11, 54, 26, 40, 15, 34, 20, 31, 10, 25, 14, 19, 9, 13, 8, 7, 6]
def bru64V : List Value := bru64L.map (Value.int .u8)
def globW : List (Nat × List Value) := [(0, usesV), (1, pow10V), (3, bru32V), (4, bru64V)]
end Go.Proofs.YtnigceddndemkaaGreatDoor
