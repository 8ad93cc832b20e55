/-
  The library's sort of strings, laid over this program: its functions and types by their numbers here.
-/
import Derived.Test.YtlpcjiollnnmgabDoorProg
import Derived.Shelf.Sort.Plain
namespace Go.Proofs.YtlpcjiollnnmgabDoor
open Go.Proofs Go.Shelf
def sortRen : Ren where
  f := fun x => match x with
    | 190 => 18
    | 125 => 33
    | 258 => 32
    | 128 => 67
    | 129 => 68
    | 302 => 58
    | 303 => 59
    | 304 => 60
    | 305 => 61
    | 306 => 62
    | 307 => 63
    | 308 => 64
    | 309 => 65
    | 310 => 66
    | 333 => 78
    | 329 => 79
    | 330 => 80
    | 334 => 81
    | 335 => 82
    | 336 => 83
    | 344 => 87
    | n => n
  t := fun x => match x with
    | 31 => 25
    | 9 => 9
    | 3 => 3
    | 46 => 95
    | 0 => 0
    | 51 => 132
    | 53 => 79
    | 4 => 4
    | 183 => 124
    | 182 => 123
    | 131 => 129
    | 5 => 5
    | 218 => 146
    | 222 => 149
    | 228 => 155
    | 229 => 156
    | n => n
  g := fun n => n
theorem sortLaid : Lays.n190 Tryd.prog sortRen where
  mixed := Eq.refl true
  f125 := Eq.trans Tryd.func33 (congrArg some (Eq.refl (Body.n125 sortRen)))
  f128 := Eq.trans Tryd.func67 (congrArg some (Eq.refl (Body.n128 sortRen)))
  f129 := Eq.trans Tryd.func68 (congrArg some (Eq.refl (Body.n129 sortRen)))
  f190 := Eq.trans Tryd.func18 (congrArg some (Eq.refl (Body.n190 sortRen)))
  f258 := Eq.trans Tryd.func32 (congrArg some (Eq.refl (Body.n258 sortRen)))
  f302 := Eq.trans Tryd.func58 (congrArg some (Eq.refl (Body.n302 sortRen)))
  f303 := Eq.trans Tryd.func59 (congrArg some (Eq.refl (Body.n303 sortRen)))
  f304 := Eq.trans Tryd.func60 (congrArg some (Eq.refl (Body.n304 sortRen)))
  f305 := Eq.trans Tryd.func61 (congrArg some (Eq.refl (Body.n305 sortRen)))
  f306 := Eq.trans Tryd.func62 (congrArg some (Eq.refl (Body.n306 sortRen)))
  f307 := Eq.trans Tryd.func63 (congrArg some (Eq.refl (Body.n307 sortRen)))
  f308 := Eq.trans Tryd.func64 (congrArg some (Eq.refl (Body.n308 sortRen)))
  f309 := Eq.trans Tryd.func65 (congrArg some (Eq.refl (Body.n309 sortRen)))
  f310 := Eq.trans Tryd.func66 (congrArg some (Eq.refl (Body.n310 sortRen)))
  f329 := Eq.trans Tryd.func79 (congrArg some (Eq.refl (Body.n329 sortRen)))
  f330 := Eq.trans Tryd.func80 (congrArg some (Eq.refl (Body.n330 sortRen)))
  f333 := Eq.trans Tryd.func78 (congrArg some (Eq.refl (Body.n333 sortRen)))
  f334 := Eq.trans Tryd.func81 (congrArg some (Eq.refl (Body.n334 sortRen)))
  f335 := Eq.trans Tryd.func82 (congrArg some (Eq.refl (Body.n335 sortRen)))
  f336 := Eq.trans Tryd.func83 (congrArg some (Eq.refl (Body.n336 sortRen)))
  f344 := Eq.trans Tryd.func87 (congrArg some (Eq.refl (Body.n344 sortRen)))
  t0 := Tryd.underlying0
  a0 := Tryd.isAgg0
  z0 := Tryd.sizeOf0
  v0 := Tryd.zeroValue0
  t3 := Tryd.underlying3
  a3 := Tryd.isAgg3
  z3 := Tryd.sizeOf3
  v3 := Tryd.zeroValue3
  t4 := Tryd.underlying4
  a4 := Tryd.isAgg4
  z4 := Tryd.sizeOf4
  v4 := Tryd.zeroValue4
  t5 := Tryd.underlying5
  a5 := Tryd.isAgg5
  z5 := Tryd.sizeOf5
  v5 := Tryd.zeroValue5
  t9 := Tryd.underlying9
  a9 := Tryd.isAgg9
  z9 := Tryd.sizeOf9
  v9 := Tryd.zeroValue9
  t31 := Tryd.underlying25
  a31 := Tryd.isAgg25
  z31 := Tryd.sizeOf25
  v31 := Tryd.zeroValue25
  t46 := Tryd.underlying95
  a46 := Tryd.isAgg95
  z46 := Tryd.sizeOf95
  v46 := Tryd.zeroValue95
  t51 := Tryd.underlying132
  a51 := Tryd.isAgg132
  z51 := Tryd.sizeOf132
  v51 := Tryd.zeroValue132
  t53 := Tryd.underlying79
  a53 := Tryd.isAgg79
  z53 := Tryd.sizeOf79
  v53 := Tryd.zeroValue79
  t131 := Tryd.underlying129
  a131 := Tryd.isAgg129
  z131 := Tryd.sizeOf129
  v131 := Tryd.zeroValue129
  t182 := Tryd.underlying123
  a182 := Tryd.isAgg123
  z182 := Tryd.sizeOf123
  v182 := Tryd.zeroValue123
  t183 := Tryd.underlying124
  a183 := Tryd.isAgg124
  z183 := Tryd.sizeOf124
  v183 := Tryd.zeroValue124
  t218 := Tryd.underlying146
  a218 := Tryd.isAgg146
  z218 := Tryd.sizeOf146
  v218 := Tryd.zeroValue146
  t222 := Tryd.underlying149
  a222 := Tryd.isAgg149
  z222 := Tryd.sizeOf149
  v222 := Tryd.zeroValue149
  t228 := Tryd.underlying155
  a228 := Tryd.isAgg155
  z228 := Tryd.sizeOf155
  v228 := Tryd.zeroValue155
  t229 := Tryd.underlying156
  a229 := Tryd.isAgg156
  z229 := Tryd.sizeOf156
  v229 := Tryd.zeroValue156
theorem sort_calls (blk off cap : Nat) (ss : List (List UInt8)) (w : World) (hH : Sort.Holds encStr w blk off ss.toArray) (hblk : blk < w.heap.size) (hsz : ss.length < 4611686018427387904) :
    Calls Tryd.prog 18 #[.slice (some ⟨blk, off, none⟩) ss.length cap] w fun e w' =>
      e = .returned (.tuple #[]) ∧ ∃ n os, w' = Sort.grow (Sort.putRow encStr (Sort.ahead w n) blk off (ss.mergeSort fun x y => decide (x ≤ y)).toArray) os :=
  Any.slices_Sort_string sortLaid blk off cap ss w hH hblk hsz
end Go.Proofs.YtlpcjiollnnmgabDoor
