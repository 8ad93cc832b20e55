/-
  The library's sort of strings, laid over this program: its functions and types by their numbers here.
-/
import Derived.Test.YtlpcjiollnnmgabGreatDoorProg
import Derived.Shelf.Sort.Plain
namespace Go.Proofs.YtlpcjiollnnmgabGreatDoor
open Go.Proofs Go.Shelf
def sortRen : Ren where
  f := fun x => match x with
    | 190 => 85
    | 125 => 120
    | 258 => 119
    | 128 => 146
    | 129 => 147
    | 302 => 137
    | 303 => 138
    | 304 => 139
    | 305 => 140
    | 306 => 141
    | 307 => 142
    | 308 => 143
    | 309 => 144
    | 310 => 145
    | 333 => 154
    | 329 => 155
    | 330 => 156
    | 334 => 157
    | 335 => 158
    | 336 => 159
    | 344 => 161
    | n => n
  t := fun x => match x with
    | 31 => 28
    | 9 => 9
    | 3 => 3
    | 46 => 73
    | 0 => 0
    | 51 => 168
    | 53 => 26
    | 4 => 4
    | 183 => 198
    | 182 => 197
    | 131 => 158
    | 5 => 5
    | 218 => 212
    | 222 => 215
    | 228 => 217
    | 229 => 218
    | n => n
  g := fun n => n
theorem sortLaid : Lays.n190 Tryz.prog sortRen where
  mixed := Eq.refl true
  f125 := Eq.trans Tryz.func120 (congrArg some (Eq.refl (Body.n125 sortRen)))
  f128 := Eq.trans Tryz.func146 (congrArg some (Eq.refl (Body.n128 sortRen)))
  f129 := Eq.trans Tryz.func147 (congrArg some (Eq.refl (Body.n129 sortRen)))
  f190 := Eq.trans Tryz.func85 (congrArg some (Eq.refl (Body.n190 sortRen)))
  f258 := Eq.trans Tryz.func119 (congrArg some (Eq.refl (Body.n258 sortRen)))
  f302 := Eq.trans Tryz.func137 (congrArg some (Eq.refl (Body.n302 sortRen)))
  f303 := Eq.trans Tryz.func138 (congrArg some (Eq.refl (Body.n303 sortRen)))
  f304 := Eq.trans Tryz.func139 (congrArg some (Eq.refl (Body.n304 sortRen)))
  f305 := Eq.trans Tryz.func140 (congrArg some (Eq.refl (Body.n305 sortRen)))
  f306 := Eq.trans Tryz.func141 (congrArg some (Eq.refl (Body.n306 sortRen)))
  f307 := Eq.trans Tryz.func142 (congrArg some (Eq.refl (Body.n307 sortRen)))
  f308 := Eq.trans Tryz.func143 (congrArg some (Eq.refl (Body.n308 sortRen)))
  f309 := Eq.trans Tryz.func144 (congrArg some (Eq.refl (Body.n309 sortRen)))
  f310 := Eq.trans Tryz.func145 (congrArg some (Eq.refl (Body.n310 sortRen)))
  f329 := Eq.trans Tryz.func155 (congrArg some (Eq.refl (Body.n329 sortRen)))
  f330 := Eq.trans Tryz.func156 (congrArg some (Eq.refl (Body.n330 sortRen)))
  f333 := Eq.trans Tryz.func154 (congrArg some (Eq.refl (Body.n333 sortRen)))
  f334 := Eq.trans Tryz.func157 (congrArg some (Eq.refl (Body.n334 sortRen)))
  f335 := Eq.trans Tryz.func158 (congrArg some (Eq.refl (Body.n335 sortRen)))
  f336 := Eq.trans Tryz.func159 (congrArg some (Eq.refl (Body.n336 sortRen)))
  f344 := Eq.trans Tryz.func161 (congrArg some (Eq.refl (Body.n344 sortRen)))
  t0 := Tryz.underlying0
  a0 := Tryz.isAgg0
  z0 := Tryz.sizeOf0
  v0 := Tryz.zeroValue0
  t3 := Tryz.underlying3
  a3 := Tryz.isAgg3
  z3 := Tryz.sizeOf3
  v3 := Tryz.zeroValue3
  t4 := Tryz.underlying4
  a4 := Tryz.isAgg4
  z4 := Tryz.sizeOf4
  v4 := Tryz.zeroValue4
  t5 := Tryz.underlying5
  a5 := Tryz.isAgg5
  z5 := Tryz.sizeOf5
  v5 := Tryz.zeroValue5
  t9 := Tryz.underlying9
  a9 := Tryz.isAgg9
  z9 := Tryz.sizeOf9
  v9 := Tryz.zeroValue9
  t31 := Tryz.underlying28
  a31 := Tryz.isAgg28
  z31 := Tryz.sizeOf28
  v31 := Tryz.zeroValue28
  t46 := Tryz.underlying73
  a46 := Tryz.isAgg73
  z46 := Tryz.sizeOf73
  v46 := Tryz.zeroValue73
  t51 := Tryz.underlying168
  a51 := Tryz.isAgg168
  z51 := Tryz.sizeOf168
  v51 := Tryz.zeroValue168
  t53 := Tryz.underlying26
  a53 := Tryz.isAgg26
  z53 := Tryz.sizeOf26
  v53 := Tryz.zeroValue26
  t131 := Tryz.underlying158
  a131 := Tryz.isAgg158
  z131 := Tryz.sizeOf158
  v131 := Tryz.zeroValue158
  t182 := Tryz.underlying197
  a182 := Tryz.isAgg197
  z182 := Tryz.sizeOf197
  v182 := Tryz.zeroValue197
  t183 := Tryz.underlying198
  a183 := Tryz.isAgg198
  z183 := Tryz.sizeOf198
  v183 := Tryz.zeroValue198
  t218 := Tryz.underlying212
  a218 := Tryz.isAgg212
  z218 := Tryz.sizeOf212
  v218 := Tryz.zeroValue212
  t222 := Tryz.underlying215
  a222 := Tryz.isAgg215
  z222 := Tryz.sizeOf215
  v222 := Tryz.zeroValue215
  t228 := Tryz.underlying217
  a228 := Tryz.isAgg217
  z228 := Tryz.sizeOf217
  v228 := Tryz.zeroValue217
  t229 := Tryz.underlying218
  a229 := Tryz.isAgg218
  z229 := Tryz.sizeOf218
  v229 := Tryz.zeroValue218
theorem sort_calls (blk off cap : Nat) (ss : List (List UInt8)) (w : World) (hH : Sort.Holds encStr w blk off ss.toArray) (hblk : blk < w.heap.size) (hsz : ss.length < 4611686018427387904) :
    Calls Tryz.prog 85 #[.slice (some ⟨blk, off, none⟩) ss.length cap] w fun e w' =>
      e = .returned (.tuple #[]) ∧ ∃ n os, w' = Sort.grow (Sort.putRow encStr (Sort.ahead w n) blk off (ss.mergeSort fun x y => decide (x ≤ y)).toArray) os :=
  Any.slices_Sort_string sortLaid blk off cap ss w hH hblk hsz
end Go.Proofs.YtlpcjiollnnmgabGreatDoor
