/- The tables of the seat's program. -/
import Derived.Test.YtopigdkgjobdiaaPAh
import Derived.KernelRfl
import Derived.Test.YtopigdkgjobdiaaProg
set_option linter.unusedVariables false
set_option linter.unusedSimpArgs false
namespace Go.PA
open Go.Proofs
theorem tSlice3 : tSlice Try.prog 3 = none := by kernel_rfl
theorem tArr3 : tArr Try.prog 3 = none := by kernel_rfl
theorem tAgg3 : tAgg Try.prog 3 = some (false) := by kernel_rfl
theorem tSize3 : tSize Try.prog 3 = some (1) := by kernel_rfl
theorem tInt3 : tInt Try.prog 3 = some (.i64) := by kernel_rfl
theorem tBytes3 : tBytes Try.prog 3 = some (8) := by kernel_rfl
theorem tKind3 : tKind Try.prog 3 = .int .i64 := by kernel_rfl
theorem tZero3 : tZero Try.prog 3 = some (.v (.int .i64 0)) := by kernel_rfl
theorem tSlice4 : tSlice Try.prog 4 = none := by kernel_rfl
theorem tArr4 : tArr Try.prog 4 = none := by kernel_rfl
theorem tAgg4 : tAgg Try.prog 4 = some (false) := by kernel_rfl
theorem tSize4 : tSize Try.prog 4 = some (1) := by kernel_rfl
theorem tInt4 : tInt Try.prog 4 = none := by kernel_rfl
theorem tBytes4 : tBytes Try.prog 4 = some (1) := by kernel_rfl
theorem tKind4 : tKind Try.prog 4 = .bool := by kernel_rfl
theorem tZero4 : tZero Try.prog 4 = some (.v (.bool false)) := by kernel_rfl
theorem tSlice5 : tSlice Try.prog 5 = none := by kernel_rfl
theorem tArr5 : tArr Try.prog 5 = none := by kernel_rfl
theorem tAgg5 : tAgg Try.prog 5 = some (false) := by kernel_rfl
theorem tSize5 : tSize Try.prog 5 = some (1) := by kernel_rfl
theorem tInt5 : tInt Try.prog 5 = some (.u8) := by kernel_rfl
theorem tBytes5 : tBytes Try.prog 5 = some (1) := by kernel_rfl
theorem tKind5 : tKind Try.prog 5 = .int .u8 := by kernel_rfl
theorem tZero5 : tZero Try.prog 5 = some (.v (.int .u8 0)) := by kernel_rfl
theorem tSlice23 : tSlice Try.prog 23 = none := by kernel_rfl
theorem tArr23 : tArr Try.prog 23 = none := by kernel_rfl
theorem tAgg23 : tAgg Try.prog 23 = some (true) := by kernel_rfl
theorem tSize23 : tSize Try.prog 23 = some (3) := by kernel_rfl
theorem tInt23 : tInt Try.prog 23 = none := by kernel_rfl
theorem tBytes23 : tBytes Try.prog 23 = some (24) := by kernel_rfl
theorem tKind23 : tKind Try.prog 23 = .other := by kernel_rfl
theorem tZero23 : tZero Try.prog 23 = some (.agg [.v (.int .i64 0), .v (.int .i64 0), .v (.int .i64 0)]) := by kernel_rfl
theorem eqT23 : eqT Try.prog 8 23 = some (.agg (.cons 0 1 false (.int .i64) (.cons 1 1 false (.int .i64) (.cons 2 1 false (.int .i64) (.nil))))) := by kernel_rfl
theorem wideKey23 : wideKey Try.prog 23 = true := by kernel_rfl
theorem eqG23 : Try.prog.eqGuardType Try.prog.depth 23 = false := by kernel_rfl
theorem tFld23_0 : tFld Try.prog 23 0 = some (0, 3, 1) := by kernel_rfl
theorem tFld23_1 : tFld Try.prog 23 1 = some (1, 3, 1) := by kernel_rfl
theorem tFld23_2 : tFld Try.prog 23 2 = some (2, 3, 1) := by kernel_rfl
theorem tPlaces23 : tPlaces Try.prog 23 = some ([(0, 1), (1, 1), (2, 1)]) := by kernel_rfl
theorem tSlice25 : tSlice Try.prog 25 = none := by kernel_rfl
theorem tArr25 : tArr Try.prog 25 = some (32, 5, 1) := by kernel_rfl
theorem tAgg25 : tAgg Try.prog 25 = some (true) := by kernel_rfl
theorem tSize25 : tSize Try.prog 25 = some (32) := by kernel_rfl
theorem tInt25 : tInt Try.prog 25 = none := by kernel_rfl
theorem tBytes25 : tBytes Try.prog 25 = some (32) := by kernel_rfl
theorem tKind25 : tKind Try.prog 25 = .other := by kernel_rfl
theorem tZero25 : tZero Try.prog 25 = some (.arr 32 (bA (List.replicate 32 0))) := by kernel_rfl
theorem eqT25 : eqT Try.prog 8 25 = some (.ints 32 .u8) := by kernel_rfl
theorem wideKey25 : wideKey Try.prog 25 = true := by kernel_rfl
theorem eqG25 : Try.prog.eqGuardType Try.prog.depth 25 = false := by kernel_rfl
theorem tSlice27 : tSlice Try.prog 27 = none := by kernel_rfl
theorem tArr27 : tArr Try.prog 27 = none := by kernel_rfl
theorem tAgg27 : tAgg Try.prog 27 = some (true) := by kernel_rfl
theorem tSize27 : tSize Try.prog 27 = some (64) := by kernel_rfl
theorem tInt27 : tInt Try.prog 27 = none := by kernel_rfl
theorem tBytes27 : tBytes Try.prog 27 = some (64) := by kernel_rfl
theorem tKind27 : tKind Try.prog 27 = .other := by kernel_rfl
theorem tZero27 : tZero Try.prog 27 = some (.agg [.arr 32 (bA (List.replicate 32 0)), .arr 32 (bA (List.replicate 32 0))]) := by kernel_rfl
theorem eqT27 : eqT Try.prog 8 27 = some (.agg (.cons 0 32 true (.ints 32 .u8) (.cons 32 32 true (.ints 32 .u8) (.nil)))) := by kernel_rfl
theorem wideKey27 : wideKey Try.prog 27 = true := by kernel_rfl
theorem eqG27 : Try.prog.eqGuardType Try.prog.depth 27 = false := by kernel_rfl
theorem tFld27_0 : tFld Try.prog 27 0 = some (0, 25, 32) := by kernel_rfl
theorem tFld27_1 : tFld Try.prog 27 1 = some (32, 25, 32) := by kernel_rfl
theorem tPlaces27 : tPlaces Try.prog 27 = some ([(0, 32), (32, 32)]) := by kernel_rfl
theorem tSlice28 : tSlice Try.prog 28 = none := by kernel_rfl
theorem tArr28 : tArr Try.prog 28 = none := by kernel_rfl
theorem tAgg28 : tAgg Try.prog 28 = some (false) := by kernel_rfl
theorem tSize28 : tSize Try.prog 28 = some (1) := by kernel_rfl
theorem tInt28 : tInt Try.prog 28 = some (.u32) := by kernel_rfl
theorem tBytes28 : tBytes Try.prog 28 = some (4) := by kernel_rfl
theorem tKind28 : tKind Try.prog 28 = .int .u32 := by kernel_rfl
theorem tZero28 : tZero Try.prog 28 = some (.v (.int .u32 0)) := by kernel_rfl
theorem tSlice29 : tSlice Try.prog 29 = some (40, 65) := by kernel_rfl
theorem tArr29 : tArr Try.prog 29 = none := by kernel_rfl
theorem tAgg29 : tAgg Try.prog 29 = some (false) := by kernel_rfl
theorem tSize29 : tSize Try.prog 29 = some (1) := by kernel_rfl
theorem tInt29 : tInt Try.prog 29 = none := by kernel_rfl
theorem tBytes29 : tBytes Try.prog 29 = some (24) := by kernel_rfl
theorem tKind29 : tKind Try.prog 29 = .other := by kernel_rfl
theorem tZero29 : tZero Try.prog 29 = some (.osl 65 []) := by kernel_rfl
theorem tSlice31 : tSlice Try.prog 31 = none := by kernel_rfl
theorem tArr31 : tArr Try.prog 31 = none := by kernel_rfl
theorem tAgg31 : tAgg Try.prog 31 = some (true) := by kernel_rfl
theorem tSize31 : tSize Try.prog 31 = some (332) := by kernel_rfl
theorem tInt31 : tInt Try.prog 31 = none := by kernel_rfl
theorem tBytes31 : tBytes Try.prog 31 = some (392) := by kernel_rfl
theorem tKind31 : tKind Try.prog 31 = .other := by kernel_rfl
theorem tZero31 : tZero Try.prog 31 = some (.agg [.agg [.v (.int .i64 0), .v (.int .i64 0), .v (.int .i64 0)], .arr 32 (bA (List.replicate 32 0)), .agg [.arr 32 (bA (List.replicate 32 0)), .arr 32 
  (bA (List.replicate 32 0))], .arr 32 (bA (List.replicate 32 0)), .v (.bool false), .v (.bool false), .v (.bool false), .arr 32 (bA (List.replicate 32 0)), .arr 32 (bA (List.replicate 32 0)), .arr 32 
  (bA (List.replicate 32 0)), .v (.int .u32 0), .v (.int .u32 0), .v (.bool false), .arr 32 (bA (List.replicate 32 0)), .arr 32 (bA (List.replicate 32 0)), .arr 32 (bA (List.replicate 32 0)), .v (.int 
  .u32 0), .v (.bool false), .osl 65 []]) := by kernel_rfl
theorem tFld31_0 : tFld Try.prog 31 0 = some (0, 23, 3) := by kernel_rfl
theorem tFld31_1 : tFld Try.prog 31 1 = some (3, 25, 32) := by kernel_rfl
theorem tFld31_2 : tFld Try.prog 31 2 = some (35, 27, 64) := by kernel_rfl
theorem tFld31_3 : tFld Try.prog 31 3 = some (99, 25, 32) := by kernel_rfl
theorem tFld31_4 : tFld Try.prog 31 4 = some (131, 4, 1) := by kernel_rfl
theorem tFld31_5 : tFld Try.prog 31 5 = some (132, 4, 1) := by kernel_rfl
theorem tFld31_6 : tFld Try.prog 31 6 = some (133, 4, 1) := by kernel_rfl
theorem tFld31_7 : tFld Try.prog 31 7 = some (134, 25, 32) := by kernel_rfl
theorem tFld31_8 : tFld Try.prog 31 8 = some (166, 25, 32) := by kernel_rfl
theorem tFld31_9 : tFld Try.prog 31 9 = some (198, 25, 32) := by kernel_rfl
theorem tFld31_10 : tFld Try.prog 31 10 = some (230, 28, 1) := by kernel_rfl
theorem tFld31_11 : tFld Try.prog 31 11 = some (231, 28, 1) := by kernel_rfl
theorem tFld31_12 : tFld Try.prog 31 12 = some (232, 4, 1) := by kernel_rfl
theorem tFld31_13 : tFld Try.prog 31 13 = some (233, 25, 32) := by kernel_rfl
theorem tFld31_14 : tFld Try.prog 31 14 = some (265, 25, 32) := by kernel_rfl
theorem tFld31_15 : tFld Try.prog 31 15 = some (297, 25, 32) := by kernel_rfl
theorem tFld31_16 : tFld Try.prog 31 16 = some (329, 28, 1) := by kernel_rfl
theorem tFld31_17 : tFld Try.prog 31 17 = some (330, 4, 1) := by kernel_rfl
theorem tFld31_18 : tFld Try.prog 31 18 = some (331, 29, 1) := by kernel_rfl
theorem tPlaces31 : tPlaces Try.prog 31 = some ([(0, 3), (3, 32), (35, 64), (99, 32), (131, 1), (132, 1), (133, 1), (134, 32), (166, 32), (198, 32), (230, 1), (231, 1), (232, 1), (233, 32), (265, 
  32), (297, 32), (329, 1), (330, 1), (331, 1)]) := by kernel_rfl
theorem tSlice33 : tSlice Try.prog 33 = none := by kernel_rfl
theorem tArr33 : tArr Try.prog 33 = none := by kernel_rfl
theorem tAgg33 : tAgg Try.prog 33 = some (false) := by kernel_rfl
theorem tSize33 : tSize Try.prog 33 = some (1) := by kernel_rfl
theorem tInt33 : tInt Try.prog 33 = some (.i64) := by kernel_rfl
theorem tBytes33 : tBytes Try.prog 33 = some (8) := by kernel_rfl
theorem tKind33 : tKind Try.prog 33 = .int .i64 := by kernel_rfl
theorem tZero33 : tZero Try.prog 33 = some (.v (.int .i64 0)) := by kernel_rfl
theorem tSlice35 : tSlice Try.prog 35 = none := by kernel_rfl
theorem tArr35 : tArr Try.prog 35 = none := by kernel_rfl
theorem tAgg35 : tAgg Try.prog 35 = some (false) := by kernel_rfl
theorem tSize35 : tSize Try.prog 35 = some (1) := by kernel_rfl
theorem tInt35 : tInt Try.prog 35 = none := by kernel_rfl
theorem tBytes35 : tBytes Try.prog 35 = some (8) := by kernel_rfl
theorem tKind35 : tKind Try.prog 35 = .other := by kernel_rfl
theorem tZero35 : tZero Try.prog 35 = some (.v (.pointer none)) := by kernel_rfl
theorem tPtr35 : tPtr Try.prog 35 = true := by kernel_rfl
theorem tSlice40 : tSlice Try.prog 40 = none := by kernel_rfl
theorem tArr40 : tArr Try.prog 40 = none := by kernel_rfl
theorem tAgg40 : tAgg Try.prog 40 = some (true) := by kernel_rfl
theorem tSize40 : tSize Try.prog 40 = some (65) := by kernel_rfl
theorem tInt40 : tInt Try.prog 40 = none := by kernel_rfl
theorem tBytes40 : tBytes Try.prog 40 = some (68) := by kernel_rfl
theorem tKind40 : tKind Try.prog 40 = .other := by kernel_rfl
theorem tZero40 : tZero Try.prog 40 = some (.agg [.arr 32 (bA (List.replicate 32 0)), .v (.int .u32 0), .arr 32 (bA (List.replicate 32 0))]) := by kernel_rfl
theorem eqT40 : eqT Try.prog 8 40 = some (.agg (.cons 0 32 true (.ints 32 .u8) (.cons 32 1 false (.int .u32) (.cons 33 32 true (.ints 32 .u8) (.nil))))) := by kernel_rfl
theorem wideKey40 : wideKey Try.prog 40 = true := by kernel_rfl
theorem eqG40 : Try.prog.eqGuardType Try.prog.depth 40 = false := by kernel_rfl
theorem tFld40_0 : tFld Try.prog 40 0 = some (0, 25, 32) := by kernel_rfl
theorem tFld40_1 : tFld Try.prog 40 1 = some (32, 28, 1) := by kernel_rfl
theorem tFld40_2 : tFld Try.prog 40 2 = some (33, 25, 32) := by kernel_rfl
theorem tPlaces40 : tPlaces Try.prog 40 = some ([(0, 32), (32, 1), (33, 32)]) := by kernel_rfl
theorem tSlice44 : tSlice Try.prog 44 = none := by kernel_rfl
theorem tArr44 : tArr Try.prog 44 = none := by kernel_rfl
theorem tAgg44 : tAgg Try.prog 44 = some (true) := by kernel_rfl
theorem tSize44 : tSize Try.prog 44 = some (198) := by kernel_rfl
theorem tInt44 : tInt Try.prog 44 = none := by kernel_rfl
theorem tBytes44 : tBytes Try.prog 44 = some (240) := by kernel_rfl
theorem tKind44 : tKind Try.prog 44 = .other := by kernel_rfl
theorem tZero44 : tZero Try.prog 44 = some (.agg [.arr 32 (bA (List.replicate 32 0)), .arr 32 (bA (List.replicate 32 0)), .arr 32 (bA (List.replicate 32 0)), .agg [.arr 32 (bA (List.replicate 32 0)), 
  .arr 32 (bA (List.replicate 32 0))], .arr 32 (bA (List.replicate 32 0)), .agg [.v (.int .i64 0), .v (.int .i64 0), .v (.int .i64 0)], .agg [.v (.int .i64 0), .v (.int .i64 0), .v (.int .i64 0)]]) := 
  by kernel_rfl
theorem eqT44 : eqT Try.prog 8 44 = some (.agg (.cons 0 32 true (.ints 32 .u8) (.cons 32 32 true (.ints 32 .u8) (.cons 64 32 true (.ints 32 .u8) (.cons 96 64 true (.agg (.cons 0 32 true (.ints 32 
  .u8) (.cons 32 32 true (.ints 32 .u8) (.nil)))) (.cons 160 32 true (.ints 32 .u8) (.cons 192 3 true (.agg (.cons 0 1 false (.int .i64) (.cons 1 1 false (.int .i64) (.cons 2 1 false (.int .i64) 
  (.nil))))) (.cons 195 3 true (.agg (.cons 0 1 false (.int .i64) (.cons 1 1 false (.int .i64) (.cons 2 1 false (.int .i64) (.nil))))) (.nil))))))))) := by kernel_rfl
theorem wideKey44 : wideKey Try.prog 44 = true := by kernel_rfl
theorem eqG44 : Try.prog.eqGuardType Try.prog.depth 44 = false := by kernel_rfl
theorem tFld44_0 : tFld Try.prog 44 0 = some (0, 25, 32) := by kernel_rfl
theorem tFld44_1 : tFld Try.prog 44 1 = some (32, 25, 32) := by kernel_rfl
theorem tFld44_2 : tFld Try.prog 44 2 = some (64, 25, 32) := by kernel_rfl
theorem tFld44_3 : tFld Try.prog 44 3 = some (96, 27, 64) := by kernel_rfl
theorem tFld44_4 : tFld Try.prog 44 4 = some (160, 25, 32) := by kernel_rfl
theorem tFld44_5 : tFld Try.prog 44 5 = some (192, 23, 3) := by kernel_rfl
theorem tFld44_6 : tFld Try.prog 44 6 = some (195, 23, 3) := by kernel_rfl
theorem tPlaces44 : tPlaces Try.prog 44 = some ([(0, 32), (32, 32), (64, 32), (96, 64), (160, 32), (192, 3), (195, 3)]) := by kernel_rfl
theorem tSlice45 : tSlice Try.prog 45 = none := by kernel_rfl
theorem tArr45 : tArr Try.prog 45 = none := by kernel_rfl
theorem tAgg45 : tAgg Try.prog 45 = some (false) := by kernel_rfl
theorem tSize45 : tSize Try.prog 45 = some (1) := by kernel_rfl
theorem tInt45 : tInt Try.prog 45 = none := by kernel_rfl
theorem tBytes45 : tBytes Try.prog 45 = some (8) := by kernel_rfl
theorem tKind45 : tKind Try.prog 45 = .other := by kernel_rfl
theorem tZero45 : tZero Try.prog 45 = some (.v (.pointer none)) := by kernel_rfl
theorem tPtr45 : tPtr Try.prog 45 = true := by kernel_rfl
theorem tSlice48 : tSlice Try.prog 48 = none := by kernel_rfl
theorem tArr48 : tArr Try.prog 48 = some (2, 35, 1) := by kernel_rfl
theorem tAgg48 : tAgg Try.prog 48 = some (true) := by kernel_rfl
theorem tSize48 : tSize Try.prog 48 = some (2) := by kernel_rfl
theorem tInt48 : tInt Try.prog 48 = none := by kernel_rfl
theorem tBytes48 : tBytes Try.prog 48 = some (16) := by kernel_rfl
theorem tKind48 : tKind Try.prog 48 = .other := by kernel_rfl
theorem tZero48 : tZero Try.prog 48 = some (.arr 2 [.v (.pointer none), .v (.pointer none)]) := by kernel_rfl
theorem tSlice49 : tSlice Try.prog 49 = none := by kernel_rfl
theorem tArr49 : tArr Try.prog 49 = some (2, 31, 332) := by kernel_rfl
theorem tAgg49 : tAgg Try.prog 49 = some (true) := by kernel_rfl
theorem tSize49 : tSize Try.prog 49 = some (664) := by kernel_rfl
theorem tInt49 : tInt Try.prog 49 = none := by kernel_rfl
theorem tBytes49 : tBytes Try.prog 49 = some (784) := by kernel_rfl
theorem tKind49 : tKind Try.prog 49 = .other := by kernel_rfl
theorem tZero49 : tZero Try.prog 49 = some (.arr 664 [.agg [.agg [.v (.int .i64 0), .v (.int .i64 0), .v (.int .i64 0)], .arr 32 (bA (List.replicate 32 0)), .agg [.arr 32 (bA (List.replicate 32 0)), 
  .arr 32 (bA (List.replicate 32 0))], .arr 32 (bA (List.replicate 32 0)), .v (.bool false), .v (.bool false), .v (.bool false), .arr 32 (bA (List.replicate 32 0)), .arr 32 (bA (List.replicate 32 0)), 
  .arr 32 (bA (List.replicate 32 0)), .v (.int .u32 0), .v (.int .u32 0), .v (.bool false), .arr 32 (bA (List.replicate 32 0)), .arr 32 (bA (List.replicate 32 0)), .arr 32 (bA (List.replicate 32 0)), 
  .v (.int .u32 0), .v (.bool false), .sl true []], .agg [.agg [.v (.int .i64 0), .v (.int .i64 0), .v (.int .i64 0)], .arr 32 (bA (List.replicate 32 0)), .agg [.arr 32 (bA (List.replicate 32 0)), .arr 
  32 (bA (List.replicate 32 0))], .arr 32 (bA (List.replicate 32 0)), .v (.bool false), .v (.bool false), .v (.bool false), .arr 32 (bA (List.replicate 32 0)), .arr 32 (bA (List.replicate 32 0)), .arr 
  32 (bA (List.replicate 32 0)), .v (.int .u32 0), .v (.int .u32 0), .v (.bool false), .arr 32 (bA (List.replicate 32 0)), .arr 32 (bA (List.replicate 32 0)), .arr 32 (bA (List.replicate 32 0)), .v 
  (.int .u32 0), .v (.bool false), .sl true []]]) := by kernel_rfl
theorem tSlice50 : tSlice Try.prog 50 = some (167, 54) := by kernel_rfl
theorem tArr50 : tArr Try.prog 50 = none := by kernel_rfl
theorem tAgg50 : tAgg Try.prog 50 = some (false) := by kernel_rfl
theorem tSize50 : tSize Try.prog 50 = some (1) := by kernel_rfl
theorem tInt50 : tInt Try.prog 50 = none := by kernel_rfl
theorem tBytes50 : tBytes Try.prog 50 = some (24) := by kernel_rfl
theorem tKind50 : tKind Try.prog 50 = .other := by kernel_rfl
theorem tZero50 : tZero Try.prog 50 = some (.osl 54 []) := by kernel_rfl
theorem tSlice52 : tSlice Try.prog 52 = none := by kernel_rfl
theorem tArr52 : tArr Try.prog 52 = none := by kernel_rfl
theorem tAgg52 : tAgg Try.prog 52 = some (true) := by kernel_rfl
theorem tSize52 : tSize Try.prog 52 = some (668) := by kernel_rfl
theorem tInt52 : tInt Try.prog 52 = none := by kernel_rfl
theorem tBytes52 : tBytes Try.prog 52 = some (832) := by kernel_rfl
theorem tKind52 : tKind Try.prog 52 = .other := by kernel_rfl
theorem tZero52 : tZero Try.prog 52 = some (.agg [.arr 2 [.v (.pointer none), .v (.pointer none)], .arr 664 [.agg [.agg [.v (.int .i64 0), .v (.int .i64 0), .v (.int .i64 0)], .arr 32 (bA 
  (List.replicate 32 0)), .agg [.arr 32 (bA (List.replicate 32 0)), .arr 32 (bA (List.replicate 32 0))], .arr 32 (bA (List.replicate 32 0)), .v (.bool false), .v (.bool false), .v (.bool false), .arr 
  32 (bA (List.replicate 32 0)), .arr 32 (bA (List.replicate 32 0)), .arr 32 (bA (List.replicate 32 0)), .v (.int .u32 0), .v (.int .u32 0), .v (.bool false), .arr 32 (bA (List.replicate 32 0)), .arr 
  32 (bA (List.replicate 32 0)), .arr 32 (bA (List.replicate 32 0)), .v (.int .u32 0), .v (.bool false), .sl true []], .agg [.agg [.v (.int .i64 0), .v (.int .i64 0), .v (.int .i64 0)], .arr 32 (bA 
  (List.replicate 32 0)), .agg [.arr 32 (bA (List.replicate 32 0)), .arr 32 (bA (List.replicate 32 0))], .arr 32 (bA (List.replicate 32 0)), .v (.bool false), .v (.bool false), .v (.bool false), .arr 
  32 (bA (List.replicate 32 0)), .arr 32 (bA (List.replicate 32 0)), .arr 32 (bA (List.replicate 32 0)), .v (.int .u32 0), .v (.int .u32 0), .v (.bool false), .arr 32 (bA (List.replicate 32 0)), .arr 
  32 (bA (List.replicate 32 0)), .arr 32 (bA (List.replicate 32 0)), .v (.int .u32 0), .v (.bool false), .sl true []]], .osl 54 [], .v (.bool false)]) := by kernel_rfl
theorem tFld52_0 : tFld Try.prog 52 0 = some (0, 48, 2) := by kernel_rfl
theorem tFld52_1 : tFld Try.prog 52 1 = some (2, 49, 664) := by kernel_rfl
theorem tFld52_2 : tFld Try.prog 52 2 = some (666, 50, 1) := by kernel_rfl
theorem tFld52_3 : tFld Try.prog 52 3 = some (667, 4, 1) := by kernel_rfl
theorem tPlaces52 : tPlaces Try.prog 52 = some ([(0, 2), (2, 664), (666, 1), (667, 1)]) := by kernel_rfl
theorem tSlice57 : tSlice Try.prog 57 = none := by kernel_rfl
theorem tArr57 : tArr Try.prog 57 = none := by kernel_rfl
theorem tAgg57 : tAgg Try.prog 57 = some (false) := by kernel_rfl
theorem tSize57 : tSize Try.prog 57 = some (1) := by kernel_rfl
theorem tInt57 : tInt Try.prog 57 = none := by kernel_rfl
theorem tBytes57 : tBytes Try.prog 57 = some (8) := by kernel_rfl
theorem tKind57 : tKind Try.prog 57 = .other := by kernel_rfl
theorem tZero57 : tZero Try.prog 57 = some (.v (.pointer none)) := by kernel_rfl
theorem tPtr57 : tPtr Try.prog 57 = true := by kernel_rfl
theorem tSlice60 : tSlice Try.prog 60 = none := by kernel_rfl
theorem tArr60 : tArr Try.prog 60 = none := by kernel_rfl
theorem tAgg60 : tAgg Try.prog 60 = some (false) := by kernel_rfl
theorem tSize60 : tSize Try.prog 60 = some (1) := by kernel_rfl
theorem tInt60 : tInt Try.prog 60 = none := by kernel_rfl
theorem tBytes60 : tBytes Try.prog 60 = some (8) := by kernel_rfl
theorem tKind60 : tKind Try.prog 60 = .other := by kernel_rfl
theorem tZero60 : tZero Try.prog 60 = some (.v (.pointer none)) := by kernel_rfl
theorem tPtr60 : tPtr Try.prog 60 = true := by kernel_rfl
theorem tSlice62 : tSlice Try.prog 62 = none := by kernel_rfl
theorem tArr62 : tArr Try.prog 62 = none := by kernel_rfl
theorem tAgg62 : tAgg Try.prog 62 = some (true) := by kernel_rfl
theorem tSize62 : tSize Try.prog 62 = some (33) := by kernel_rfl
theorem tInt62 : tInt Try.prog 62 = none := by kernel_rfl
theorem tBytes62 : tBytes Try.prog 62 = some (40) := by kernel_rfl
theorem tKind62 : tKind Try.prog 62 = .other := by kernel_rfl
theorem tZero62 : tZero Try.prog 62 = some (.agg [.v (.pointer none), .arr 32 (bA (List.replicate 32 0))]) := by kernel_rfl
theorem tFld62_0 : tFld Try.prog 62 0 = some (0, 60, 1) := by kernel_rfl
theorem tFld62_1 : tFld Try.prog 62 1 = some (1, 25, 32) := by kernel_rfl
theorem tPlaces62 : tPlaces Try.prog 62 = some ([(0, 1), (1, 32)]) := by kernel_rfl
theorem tSlice65 : tSlice Try.prog 65 = none := by kernel_rfl
theorem tArr65 : tArr Try.prog 65 = none := by kernel_rfl
theorem tAgg65 : tAgg Try.prog 65 = some (true) := by kernel_rfl
theorem tSize65 : tSize Try.prog 65 = some (265) := by kernel_rfl
theorem tInt65 : tInt Try.prog 65 = none := by kernel_rfl
theorem tBytes65 : tBytes Try.prog 65 = some (312) := by kernel_rfl
theorem tKind65 : tKind Try.prog 65 = .other := by kernel_rfl
theorem tZero65 : tZero Try.prog 65 = some (.agg [.agg [.v (.int .i64 0), .v (.int .i64 0), .v (.int .i64 0)], .arr 32 (bA (List.replicate 32 0)), .agg [.arr 32 (bA (List.replicate 32 0)), .arr 32 
  (bA (List.replicate 32 0))], .arr 32 (bA (List.replicate 32 0)), .v (.bool false), .v (.bool false), .v (.bool false), .agg [.v (.pointer none), .arr 32 (bA (List.replicate 32 0))], .agg [.v 
  (.pointer none), .arr 32 (bA (List.replicate 32 0))], .arr 32 (bA (List.replicate 32 0)), .arr 32 (bA (List.replicate 32 0)), .v (.int .u32 0)]) := by kernel_rfl
theorem tFld65_0 : tFld Try.prog 65 0 = some (0, 23, 3) := by kernel_rfl
theorem tFld65_1 : tFld Try.prog 65 1 = some (3, 25, 32) := by kernel_rfl
theorem tFld65_2 : tFld Try.prog 65 2 = some (35, 27, 64) := by kernel_rfl
theorem tFld65_3 : tFld Try.prog 65 3 = some (99, 25, 32) := by kernel_rfl
theorem tFld65_4 : tFld Try.prog 65 4 = some (131, 4, 1) := by kernel_rfl
theorem tFld65_5 : tFld Try.prog 65 5 = some (132, 4, 1) := by kernel_rfl
theorem tFld65_6 : tFld Try.prog 65 6 = some (133, 4, 1) := by kernel_rfl
theorem tFld65_7 : tFld Try.prog 65 7 = some (134, 62, 33) := by kernel_rfl
theorem tFld65_8 : tFld Try.prog 65 8 = some (167, 62, 33) := by kernel_rfl
theorem tFld65_9 : tFld Try.prog 65 9 = some (200, 25, 32) := by kernel_rfl
theorem tFld65_10 : tFld Try.prog 65 10 = some (232, 25, 32) := by kernel_rfl
theorem tFld65_11 : tFld Try.prog 65 11 = some (264, 28, 1) := by kernel_rfl
theorem tPlaces65 : tPlaces Try.prog 65 = some ([(0, 3), (3, 32), (35, 64), (99, 32), (131, 1), (132, 1), (133, 1), (134, 33), (167, 33), (200, 32), (232, 32), (264, 1)]) := by kernel_rfl
theorem tSlice67 : tSlice Try.prog 67 = none := by kernel_rfl
theorem tArr67 : tArr Try.prog 67 = none := by kernel_rfl
theorem tAgg67 : tAgg Try.prog 67 = some (true) := by kernel_rfl
theorem tSize67 : tSize Try.prog 67 = some (266) := by kernel_rfl
theorem tInt67 : tInt Try.prog 67 = none := by kernel_rfl
theorem tBytes67 : tBytes Try.prog 67 = some (320) := by kernel_rfl
theorem tKind67 : tKind Try.prog 67 = .other := by kernel_rfl
theorem tZero67 : tZero Try.prog 67 = some (.agg [.agg [.agg [.v (.int .i64 0), .v (.int .i64 0), .v (.int .i64 0)], .arr 32 (bA (List.replicate 32 0)), .agg [.arr 32 (bA (List.replicate 32 0)), .arr 
  32 (bA (List.replicate 32 0))], .arr 32 (bA (List.replicate 32 0)), .v (.bool false), .v (.bool false), .v (.bool false), .agg [.v (.pointer none), .arr 32 (bA (List.replicate 32 0))], .agg [.v 
  (.pointer none), .arr 32 (bA (List.replicate 32 0))], .arr 32 (bA (List.replicate 32 0)), .arr 32 (bA (List.replicate 32 0)), .v (.int .u32 0)], .v (.pointer none)]) := by kernel_rfl
theorem tFld67_0 : tFld Try.prog 67 0 = some (0, 65, 265) := by kernel_rfl
theorem tFld67_1 : tFld Try.prog 67 1 = some (265, 57, 1) := by kernel_rfl
theorem tPlaces67 : tPlaces Try.prog 67 = some ([(0, 265), (265, 1)]) := by kernel_rfl
theorem tSlice81 : tSlice Try.prog 81 = none := by kernel_rfl
theorem tArr81 : tArr Try.prog 81 = none := by kernel_rfl
theorem tAgg81 : tAgg Try.prog 81 = some (false) := by kernel_rfl
theorem tSize81 : tSize Try.prog 81 = some (1) := by kernel_rfl
theorem tInt81 : tInt Try.prog 81 = none := by kernel_rfl
theorem tBytes81 : tBytes Try.prog 81 = some (8) := by kernel_rfl
theorem tKind81 : tKind Try.prog 81 = .other := by kernel_rfl
theorem tZero81 : tZero Try.prog 81 = some (.v (.map none)) := by kernel_rfl
theorem tMap81 : tMap Try.prog 81 = some (86, 25) := by kernel_rfl
theorem tSlice82 : tSlice Try.prog 82 = some (86, 33) := by kernel_rfl
theorem tArr82 : tArr Try.prog 82 = none := by kernel_rfl
theorem tAgg82 : tAgg Try.prog 82 = some (false) := by kernel_rfl
theorem tSize82 : tSize Try.prog 82 = some (1) := by kernel_rfl
theorem tInt82 : tInt Try.prog 82 = none := by kernel_rfl
theorem tBytes82 : tBytes Try.prog 82 = some (24) := by kernel_rfl
theorem tKind82 : tKind Try.prog 82 = .other := by kernel_rfl
theorem tZero82 : tZero Try.prog 82 = some (.osl 33 []) := by kernel_rfl
theorem tSlice84 : tSlice Try.prog 84 = none := by kernel_rfl
theorem tArr84 : tArr Try.prog 84 = none := by kernel_rfl
theorem tAgg84 : tAgg Try.prog 84 = some (true) := by kernel_rfl
theorem tSize84 : tSize Try.prog 84 = some (3) := by kernel_rfl
theorem tInt84 : tInt Try.prog 84 = none := by kernel_rfl
theorem tBytes84 : tBytes Try.prog 84 = some (40) := by kernel_rfl
theorem tKind84 : tKind Try.prog 84 = .other := by kernel_rfl
theorem tZero84 : tZero Try.prog 84 = some (.agg [.v (.int .i64 0), .v (.map none), .osl 33 []]) := by kernel_rfl
theorem tFld84_0 : tFld Try.prog 84 0 = some (0, 3, 1) := by kernel_rfl
theorem tFld84_1 : tFld Try.prog 84 1 = some (1, 81, 1) := by kernel_rfl
theorem tFld84_2 : tFld Try.prog 84 2 = some (2, 82, 1) := by kernel_rfl
theorem tPlaces84 : tPlaces Try.prog 84 = some ([(0, 1), (1, 1), (2, 1)]) := by kernel_rfl
theorem tSlice86 : tSlice Try.prog 86 = none := by kernel_rfl
theorem tArr86 : tArr Try.prog 86 = none := by kernel_rfl
theorem tAgg86 : tAgg Try.prog 86 = some (true) := by kernel_rfl
theorem tSize86 : tSize Try.prog 86 = some (33) := by kernel_rfl
theorem tInt86 : tInt Try.prog 86 = none := by kernel_rfl
theorem tBytes86 : tBytes Try.prog 86 = some (36) := by kernel_rfl
theorem tKind86 : tKind Try.prog 86 = .other := by kernel_rfl
theorem tZero86 : tZero Try.prog 86 = some (.agg [.arr 32 (bA (List.replicate 32 0)), .v (.int .u32 0)]) := by kernel_rfl
theorem eqT86 : eqT Try.prog 8 86 = some (.agg (.cons 0 32 true (.ints 32 .u8) (.cons 32 1 false (.int .u32) (.nil)))) := by kernel_rfl
theorem wideKey86 : wideKey Try.prog 86 = true := by kernel_rfl
theorem eqG86 : Try.prog.eqGuardType Try.prog.depth 86 = false := by kernel_rfl
theorem tFld86_0 : tFld Try.prog 86 0 = some (0, 25, 32) := by kernel_rfl
theorem tFld86_1 : tFld Try.prog 86 1 = some (32, 28, 1) := by kernel_rfl
theorem tPlaces86 : tPlaces Try.prog 86 = some ([(0, 32), (32, 1)]) := by kernel_rfl
theorem tSlice94 : tSlice Try.prog 94 = none := by kernel_rfl
theorem tArr94 : tArr Try.prog 94 = none := by kernel_rfl
theorem tAgg94 : tAgg Try.prog 94 = some (true) := by kernel_rfl
theorem tSize94 : tSize Try.prog 94 = some (33) := by kernel_rfl
theorem tInt94 : tInt Try.prog 94 = none := by kernel_rfl
theorem tBytes94 : tBytes Try.prog 94 = some (36) := by kernel_rfl
theorem tKind94 : tKind Try.prog 94 = .other := by kernel_rfl
theorem tZero94 : tZero Try.prog 94 = some (.agg [.arr 32 (bA (List.replicate 32 0)), .v (.int .u32 0)]) := by kernel_rfl
theorem eqT94 : eqT Try.prog 8 94 = some (.agg (.cons 0 32 true (.ints 32 .u8) (.cons 32 1 false (.int .u32) (.nil)))) := by kernel_rfl
theorem wideKey94 : wideKey Try.prog 94 = true := by kernel_rfl
theorem eqG94 : Try.prog.eqGuardType Try.prog.depth 94 = false := by kernel_rfl
theorem tFld94_0 : tFld Try.prog 94 0 = some (0, 25, 32) := by kernel_rfl
theorem tFld94_1 : tFld Try.prog 94 1 = some (32, 28, 1) := by kernel_rfl
theorem tPlaces94 : tPlaces Try.prog 94 = some ([(0, 32), (32, 1)]) := by kernel_rfl
theorem tSlice95 : tSlice Try.prog 95 = none := by kernel_rfl
theorem tArr95 : tArr Try.prog 95 = none := by kernel_rfl
theorem tAgg95 : tAgg Try.prog 95 = some (false) := by kernel_rfl
theorem tSize95 : tSize Try.prog 95 = some (1) := by kernel_rfl
theorem tInt95 : tInt Try.prog 95 = some (.u64) := by kernel_rfl
theorem tBytes95 : tBytes Try.prog 95 = some (8) := by kernel_rfl
theorem tKind95 : tKind Try.prog 95 = .int .u64 := by kernel_rfl
theorem tZero95 : tZero Try.prog 95 = some (.v (.int .u64 0)) := by kernel_rfl
theorem tSlice96 : tSlice Try.prog 96 = none := by kernel_rfl
theorem tArr96 : tArr Try.prog 96 = some (4, 95, 1) := by kernel_rfl
theorem tAgg96 : tAgg Try.prog 96 = some (true) := by kernel_rfl
theorem tSize96 : tSize Try.prog 96 = some (4) := by kernel_rfl
theorem tInt96 : tInt Try.prog 96 = none := by kernel_rfl
theorem tBytes96 : tBytes Try.prog 96 = some (32) := by kernel_rfl
theorem tKind96 : tKind Try.prog 96 = .other := by kernel_rfl
theorem tZero96 : tZero Try.prog 96 = some (.arr 4 [.v (.int .u64 0), .v (.int .u64 0), .v (.int .u64 0), .v (.int .u64 0)]) := by kernel_rfl
theorem eqT96 : eqT Try.prog 8 96 = some (.ints 4 .u64) := by kernel_rfl
theorem wideKey96 : wideKey Try.prog 96 = true := by kernel_rfl
theorem eqG96 : Try.prog.eqGuardType Try.prog.depth 96 = false := by kernel_rfl
theorem tSlice98 : tSlice Try.prog 98 = none := by kernel_rfl
theorem tArr98 : tArr Try.prog 98 = none := by kernel_rfl
theorem tAgg98 : tAgg Try.prog 98 = some (true) := by kernel_rfl
theorem tSize98 : tSize Try.prog 98 = some (4) := by kernel_rfl
theorem tInt98 : tInt Try.prog 98 = none := by kernel_rfl
theorem tBytes98 : tBytes Try.prog 98 = some (32) := by kernel_rfl
theorem tKind98 : tKind Try.prog 98 = .other := by kernel_rfl
theorem tZero98 : tZero Try.prog 98 = some (.agg [.arr 4 [.v (.int .u64 0), .v (.int .u64 0), .v (.int .u64 0), .v (.int .u64 0)]]) := by kernel_rfl
theorem eqT98 : eqT Try.prog 8 98 = some (.agg (.cons 0 4 true (.ints 4 .u64) (.nil))) := by kernel_rfl
theorem wideKey98 : wideKey Try.prog 98 = true := by kernel_rfl
theorem eqG98 : Try.prog.eqGuardType Try.prog.depth 98 = false := by kernel_rfl
theorem tFld98_0 : tFld Try.prog 98 0 = some (0, 96, 4) := by kernel_rfl
theorem tPlaces98 : tPlaces Try.prog 98 = some ([(0, 4)]) := by kernel_rfl
theorem tSlice102 : tSlice Try.prog 102 = none := by kernel_rfl
theorem tArr102 : tArr Try.prog 102 = none := by kernel_rfl
theorem tAgg102 : tAgg Try.prog 102 = some (true) := by kernel_rfl
theorem tSize102 : tSize Try.prog 102 = some (16) := by kernel_rfl
theorem tInt102 : tInt Try.prog 102 = none := by kernel_rfl
theorem tBytes102 : tBytes Try.prog 102 = some (128) := by kernel_rfl
theorem tKind102 : tKind Try.prog 102 = .other := by kernel_rfl
theorem tZero102 : tZero Try.prog 102 = some (.agg [.agg [.arr 4 [.v (.int .u64 0), .v (.int .u64 0), .v (.int .u64 0), .v (.int .u64 0)]], .agg [.arr 4 [.v (.int .u64 0), .v (.int .u64 0), .v (.int 
  .u64 0), .v (.int .u64 0)]], .agg [.arr 4 [.v (.int .u64 0), .v (.int .u64 0), .v (.int .u64 0), .v (.int .u64 0)]], .agg [.arr 4 [.v (.int .u64 0), .v (.int .u64 0), .v (.int .u64 0), .v (.int .u64 
  0)]]]) := by kernel_rfl
theorem eqT102 : eqT Try.prog 8 102 = some (.agg (.cons 0 4 true (.agg (.cons 0 4 true (.ints 4 .u64) (.nil))) (.cons 4 4 true (.agg (.cons 0 4 true (.ints 4 .u64) (.nil))) (.cons 8 4 true (.agg 
  (.cons 0 4 true (.ints 4 .u64) (.nil))) (.cons 12 4 true (.agg (.cons 0 4 true (.ints 4 .u64) (.nil))) (.nil)))))) := by kernel_rfl
theorem wideKey102 : wideKey Try.prog 102 = true := by kernel_rfl
theorem eqG102 : Try.prog.eqGuardType Try.prog.depth 102 = false := by kernel_rfl
theorem tFld102_0 : tFld Try.prog 102 0 = some (0, 98, 4) := by kernel_rfl
theorem tFld102_1 : tFld Try.prog 102 1 = some (4, 98, 4) := by kernel_rfl
theorem tFld102_2 : tFld Try.prog 102 2 = some (8, 98, 4) := by kernel_rfl
theorem tFld102_3 : tFld Try.prog 102 3 = some (12, 98, 4) := by kernel_rfl
theorem tPlaces102 : tPlaces Try.prog 102 = some ([(0, 4), (4, 4), (8, 4), (12, 4)]) := by kernel_rfl
theorem tSlice108 : tSlice Try.prog 108 = none := by kernel_rfl
theorem tArr108 : tArr Try.prog 108 = none := by kernel_rfl
theorem tAgg108 : tAgg Try.prog 108 = some (false) := by kernel_rfl
theorem tSize108 : tSize Try.prog 108 = some (1) := by kernel_rfl
theorem tInt108 : tInt Try.prog 108 = some (.u64) := by kernel_rfl
theorem tBytes108 : tBytes Try.prog 108 = some (8) := by kernel_rfl
theorem tKind108 : tKind Try.prog 108 = .int .u64 := by kernel_rfl
theorem tZero108 : tZero Try.prog 108 = some (.v (.int .u64 0)) := by kernel_rfl
theorem tSlice110 : tSlice Try.prog 110 = none := by kernel_rfl
theorem tArr110 : tArr Try.prog 110 = some (8, 95, 1) := by kernel_rfl
theorem tAgg110 : tAgg Try.prog 110 = some (true) := by kernel_rfl
theorem tSize110 : tSize Try.prog 110 = some (8) := by kernel_rfl
theorem tInt110 : tInt Try.prog 110 = none := by kernel_rfl
theorem tBytes110 : tBytes Try.prog 110 = some (64) := by kernel_rfl
theorem tKind110 : tKind Try.prog 110 = .other := by kernel_rfl
theorem tZero110 : tZero Try.prog 110 = some (.arr 8 [.v (.int .u64 0), .v (.int .u64 0), .v (.int .u64 0), .v (.int .u64 0), .v (.int .u64 0), .v (.int .u64 0), .v (.int .u64 0), .v (.int .u64 0)]) 
  := by kernel_rfl
theorem eqT110 : eqT Try.prog 8 110 = some (.ints 8 .u64) := by kernel_rfl
theorem wideKey110 : wideKey Try.prog 110 = true := by kernel_rfl
theorem eqG110 : Try.prog.eqGuardType Try.prog.depth 110 = false := by kernel_rfl
theorem tSlice115 : tSlice Try.prog 115 = some (5, 1) := by kernel_rfl
theorem tArr115 : tArr Try.prog 115 = none := by kernel_rfl
theorem tAgg115 : tAgg Try.prog 115 = some (false) := by kernel_rfl
theorem tSize115 : tSize Try.prog 115 = some (1) := by kernel_rfl
theorem tInt115 : tInt Try.prog 115 = none := by kernel_rfl
theorem tBytes115 : tBytes Try.prog 115 = some (24) := by kernel_rfl
theorem tKind115 : tKind Try.prog 115 = .other := by kernel_rfl
theorem tZero115 : tZero Try.prog 115 = some (.osl 1 []) := by kernel_rfl
theorem tSlice118 : tSlice Try.prog 118 = none := by kernel_rfl
theorem tArr118 : tArr Try.prog 118 = some (5, 95, 1) := by kernel_rfl
theorem tAgg118 : tAgg Try.prog 118 = some (true) := by kernel_rfl
theorem tSize118 : tSize Try.prog 118 = some (5) := by kernel_rfl
theorem tInt118 : tInt Try.prog 118 = none := by kernel_rfl
theorem tBytes118 : tBytes Try.prog 118 = some (40) := by kernel_rfl
theorem tKind118 : tKind Try.prog 118 = .other := by kernel_rfl
theorem tZero118 : tZero Try.prog 118 = some (.arr 5 [.v (.int .u64 0), .v (.int .u64 0), .v (.int .u64 0), .v (.int .u64 0), .v (.int .u64 0)]) := by kernel_rfl
theorem eqT118 : eqT Try.prog 8 118 = some (.ints 5 .u64) := by kernel_rfl
theorem wideKey118 : wideKey Try.prog 118 = true := by kernel_rfl
theorem eqG118 : Try.prog.eqGuardType Try.prog.depth 118 = false := by kernel_rfl
theorem tSlice120 : tSlice Try.prog 120 = none := by kernel_rfl
theorem tArr120 : tArr Try.prog 120 = none := by kernel_rfl
theorem tAgg120 : tAgg Try.prog 120 = some (true) := by kernel_rfl
theorem tSize120 : tSize Try.prog 120 = some (5) := by kernel_rfl
theorem tInt120 : tInt Try.prog 120 = none := by kernel_rfl
theorem tBytes120 : tBytes Try.prog 120 = some (40) := by kernel_rfl
theorem tKind120 : tKind Try.prog 120 = .other := by kernel_rfl
theorem tZero120 : tZero Try.prog 120 = some (.agg [.arr 5 [.v (.int .u64 0), .v (.int .u64 0), .v (.int .u64 0), .v (.int .u64 0), .v (.int .u64 0)]]) := by kernel_rfl
theorem eqT120 : eqT Try.prog 8 120 = some (.agg (.cons 0 5 true (.ints 5 .u64) (.nil))) := by kernel_rfl
theorem wideKey120 : wideKey Try.prog 120 = true := by kernel_rfl
theorem eqG120 : Try.prog.eqGuardType Try.prog.depth 120 = false := by kernel_rfl
theorem tFld120_0 : tFld Try.prog 120 0 = some (0, 118, 5) := by kernel_rfl
theorem tPlaces120 : tPlaces Try.prog 120 = some ([(0, 5)]) := by kernel_rfl
theorem tSlice124 : tSlice Try.prog 124 = none := by kernel_rfl
theorem tArr124 : tArr Try.prog 124 = none := by kernel_rfl
theorem tAgg124 : tAgg Try.prog 124 = some (true) := by kernel_rfl
theorem tSize124 : tSize Try.prog 124 = some (20) := by kernel_rfl
theorem tInt124 : tInt Try.prog 124 = none := by kernel_rfl
theorem tBytes124 : tBytes Try.prog 124 = some (160) := by kernel_rfl
theorem tKind124 : tKind Try.prog 124 = .other := by kernel_rfl
theorem tZero124 : tZero Try.prog 124 = some (.agg [.agg [.arr 5 [.v (.int .u64 0), .v (.int .u64 0), .v (.int .u64 0), .v (.int .u64 0), .v (.int .u64 0)]], .agg [.arr 5 [.v (.int .u64 0), .v (.int 
  .u64 0), .v (.int .u64 0), .v (.int .u64 0), .v (.int .u64 0)]], .agg [.arr 5 [.v (.int .u64 0), .v (.int .u64 0), .v (.int .u64 0), .v (.int .u64 0), .v (.int .u64 0)]], .agg [.arr 5 [.v (.int .u64 
  0), .v (.int .u64 0), .v (.int .u64 0), .v (.int .u64 0), .v (.int .u64 0)]]]) := by kernel_rfl
theorem eqT124 : eqT Try.prog 8 124 = some (.agg (.cons 0 5 true (.agg (.cons 0 5 true (.ints 5 .u64) (.nil))) (.cons 5 5 true (.agg (.cons 0 5 true (.ints 5 .u64) (.nil))) (.cons 10 5 true (.agg 
  (.cons 0 5 true (.ints 5 .u64) (.nil))) (.cons 15 5 true (.agg (.cons 0 5 true (.ints 5 .u64) (.nil))) (.nil)))))) := by kernel_rfl
theorem wideKey124 : wideKey Try.prog 124 = true := by kernel_rfl
theorem eqG124 : Try.prog.eqGuardType Try.prog.depth 124 = false := by kernel_rfl
theorem tFld124_0 : tFld Try.prog 124 0 = some (0, 120, 5) := by kernel_rfl
theorem tFld124_1 : tFld Try.prog 124 1 = some (5, 120, 5) := by kernel_rfl
theorem tFld124_2 : tFld Try.prog 124 2 = some (10, 120, 5) := by kernel_rfl
theorem tFld124_3 : tFld Try.prog 124 3 = some (15, 120, 5) := by kernel_rfl
theorem tPlaces124 : tPlaces Try.prog 124 = some ([(0, 5), (5, 5), (10, 5), (15, 5)]) := by kernel_rfl
theorem tSlice139 : tSlice Try.prog 139 = none := by kernel_rfl
theorem tArr139 : tArr Try.prog 139 = none := by kernel_rfl
theorem tAgg139 : tAgg Try.prog 139 = some (true) := by kernel_rfl
theorem tSize139 : tSize Try.prog 139 = some (2) := by kernel_rfl
theorem tInt139 : tInt Try.prog 139 = none := by kernel_rfl
theorem tBytes139 : tBytes Try.prog 139 = some (16) := by kernel_rfl
theorem tKind139 : tKind Try.prog 139 = .other := by kernel_rfl
theorem tZero139 : tZero Try.prog 139 = some (.agg [.v (.int .u64 0), .v (.int .u64 0)]) := by kernel_rfl
theorem eqT139 : eqT Try.prog 8 139 = some (.agg (.cons 0 1 false (.int .u64) (.cons 1 1 false (.int .u64) (.nil)))) := by kernel_rfl
theorem wideKey139 : wideKey Try.prog 139 = true := by kernel_rfl
theorem eqG139 : Try.prog.eqGuardType Try.prog.depth 139 = false := by kernel_rfl
theorem tFld139_0 : tFld Try.prog 139 0 = some (0, 95, 1) := by kernel_rfl
theorem tFld139_1 : tFld Try.prog 139 1 = some (1, 95, 1) := by kernel_rfl
theorem tPlaces139 : tPlaces Try.prog 139 = some ([(0, 1), (1, 1)]) := by kernel_rfl
theorem goFn2 : goFn Try.prog 2 = true := by kernel_rfl
theorem goFn3 : goFn Try.prog 3 = true := by kernel_rfl
theorem goFn4 : goFn Try.prog 4 = true := by kernel_rfl
theorem goFn5 : goFn Try.prog 5 = true := by kernel_rfl
theorem goFn6 : goFn Try.prog 6 = true := by kernel_rfl
theorem goFn7 : goFn Try.prog 7 = true := by kernel_rfl
theorem goFn8 : goFn Try.prog 8 = true := by kernel_rfl
theorem goFn9 : goFn Try.prog 9 = true := by kernel_rfl
theorem goFn10 : goFn Try.prog 10 = true := by kernel_rfl
theorem goFn11 : goFn Try.prog 11 = true := by kernel_rfl
theorem goFn12 : goFn Try.prog 12 = true := by kernel_rfl
theorem goFn13 : goFn Try.prog 13 = true := by kernel_rfl
theorem goFn14 : goFn Try.prog 14 = true := by kernel_rfl
theorem goFn15 : goFn Try.prog 15 = true := by kernel_rfl
theorem goFn16 : goFn Try.prog 16 = true := by kernel_rfl
theorem goFn17 : goFn Try.prog 17 = true := by kernel_rfl
theorem goFn18 : goFn Try.prog 18 = true := by kernel_rfl
theorem goFn19 : goFn Try.prog 19 = true := by kernel_rfl
theorem goFn20 : goFn Try.prog 20 = true := by kernel_rfl
theorem goFn21 : goFn Try.prog 21 = true := by kernel_rfl
theorem goFn22 : goFn Try.prog 22 = true := by kernel_rfl
theorem goFn23 : goFn Try.prog 23 = true := by kernel_rfl
theorem goFn24 : goFn Try.prog 24 = true := by kernel_rfl
theorem goFn25 : goFn Try.prog 25 = true := by kernel_rfl
theorem goFn26 : goFn Try.prog 26 = true := by kernel_rfl
theorem goFn27 : goFn Try.prog 27 = true := by kernel_rfl
theorem goFn28 : goFn Try.prog 28 = true := by kernel_rfl
theorem goFn29 : goFn Try.prog 29 = true := by kernel_rfl
theorem goFn30 : goFn Try.prog 30 = true := by kernel_rfl
theorem goFn31 : goFn Try.prog 31 = true := by kernel_rfl
theorem goFn32 : goFn Try.prog 32 = true := by kernel_rfl
theorem goFn33 : goFn Try.prog 33 = true := by kernel_rfl
theorem goFn34 : goFn Try.prog 34 = true := by kernel_rfl
theorem goFn35 : goFn Try.prog 35 = true := by kernel_rfl
theorem goFn36 : goFn Try.prog 36 = true := by kernel_rfl
theorem goFn37 : goFn Try.prog 37 = true := by kernel_rfl
theorem goFn38 : goFn Try.prog 38 = true := by kernel_rfl
theorem goFn39 : goFn Try.prog 39 = true := by kernel_rfl
theorem goFn40 : goFn Try.prog 40 = true := by kernel_rfl
theorem goFn41 : goFn Try.prog 41 = true := by kernel_rfl
theorem goFn42 : goFn Try.prog 42 = true := by kernel_rfl
theorem goFn43 : goFn Try.prog 43 = true := by kernel_rfl
theorem goFn44 : goFn Try.prog 44 = true := by kernel_rfl
theorem goFn45 : goFn Try.prog 45 = true := by kernel_rfl
theorem goFn46 : goFn Try.prog 46 = true := by kernel_rfl
theorem goFn47 : goFn Try.prog 47 = true := by kernel_rfl
theorem goFn48 : goFn Try.prog 48 = true := by kernel_rfl
theorem goFn49 : goFn Try.prog 49 = true := by kernel_rfl
theorem goFn50 : goFn Try.prog 50 = true := by kernel_rfl
theorem goFn51 : goFn Try.prog 51 = true := by kernel_rfl
theorem goFn52 : goFn Try.prog 52 = true := by kernel_rfl
theorem goFn53 : goFn Try.prog 53 = true := by kernel_rfl
theorem goFn54 : goFn Try.prog 54 = true := by kernel_rfl
theorem goFn55 : goFn Try.prog 55 = true := by kernel_rfl
theorem goFn56 : goFn Try.prog 56 = true := by kernel_rfl
theorem goFn57 : goFn Try.prog 57 = true := by kernel_rfl
theorem goFn58 : goFn Try.prog 58 = true := by kernel_rfl
theorem goFn59 : goFn Try.prog 59 = true := by kernel_rfl
theorem goFn60 : goFn Try.prog 60 = true := by kernel_rfl
theorem goFn61 : goFn Try.prog 61 = true := by kernel_rfl
theorem goFn62 : goFn Try.prog 62 = true := by kernel_rfl
theorem goFn63 : goFn Try.prog 63 = true := by kernel_rfl
theorem goFn64 : goFn Try.prog 64 = true := by kernel_rfl
theorem goFn65 : goFn Try.prog 65 = true := by kernel_rfl
theorem goFn66 : goFn Try.prog 66 = true := by kernel_rfl
theorem goFn67 : goFn Try.prog 67 = false := by kernel_rfl
theorem extFn67 : extFn Try.prog 67 = some .add := by kernel_rfl
theorem goFn68 : goFn Try.prog 68 = true := by kernel_rfl
theorem goFn69 : goFn Try.prog 69 = true := by kernel_rfl
theorem goFn70 : goFn Try.prog 70 = true := by kernel_rfl
theorem goFn71 : goFn Try.prog 71 = true := by kernel_rfl
theorem goFn72 : goFn Try.prog 72 = true := by kernel_rfl
theorem goFn73 : goFn Try.prog 73 = true := by kernel_rfl
theorem goFn74 : goFn Try.prog 74 = true := by kernel_rfl
theorem goFn75 : goFn Try.prog 75 = true := by kernel_rfl
theorem goFn76 : goFn Try.prog 76 = true := by kernel_rfl
theorem goFn77 : goFn Try.prog 77 = true := by kernel_rfl
theorem goFn78 : goFn Try.prog 78 = true := by kernel_rfl
theorem goFn79 : goFn Try.prog 79 = true := by kernel_rfl
theorem goFn80 : goFn Try.prog 80 = true := by kernel_rfl
theorem goFn81 : goFn Try.prog 81 = true := by kernel_rfl
theorem goFn82 : goFn Try.prog 82 = false := by kernel_rfl
theorem extFn82 : extFn Try.prog 82 = some .sub := by kernel_rfl
attribute [go_sem] tSlice3 tArr3 tAgg3 tSize3 tInt3 tBytes3 tKind3 tZero3 tSlice4 tArr4 tAgg4 tSize4 tInt4 tBytes4 tKind4 tZero4 tSlice5 tArr5 tAgg5 tSize5 tInt5 tBytes5 tKind5 tZero5 tSlice23 tArr23 
  tAgg23 tSize23 tInt23 tBytes23 tKind23 tZero23 eqT23 wideKey23 eqG23 tFld23_0 tFld23_1 tFld23_2 tPlaces23 tSlice25 tArr25 tAgg25 tSize25 tInt25 tBytes25 tKind25 tZero25 eqT25 wideKey25 eqG25 tSlice27 
  tArr27 tAgg27 tSize27 tInt27 tBytes27 tKind27 tZero27 eqT27 wideKey27 eqG27 tFld27_0 tFld27_1 tPlaces27 tSlice28 tArr28 tAgg28 tSize28 tInt28 tBytes28 tKind28 tZero28 tSlice29 tArr29 tAgg29 tSize29 
  tInt29 tBytes29 tKind29 tZero29 tSlice31 tArr31 tAgg31 tSize31 tInt31 tBytes31 tKind31 tZero31 tFld31_0 tFld31_1 tFld31_2 tFld31_3 tFld31_4 tFld31_5 tFld31_6 tFld31_7 tFld31_8 tFld31_9 tFld31_10 
  tFld31_11 tFld31_12 tFld31_13 tFld31_14 tFld31_15 tFld31_16 tFld31_17 tFld31_18 tPlaces31 tSlice33 tArr33 tAgg33 tSize33 tInt33 tBytes33 tKind33 tZero33 tSlice35 tArr35 tAgg35 tSize35 tInt35 tBytes35 
  tKind35 tZero35 tPtr35 tSlice40 tArr40 tAgg40 tSize40 tInt40 tBytes40 tKind40 tZero40 eqT40 wideKey40 eqG40 tFld40_0 tFld40_1 tFld40_2 tPlaces40 tSlice44 tArr44 tAgg44 tSize44 tInt44 tBytes44 tKind44 
  tZero44 eqT44 wideKey44 eqG44 tFld44_0 tFld44_1 tFld44_2 tFld44_3 tFld44_4 tFld44_5 tFld44_6 tPlaces44 tSlice45 tArr45 tAgg45 tSize45 tInt45 tBytes45 tKind45 tZero45 tPtr45 tSlice48 tArr48 tAgg48 
  tSize48 tInt48 tBytes48 tKind48 tZero48 tSlice49 tArr49 tAgg49 tSize49 tInt49 tBytes49 tKind49 tZero49 tSlice50 tArr50 tAgg50 tSize50 tInt50 tBytes50 tKind50 tZero50 tSlice52 tArr52 tAgg52 tSize52 
  tInt52 tBytes52 tKind52 tZero52 tFld52_0 tFld52_1 tFld52_2 tFld52_3 tPlaces52 tSlice57 tArr57 tAgg57 tSize57 tInt57 tBytes57 tKind57 tZero57 tPtr57 tSlice60 tArr60 tAgg60 tSize60 tInt60 tBytes60 
  tKind60 tZero60 tPtr60 tSlice62 tArr62 tAgg62 tSize62 tInt62 tBytes62 tKind62 tZero62 tFld62_0 tFld62_1 tPlaces62 tSlice65 tArr65 tAgg65 tSize65 tInt65 tBytes65 tKind65 tZero65 tFld65_0 tFld65_1 
  tFld65_2 tFld65_3 tFld65_4 tFld65_5 tFld65_6 tFld65_7 tFld65_8 tFld65_9 tFld65_10 tFld65_11 tPlaces65 tSlice67 tArr67 tAgg67 tSize67 tInt67 tBytes67 tKind67 tZero67 tFld67_0 tFld67_1 tPlaces67 
  tSlice81 tArr81 tAgg81 tSize81 tInt81 tBytes81 tKind81 tZero81 tMap81 tSlice82 tArr82 tAgg82 tSize82 tInt82 tBytes82 tKind82 tZero82 tSlice84 tArr84 tAgg84 tSize84 tInt84 tBytes84 tKind84 tZero84 
  tFld84_0 tFld84_1 tFld84_2 tPlaces84 tSlice86 tArr86 tAgg86 tSize86 tInt86 tBytes86 tKind86 tZero86 eqT86 wideKey86 eqG86 tFld86_0 tFld86_1 tPlaces86 tSlice94 tArr94 tAgg94 tSize94 tInt94 tBytes94 
  tKind94 tZero94 eqT94 wideKey94 eqG94 tFld94_0 tFld94_1 tPlaces94 tSlice95 tArr95 tAgg95 tSize95 tInt95 tBytes95 tKind95 tZero95 tSlice96 tArr96 tAgg96 tSize96 tInt96 tBytes96 tKind96 tZero96 eqT96 
  wideKey96 eqG96 tSlice98 tArr98 tAgg98 tSize98 tInt98 tBytes98 tKind98 tZero98 eqT98 wideKey98 eqG98 tFld98_0 tPlaces98 tSlice102 tArr102 tAgg102 tSize102 tInt102 tBytes102 tKind102 tZero102 eqT102 
  wideKey102 eqG102 tFld102_0 tFld102_1 tFld102_2 tFld102_3 tPlaces102 tSlice108 tArr108 tAgg108 tSize108 tInt108 tBytes108 tKind108 tZero108 tSlice110 tArr110 tAgg110 tSize110 tInt110 tBytes110 
  tKind110 tZero110 eqT110 wideKey110 eqG110 tSlice115 tArr115 tAgg115 tSize115 tInt115 tBytes115 tKind115 tZero115 tSlice118 tArr118 tAgg118 tSize118 tInt118 tBytes118 tKind118 tZero118 eqT118 
  wideKey118 eqG118 tSlice120 tArr120 tAgg120 tSize120 tInt120 tBytes120 tKind120 tZero120 eqT120 wideKey120 eqG120 tFld120_0 tPlaces120 tSlice124 tArr124 tAgg124 tSize124 tInt124 tBytes124 tKind124 
  tZero124 eqT124 wideKey124 eqG124 tFld124_0 tFld124_1 tFld124_2 tFld124_3 tPlaces124 tSlice139 tArr139 tAgg139 tSize139 tInt139 tBytes139 tKind139 tZero139 eqT139 wideKey139 eqG139 tFld139_0 
  tFld139_1 tPlaces139 goFn2 Try.ntmps2 Try.results2 goFn3 Try.ntmps3 Try.results3 goFn4 Try.ntmps4 Try.results4 goFn5 Try.ntmps5 Try.results5 goFn6 Try.ntmps6 Try.results6 goFn7 Try.ntmps7 
  Try.results7 goFn8 Try.ntmps8 Try.results8 goFn9 Try.ntmps9 Try.results9 goFn10 Try.ntmps10 Try.results10 goFn11 Try.ntmps11 Try.results11 goFn12 Try.ntmps12 Try.results12 goFn13 Try.ntmps13 
  Try.results13 goFn14 Try.ntmps14 Try.results14 goFn15 Try.ntmps15 Try.results15 goFn16 Try.ntmps16 Try.results16 goFn17 Try.ntmps17 Try.results17 goFn18 Try.ntmps18 Try.results18 goFn19 Try.ntmps19 
  Try.results19 goFn20 Try.ntmps20 Try.results20 goFn21 Try.ntmps21 Try.results21 goFn22 Try.ntmps22 Try.results22 goFn23 Try.ntmps23 Try.results23 goFn24 Try.ntmps24 Try.results24 goFn25 Try.ntmps25 
  Try.results25 goFn26 Try.ntmps26 Try.results26 goFn27 Try.ntmps27 Try.results27 goFn28 Try.ntmps28 Try.results28 goFn29 Try.ntmps29 Try.results29 goFn30 Try.ntmps30 Try.results30 goFn31 Try.ntmps31 
  Try.results31 goFn32 Try.ntmps32 Try.results32 goFn33 Try.ntmps33 Try.results33 goFn34 Try.ntmps34 Try.results34 goFn35 Try.ntmps35 Try.results35 goFn36 Try.ntmps36 Try.results36 goFn37 Try.ntmps37 
  Try.results37 goFn38 Try.ntmps38 Try.results38 goFn39 Try.ntmps39 Try.results39 goFn40 Try.ntmps40 Try.results40 goFn41 Try.ntmps41 Try.results41 goFn42 Try.ntmps42 Try.results42 goFn43 Try.ntmps43 
  Try.results43 goFn44 Try.ntmps44 Try.results44 goFn45 Try.ntmps45 Try.results45 goFn46 Try.ntmps46 Try.results46 goFn47 Try.ntmps47 Try.results47 goFn48 Try.ntmps48 Try.results48 goFn49 Try.ntmps49 
  Try.results49 goFn50 Try.ntmps50 Try.results50 goFn51 Try.ntmps51 Try.results51 goFn52 Try.ntmps52 Try.results52 goFn53 Try.ntmps53 Try.results53 goFn54 Try.ntmps54 Try.results54 goFn55 Try.ntmps55 
  Try.results55 goFn56 Try.ntmps56 Try.results56 goFn57 Try.ntmps57 Try.results57 goFn58 Try.ntmps58 Try.results58 goFn59 Try.ntmps59 Try.results59 goFn60 Try.ntmps60 Try.results60 goFn61 Try.ntmps61 
  Try.results61 goFn62 Try.ntmps62 Try.results62 goFn63 Try.ntmps63 Try.results63 goFn64 Try.ntmps64 Try.results64 goFn65 Try.ntmps65 Try.results65 goFn66 Try.ntmps66 Try.results66 goFn67 extFn67 
  goFn68 Try.ntmps68 Try.results68 goFn69 Try.ntmps69 Try.results69 goFn70 Try.ntmps70 Try.results70 goFn71 Try.ntmps71 Try.results71 goFn72 Try.ntmps72 Try.results72 goFn73 Try.ntmps73 Try.results73 
  goFn74 Try.ntmps74 Try.results74 goFn75 Try.ntmps75 Try.results75 goFn76 Try.ntmps76 Try.results76 goFn77 Try.ntmps77 Try.results77 goFn78 Try.ntmps78 Try.results78 goFn79 Try.ntmps79 Try.results79 
  goFn80 Try.ntmps80 Try.results80 goFn81 Try.ntmps81 Try.results81 goFn82 extFn82 Try.underlying3 Try.underlying4 Try.underlying5 Try.underlying23 Try.underlying25 Try.underlying27 Try.underlying28 
  Try.underlying29 Try.underlying31 Try.underlying33 Try.underlying35 Try.underlying40 Try.underlying44 Try.underlying45 Try.underlying48 Try.underlying49 Try.underlying50 Try.underlying52 
  Try.underlying57 Try.underlying60 Try.underlying62 Try.underlying65 Try.underlying67 Try.underlying81 Try.underlying82 Try.underlying84 Try.underlying86 Try.underlying94 Try.underlying95 
  Try.underlying96 Try.underlying98 Try.underlying102 Try.underlying108 Try.underlying110 Try.underlying115 Try.underlying118 Try.underlying120 Try.underlying124 Try.underlying139
def MR : FuncId → List Bool
  | 2 => []
  | 3 => [false]
  | 4 => [false]
  | 5 => [false]
  | 6 => [false]
  | 7 => [false]
  | 8 => [false]
  | 9 => [false, false]
  | 10 => [false]
  | 11 => [false]
  | 12 => [false]
  | 13 => [false]
  | 14 => [false]
  | 15 => [false, false]
  | 16 => [false, false, false, false]
  | 17 => [false]
  | 18 => [false]
  | 19 => [false, false]
  | 20 => [false]
  | 21 => [false]
  | 22 => [false, false, false, false, false]
  | 23 => [false, false, false, false, false]
  | 24 => [false, false, false, false, false]
  | 25 => [false, false, false, false, false]
  | 26 => [false]
  | 27 => [false]
  | 28 => [false]
  | 29 => [false, false]
  | 30 => [false, false]
  | 31 => [false]
  | 32 => [false]
  | 33 => [false]
  | 34 => [false, false]
  | 35 => []
  | 36 => [false]
  | 37 => [false]
  | 38 => [false]
  | 39 => [false]
  | 40 => [false]
  | 41 => [false]
  | 42 => [false, false]
  | 43 => [false]
  | 44 => [false, false]
  | 45 => [false, false]
  | 46 => [false]
  | 47 => [false]
  | 48 => [false, false]
  | 49 => [false]
  | 50 => [false, false]
  | 51 => [false, false]
  | 52 => [false]
  | 53 => [false, false, false, false]
  | 54 => [false, false]
  | 55 => [false, false]
  | 56 => [false, false]
  | 57 => [false, false]
  | 58 => [false]
  | 59 => [false]
  | 60 => [false, false]
  | 61 => [false, false]
  | 62 => [false, false]
  | 63 => [false]
  | 64 => [false]
  | 65 => [false, false]
  | 66 => []
  | 67 => [false, false, false]
  | 68 => [false]
  | 69 => [false, false]
  | 70 => [false]
  | 71 => [false, false, false]
  | 72 => [false, false]
  | 73 => [false, false]
  | 74 => [false]
  | 75 => [false, false]
  | 76 => [false, false, false]
  | 77 => [false, false, false, false, false]
  | 78 => [false]
  | 79 => [false]
  | 80 => [false, false]
  | 81 => [false]
  | 82 => [false, false, false]
  | _ => []
end Go.PA
