/- The tables of the seat's program. -/
import Derived.Test.YtmacfbboiippoaaPAc
import Derived.KernelRfl
import Derived.Test.YtmacfbboiippoaaProg
namespace Go.PA
open Go.Proofs
theorem tSlice3 : tSlice Try.prog 3 = none := by kernel_rfl
theorem tArr3 : tArr Try.prog 3 = none := by kernel_rfl
theorem tAgg3 : tAgg Try.prog 3 = some (false) := by kernel_rfl
theorem tSize3 : tSize Try.prog 3 = some (1) := by kernel_rfl
theorem tInt3 : tInt Try.prog 3 = some (.i64) := by kernel_rfl
theorem tBytes3 : tBytes Try.prog 3 = some (8) := by kernel_rfl
theorem tKind3 : tKind Try.prog 3 = .int .i64 := by kernel_rfl
theorem tZero3 : tZero Try.prog 3 = some (.v (.int .i64 0)) := by kernel_rfl
theorem tSlice4 : tSlice Try.prog 4 = none := by kernel_rfl
theorem tArr4 : tArr Try.prog 4 = none := by kernel_rfl
theorem tAgg4 : tAgg Try.prog 4 = some (false) := by kernel_rfl
theorem tSize4 : tSize Try.prog 4 = some (1) := by kernel_rfl
theorem tInt4 : tInt Try.prog 4 = none := by kernel_rfl
theorem tBytes4 : tBytes Try.prog 4 = some (1) := by kernel_rfl
theorem tKind4 : tKind Try.prog 4 = .bool := by kernel_rfl
theorem tZero4 : tZero Try.prog 4 = some (.v (.bool false)) := by kernel_rfl
theorem tSlice5 : tSlice Try.prog 5 = none := by kernel_rfl
theorem tArr5 : tArr Try.prog 5 = none := by kernel_rfl
theorem tAgg5 : tAgg Try.prog 5 = some (false) := by kernel_rfl
theorem tSize5 : tSize Try.prog 5 = some (1) := by kernel_rfl
theorem tInt5 : tInt Try.prog 5 = some (.u8) := by kernel_rfl
theorem tBytes5 : tBytes Try.prog 5 = some (1) := by kernel_rfl
theorem tKind5 : tKind Try.prog 5 = .int .u8 := by kernel_rfl
theorem tZero5 : tZero Try.prog 5 = some (.v (.int .u8 0)) := by kernel_rfl
theorem tSlice22 : tSlice Try.prog 22 = some (5, 1) := by kernel_rfl
theorem tArr22 : tArr Try.prog 22 = none := by kernel_rfl
theorem tAgg22 : tAgg Try.prog 22 = some (false) := by kernel_rfl
theorem tSize22 : tSize Try.prog 22 = some (1) := by kernel_rfl
theorem tInt22 : tInt Try.prog 22 = none := by kernel_rfl
theorem tBytes22 : tBytes Try.prog 22 = some (24) := by kernel_rfl
theorem tKind22 : tKind Try.prog 22 = .other := by kernel_rfl
theorem tZero22 : tZero Try.prog 22 = some (.osl 1 []) := by kernel_rfl
theorem tSlice23 : tSlice Try.prog 23 = none := by kernel_rfl
theorem tArr23 : tArr Try.prog 23 = none := by kernel_rfl
theorem tAgg23 : tAgg Try.prog 23 = some (false) := by kernel_rfl
theorem tSize23 : tSize Try.prog 23 = some (1) := by kernel_rfl
theorem tInt23 : tInt Try.prog 23 = some (.u64) := by kernel_rfl
theorem tBytes23 : tBytes Try.prog 23 = some (8) := by kernel_rfl
theorem tKind23 : tKind Try.prog 23 = .int .u64 := by kernel_rfl
theorem tZero23 : tZero Try.prog 23 = some (.v (.int .u64 0)) := by kernel_rfl
theorem tSlice24 : tSlice Try.prog 24 = none := by kernel_rfl
theorem tArr24 : tArr Try.prog 24 = none := by kernel_rfl
theorem tAgg24 : tAgg Try.prog 24 = some (false) := by kernel_rfl
theorem tSize24 : tSize Try.prog 24 = some (1) := by kernel_rfl
theorem tInt24 : tInt Try.prog 24 = none := by kernel_rfl
theorem tBytes24 : tBytes Try.prog 24 = some (0) := by kernel_rfl
theorem tKind24 : tKind Try.prog 24 = .other := by kernel_rfl
theorem tZero24 : tZero Try.prog 24 = none := by kernel_rfl
theorem tSlice25 : tSlice Try.prog 25 = none := by kernel_rfl
theorem tArr25 : tArr Try.prog 25 = none := by kernel_rfl
theorem tAgg25 : tAgg Try.prog 25 = some (false) := by kernel_rfl
theorem tSize25 : tSize Try.prog 25 = some (1) := by kernel_rfl
theorem tInt25 : tInt Try.prog 25 = none := by kernel_rfl
theorem tBytes25 : tBytes Try.prog 25 = some (8) := by kernel_rfl
theorem tKind25 : tKind Try.prog 25 = .other := by kernel_rfl
theorem tZero25 : tZero Try.prog 25 = some (.v (.nilFunc)) := by kernel_rfl
theorem tSlice26 : tSlice Try.prog 26 = none := by kernel_rfl
theorem tArr26 : tArr Try.prog 26 = none := by kernel_rfl
theorem tAgg26 : tAgg Try.prog 26 = some (false) := by kernel_rfl
theorem tSize26 : tSize Try.prog 26 = some (1) := by kernel_rfl
theorem tInt26 : tInt Try.prog 26 = none := by kernel_rfl
theorem tBytes26 : tBytes Try.prog 26 = some (8) := by kernel_rfl
theorem tKind26 : tKind Try.prog 26 = .other := by kernel_rfl
theorem tZero26 : tZero Try.prog 26 = some (.v (.nilFunc)) := by kernel_rfl
theorem tSlice27 : tSlice Try.prog 27 = none := by kernel_rfl
theorem tArr27 : tArr Try.prog 27 = none := by kernel_rfl
theorem tAgg27 : tAgg Try.prog 27 = some (false) := by kernel_rfl
theorem tSize27 : tSize Try.prog 27 = some (1) := by kernel_rfl
theorem tInt27 : tInt Try.prog 27 = none := by kernel_rfl
theorem tBytes27 : tBytes Try.prog 27 = some (8) := by kernel_rfl
theorem tKind27 : tKind Try.prog 27 = .other := by kernel_rfl
theorem tZero27 : tZero Try.prog 27 = some (.v (.nilFunc)) := by kernel_rfl
theorem tSlice28 : tSlice Try.prog 28 = none := by kernel_rfl
theorem tArr28 : tArr Try.prog 28 = none := by kernel_rfl
theorem tAgg28 : tAgg Try.prog 28 = some (false) := by kernel_rfl
theorem tSize28 : tSize Try.prog 28 = some (1) := by kernel_rfl
theorem tInt28 : tInt Try.prog 28 = none := by kernel_rfl
theorem tBytes28 : tBytes Try.prog 28 = some (8) := by kernel_rfl
theorem tKind28 : tKind Try.prog 28 = .other := by kernel_rfl
theorem tZero28 : tZero Try.prog 28 = some (.v (.nilFunc)) := by kernel_rfl
theorem tSlice29 : tSlice Try.prog 29 = none := by kernel_rfl
theorem tArr29 : tArr Try.prog 29 = none := by kernel_rfl
theorem tAgg29 : tAgg Try.prog 29 = some (false) := by kernel_rfl
theorem tSize29 : tSize Try.prog 29 = some (1) := by kernel_rfl
theorem tInt29 : tInt Try.prog 29 = none := by kernel_rfl
theorem tBytes29 : tBytes Try.prog 29 = some (8) := by kernel_rfl
theorem tKind29 : tKind Try.prog 29 = .other := by kernel_rfl
theorem tZero29 : tZero Try.prog 29 = some (.v (.nilFunc)) := by kernel_rfl
theorem tSlice30 : tSlice Try.prog 30 = none := by kernel_rfl
theorem tArr30 : tArr Try.prog 30 = none := by kernel_rfl
theorem tAgg30 : tAgg Try.prog 30 = some (false) := by kernel_rfl
theorem tSize30 : tSize Try.prog 30 = some (1) := by kernel_rfl
theorem tInt30 : tInt Try.prog 30 = none := by kernel_rfl
theorem tBytes30 : tBytes Try.prog 30 = some (8) := by kernel_rfl
theorem tKind30 : tKind Try.prog 30 = .other := by kernel_rfl
theorem tZero30 : tZero Try.prog 30 = some (.v (.nilFunc)) := by kernel_rfl
theorem tSlice31 : tSlice Try.prog 31 = none := by kernel_rfl
theorem tArr31 : tArr Try.prog 31 = none := by kernel_rfl
theorem tAgg31 : tAgg Try.prog 31 = some (false) := by kernel_rfl
theorem tSize31 : tSize Try.prog 31 = some (1) := by kernel_rfl
theorem tInt31 : tInt Try.prog 31 = some (.i64) := by kernel_rfl
theorem tBytes31 : tBytes Try.prog 31 = some (8) := by kernel_rfl
theorem tKind31 : tKind Try.prog 31 = .int .i64 := by kernel_rfl
theorem tZero31 : tZero Try.prog 31 = some (.v (.int .i64 0)) := by kernel_rfl
theorem tSlice32 : tSlice Try.prog 32 = none := by kernel_rfl
theorem tArr32 : tArr Try.prog 32 = none := by kernel_rfl
theorem tAgg32 : tAgg Try.prog 32 = some (false) := by kernel_rfl
theorem tSize32 : tSize Try.prog 32 = some (1) := by kernel_rfl
theorem tInt32 : tInt Try.prog 32 = none := by kernel_rfl
theorem tBytes32 : tBytes Try.prog 32 = some (0) := by kernel_rfl
theorem tKind32 : tKind Try.prog 32 = .other := by kernel_rfl
theorem tZero32 : tZero Try.prog 32 = none := by kernel_rfl
theorem tSlice33 : tSlice Try.prog 33 = none := by kernel_rfl
theorem tArr33 : tArr Try.prog 33 = none := by kernel_rfl
theorem tAgg33 : tAgg Try.prog 33 = some (false) := by kernel_rfl
theorem tSize33 : tSize Try.prog 33 = some (1) := by kernel_rfl
theorem tInt33 : tInt Try.prog 33 = none := by kernel_rfl
theorem tBytes33 : tBytes Try.prog 33 = some (8) := by kernel_rfl
theorem tKind33 : tKind Try.prog 33 = .other := by kernel_rfl
theorem tZero33 : tZero Try.prog 33 = some (.v (.nilFunc)) := by kernel_rfl
theorem tSlice34 : tSlice Try.prog 34 = none := by kernel_rfl
theorem tArr34 : tArr Try.prog 34 = none := by kernel_rfl
theorem tAgg34 : tAgg Try.prog 34 = some (false) := by kernel_rfl
theorem tSize34 : tSize Try.prog 34 = some (1) := by kernel_rfl
theorem tInt34 : tInt Try.prog 34 = none := by kernel_rfl
theorem tBytes34 : tBytes Try.prog 34 = some (8) := by kernel_rfl
theorem tKind34 : tKind Try.prog 34 = .other := by kernel_rfl
theorem tZero34 : tZero Try.prog 34 = some (.v (.nilFunc)) := by kernel_rfl
theorem tSlice35 : tSlice Try.prog 35 = some (22, 1) := by kernel_rfl
theorem tArr35 : tArr Try.prog 35 = none := by kernel_rfl
theorem tAgg35 : tAgg Try.prog 35 = some (false) := by kernel_rfl
theorem tSize35 : tSize Try.prog 35 = some (1) := by kernel_rfl
theorem tInt35 : tInt Try.prog 35 = none := by kernel_rfl
theorem tBytes35 : tBytes Try.prog 35 = some (24) := by kernel_rfl
theorem tKind35 : tKind Try.prog 35 = .other := by kernel_rfl
theorem tZero35 : tZero Try.prog 35 = some (.osl 1 []) := by kernel_rfl
theorem tSlice36 : tSlice Try.prog 36 = none := by kernel_rfl
theorem tArr36 : tArr Try.prog 36 = none := by kernel_rfl
theorem tAgg36 : tAgg Try.prog 36 = some (false) := by kernel_rfl
theorem tSize36 : tSize Try.prog 36 = some (1) := by kernel_rfl
theorem tInt36 : tInt Try.prog 36 = none := by kernel_rfl
theorem tBytes36 : tBytes Try.prog 36 = some (0) := by kernel_rfl
theorem tKind36 : tKind Try.prog 36 = .other := by kernel_rfl
theorem tZero36 : tZero Try.prog 36 = none := by kernel_rfl
theorem tSlice37 : tSlice Try.prog 37 = none := by kernel_rfl
theorem tArr37 : tArr Try.prog 37 = none := by kernel_rfl
theorem tAgg37 : tAgg Try.prog 37 = some (false) := by kernel_rfl
theorem tSize37 : tSize Try.prog 37 = some (1) := by kernel_rfl
theorem tInt37 : tInt Try.prog 37 = none := by kernel_rfl
theorem tBytes37 : tBytes Try.prog 37 = some (8) := by kernel_rfl
theorem tKind37 : tKind Try.prog 37 = .other := by kernel_rfl
theorem tZero37 : tZero Try.prog 37 = some (.v (.nilFunc)) := by kernel_rfl
theorem tSlice38 : tSlice Try.prog 38 = none := by kernel_rfl
theorem tArr38 : tArr Try.prog 38 = none := by kernel_rfl
theorem tAgg38 : tAgg Try.prog 38 = some (false) := by kernel_rfl
theorem tSize38 : tSize Try.prog 38 = some (1) := by kernel_rfl
theorem tInt38 : tInt Try.prog 38 = none := by kernel_rfl
theorem tBytes38 : tBytes Try.prog 38 = some (8) := by kernel_rfl
theorem tKind38 : tKind Try.prog 38 = .other := by kernel_rfl
theorem tZero38 : tZero Try.prog 38 = some (.v (.nilFunc)) := by kernel_rfl
theorem tSlice39 : tSlice Try.prog 39 = none := by kernel_rfl
theorem tArr39 : tArr Try.prog 39 = none := by kernel_rfl
theorem tAgg39 : tAgg Try.prog 39 = some (false) := by kernel_rfl
theorem tSize39 : tSize Try.prog 39 = some (1) := by kernel_rfl
theorem tInt39 : tInt Try.prog 39 = none := by kernel_rfl
theorem tBytes39 : tBytes Try.prog 39 = some (8) := by kernel_rfl
theorem tKind39 : tKind Try.prog 39 = .other := by kernel_rfl
theorem tZero39 : tZero Try.prog 39 = some (.v (.nilFunc)) := by kernel_rfl
theorem tSlice40 : tSlice Try.prog 40 = none := by kernel_rfl
theorem tArr40 : tArr Try.prog 40 = none := by kernel_rfl
theorem tAgg40 : tAgg Try.prog 40 = some (false) := by kernel_rfl
theorem tSize40 : tSize Try.prog 40 = some (1) := by kernel_rfl
theorem tInt40 : tInt Try.prog 40 = none := by kernel_rfl
theorem tBytes40 : tBytes Try.prog 40 = some (8) := by kernel_rfl
theorem tKind40 : tKind Try.prog 40 = .other := by kernel_rfl
theorem tZero40 : tZero Try.prog 40 = some (.v (.nilFunc)) := by kernel_rfl
theorem tSlice41 : tSlice Try.prog 41 = none := by kernel_rfl
theorem tArr41 : tArr Try.prog 41 = none := by kernel_rfl
theorem tAgg41 : tAgg Try.prog 41 = some (false) := by kernel_rfl
theorem tSize41 : tSize Try.prog 41 = some (1) := by kernel_rfl
theorem tInt41 : tInt Try.prog 41 = none := by kernel_rfl
theorem tBytes41 : tBytes Try.prog 41 = some (0) := by kernel_rfl
theorem tKind41 : tKind Try.prog 41 = .other := by kernel_rfl
theorem tZero41 : tZero Try.prog 41 = none := by kernel_rfl
theorem tSlice42 : tSlice Try.prog 42 = none := by kernel_rfl
theorem tArr42 : tArr Try.prog 42 = none := by kernel_rfl
theorem tAgg42 : tAgg Try.prog 42 = some (false) := by kernel_rfl
theorem tSize42 : tSize Try.prog 42 = some (1) := by kernel_rfl
theorem tInt42 : tInt Try.prog 42 = none := by kernel_rfl
theorem tBytes42 : tBytes Try.prog 42 = some (8) := by kernel_rfl
theorem tKind42 : tKind Try.prog 42 = .other := by kernel_rfl
theorem tZero42 : tZero Try.prog 42 = some (.v (.nilFunc)) := by kernel_rfl
theorem tSlice43 : tSlice Try.prog 43 = none := by kernel_rfl
theorem tArr43 : tArr Try.prog 43 = none := by kernel_rfl
theorem tAgg43 : tAgg Try.prog 43 = some (false) := by kernel_rfl
theorem tSize43 : tSize Try.prog 43 = some (1) := by kernel_rfl
theorem tInt43 : tInt Try.prog 43 = none := by kernel_rfl
theorem tBytes43 : tBytes Try.prog 43 = some (8) := by kernel_rfl
theorem tKind43 : tKind Try.prog 43 = .other := by kernel_rfl
theorem tZero43 : tZero Try.prog 43 = some (.v (.nilFunc)) := by kernel_rfl
theorem tSlice44 : tSlice Try.prog 44 = some (56, 4) := by kernel_rfl
theorem tArr44 : tArr Try.prog 44 = none := by kernel_rfl
theorem tAgg44 : tAgg Try.prog 44 = some (false) := by kernel_rfl
theorem tSize44 : tSize Try.prog 44 = some (1) := by kernel_rfl
theorem tInt44 : tInt Try.prog 44 = none := by kernel_rfl
theorem tBytes44 : tBytes Try.prog 44 = some (24) := by kernel_rfl
theorem tKind44 : tKind Try.prog 44 = .other := by kernel_rfl
theorem tZero44 : tZero Try.prog 44 = some (.osl 4 []) := by kernel_rfl
theorem tSlice45 : tSlice Try.prog 45 = none := by kernel_rfl
theorem tArr45 : tArr Try.prog 45 = none := by kernel_rfl
theorem tAgg45 : tAgg Try.prog 45 = some (false) := by kernel_rfl
theorem tSize45 : tSize Try.prog 45 = some (1) := by kernel_rfl
theorem tInt45 : tInt Try.prog 45 = none := by kernel_rfl
theorem tBytes45 : tBytes Try.prog 45 = some (8) := by kernel_rfl
theorem tKind45 : tKind Try.prog 45 = .other := by kernel_rfl
theorem tZero45 : tZero Try.prog 45 = some (.v (.nilFunc)) := by kernel_rfl
theorem tSlice46 : tSlice Try.prog 46 = none := by kernel_rfl
theorem tArr46 : tArr Try.prog 46 = none := by kernel_rfl
theorem tAgg46 : tAgg Try.prog 46 = some (false) := by kernel_rfl
theorem tSize46 : tSize Try.prog 46 = some (1) := by kernel_rfl
theorem tInt46 : tInt Try.prog 46 = none := by kernel_rfl
theorem tBytes46 : tBytes Try.prog 46 = some (8) := by kernel_rfl
theorem tKind46 : tKind Try.prog 46 = .other := by kernel_rfl
theorem tZero46 : tZero Try.prog 46 = some (.v (.nilFunc)) := by kernel_rfl
theorem tSlice47 : tSlice Try.prog 47 = none := by kernel_rfl
theorem tArr47 : tArr Try.prog 47 = none := by kernel_rfl
theorem tAgg47 : tAgg Try.prog 47 = some (false) := by kernel_rfl
theorem tSize47 : tSize Try.prog 47 = some (1) := by kernel_rfl
theorem tInt47 : tInt Try.prog 47 = none := by kernel_rfl
theorem tBytes47 : tBytes Try.prog 47 = some (8) := by kernel_rfl
theorem tKind47 : tKind Try.prog 47 = .other := by kernel_rfl
theorem tZero47 : tZero Try.prog 47 = some (.v (.nilFunc)) := by kernel_rfl
theorem tSlice48 : tSlice Try.prog 48 = none := by kernel_rfl
theorem tArr48 : tArr Try.prog 48 = none := by kernel_rfl
theorem tAgg48 : tAgg Try.prog 48 = some (false) := by kernel_rfl
theorem tSize48 : tSize Try.prog 48 = some (1) := by kernel_rfl
theorem tInt48 : tInt Try.prog 48 = none := by kernel_rfl
theorem tBytes48 : tBytes Try.prog 48 = some (8) := by kernel_rfl
theorem tKind48 : tKind Try.prog 48 = .other := by kernel_rfl
theorem tZero48 : tZero Try.prog 48 = some (.v (.nilFunc)) := by kernel_rfl
theorem tSlice49 : tSlice Try.prog 49 = some (3, 1) := by kernel_rfl
theorem tArr49 : tArr Try.prog 49 = none := by kernel_rfl
theorem tAgg49 : tAgg Try.prog 49 = some (false) := by kernel_rfl
theorem tSize49 : tSize Try.prog 49 = some (1) := by kernel_rfl
theorem tInt49 : tInt Try.prog 49 = none := by kernel_rfl
theorem tBytes49 : tBytes Try.prog 49 = some (24) := by kernel_rfl
theorem tKind49 : tKind Try.prog 49 = .other := by kernel_rfl
theorem tZero49 : tZero Try.prog 49 = some (.osl 1 []) := by kernel_rfl
theorem tSlice50 : tSlice Try.prog 50 = none := by kernel_rfl
theorem tArr50 : tArr Try.prog 50 = none := by kernel_rfl
theorem tAgg50 : tAgg Try.prog 50 = some (false) := by kernel_rfl
theorem tSize50 : tSize Try.prog 50 = some (1) := by kernel_rfl
theorem tInt50 : tInt Try.prog 50 = none := by kernel_rfl
theorem tBytes50 : tBytes Try.prog 50 = some (0) := by kernel_rfl
theorem tKind50 : tKind Try.prog 50 = .other := by kernel_rfl
theorem tZero50 : tZero Try.prog 50 = none := by kernel_rfl
theorem tSlice51 : tSlice Try.prog 51 = none := by kernel_rfl
theorem tArr51 : tArr Try.prog 51 = none := by kernel_rfl
theorem tAgg51 : tAgg Try.prog 51 = some (false) := by kernel_rfl
theorem tSize51 : tSize Try.prog 51 = some (1) := by kernel_rfl
theorem tInt51 : tInt Try.prog 51 = none := by kernel_rfl
theorem tBytes51 : tBytes Try.prog 51 = some (8) := by kernel_rfl
theorem tKind51 : tKind Try.prog 51 = .other := by kernel_rfl
theorem tZero51 : tZero Try.prog 51 = some (.v (.nilFunc)) := by kernel_rfl
theorem tSlice52 : tSlice Try.prog 52 = none := by kernel_rfl
theorem tArr52 : tArr Try.prog 52 = none := by kernel_rfl
theorem tAgg52 : tAgg Try.prog 52 = some (false) := by kernel_rfl
theorem tSize52 : tSize Try.prog 52 = some (1) := by kernel_rfl
theorem tInt52 : tInt Try.prog 52 = none := by kernel_rfl
theorem tBytes52 : tBytes Try.prog 52 = some (8) := by kernel_rfl
theorem tKind52 : tKind Try.prog 52 = .other := by kernel_rfl
theorem tZero52 : tZero Try.prog 52 = some (.v (.nilFunc)) := by kernel_rfl
theorem tSlice53 : tSlice Try.prog 53 = none := by kernel_rfl
theorem tArr53 : tArr Try.prog 53 = none := by kernel_rfl
theorem tAgg53 : tAgg Try.prog 53 = some (false) := by kernel_rfl
theorem tSize53 : tSize Try.prog 53 = some (1) := by kernel_rfl
theorem tInt53 : tInt Try.prog 53 = none := by kernel_rfl
theorem tBytes53 : tBytes Try.prog 53 = some (8) := by kernel_rfl
theorem tKind53 : tKind Try.prog 53 = .other := by kernel_rfl
theorem tZero53 : tZero Try.prog 53 = some (.v (.nilFunc)) := by kernel_rfl
theorem tSlice54 : tSlice Try.prog 54 = none := by kernel_rfl
theorem tArr54 : tArr Try.prog 54 = none := by kernel_rfl
theorem tAgg54 : tAgg Try.prog 54 = some (false) := by kernel_rfl
theorem tSize54 : tSize Try.prog 54 = some (1) := by kernel_rfl
theorem tInt54 : tInt Try.prog 54 = none := by kernel_rfl
theorem tBytes54 : tBytes Try.prog 54 = some (8) := by kernel_rfl
theorem tKind54 : tKind Try.prog 54 = .other := by kernel_rfl
theorem tZero54 : tZero Try.prog 54 = some (.v (.nilFunc)) := by kernel_rfl
theorem tSlice55 : tSlice Try.prog 55 = none := by kernel_rfl
theorem tArr55 : tArr Try.prog 55 = none := by kernel_rfl
theorem tAgg55 : tAgg Try.prog 55 = some (true) := by kernel_rfl
theorem tSize55 : tSize Try.prog 55 = some (4) := by kernel_rfl
theorem tInt55 : tInt Try.prog 55 = none := by kernel_rfl
theorem tBytes55 : tBytes Try.prog 55 = some (48) := by kernel_rfl
theorem tKind55 : tKind Try.prog 55 = .other := by kernel_rfl
theorem tZero55 : tZero Try.prog 55 = some (.agg [.v (.int .i64 0), .v (.int .i64 0), .v (.int .u64 0), .osl 1 []]) := by kernel_rfl
theorem tFld55_0 : tFld Try.prog 55 0 = some (0, 3, 1) := by kernel_rfl
theorem tFld55_1 : tFld Try.prog 55 1 = some (1, 3, 1) := by kernel_rfl
theorem tFld55_2 : tFld Try.prog 55 2 = some (2, 23, 1) := by kernel_rfl
theorem tFld55_3 : tFld Try.prog 55 3 = some (3, 22, 1) := by kernel_rfl
theorem tPlaces55 : tPlaces Try.prog 55 = some ([(0, 1), (1, 1), (2, 1), (3, 1)]) := by kernel_rfl
theorem tSlice56 : tSlice Try.prog 56 = none := by kernel_rfl
theorem tArr56 : tArr Try.prog 56 = none := by kernel_rfl
theorem tAgg56 : tAgg Try.prog 56 = some (true) := by kernel_rfl
theorem tSize56 : tSize Try.prog 56 = some (4) := by kernel_rfl
theorem tInt56 : tInt Try.prog 56 = none := by kernel_rfl
theorem tBytes56 : tBytes Try.prog 56 = some (48) := by kernel_rfl
theorem tKind56 : tKind Try.prog 56 = .other := by kernel_rfl
theorem tZero56 : tZero Try.prog 56 = some (.agg [.v (.int .i64 0), .v (.int .i64 0), .v (.int .u64 0), .osl 1 []]) := by kernel_rfl
theorem tFld56_0 : tFld Try.prog 56 0 = some (0, 3, 1) := by kernel_rfl
theorem tFld56_1 : tFld Try.prog 56 1 = some (1, 3, 1) := by kernel_rfl
theorem tFld56_2 : tFld Try.prog 56 2 = some (2, 23, 1) := by kernel_rfl
theorem tFld56_3 : tFld Try.prog 56 3 = some (3, 22, 1) := by kernel_rfl
theorem tPlaces56 : tPlaces Try.prog 56 = some ([(0, 1), (1, 1), (2, 1), (3, 1)]) := by kernel_rfl
theorem tSlice57 : tSlice Try.prog 57 = none := by kernel_rfl
theorem tArr57 : tArr Try.prog 57 = none := by kernel_rfl
theorem tAgg57 : tAgg Try.prog 57 = some (false) := by kernel_rfl
theorem tSize57 : tSize Try.prog 57 = some (1) := by kernel_rfl
theorem tInt57 : tInt Try.prog 57 = none := by kernel_rfl
theorem tBytes57 : tBytes Try.prog 57 = some (8) := by kernel_rfl
theorem tKind57 : tKind Try.prog 57 = .other := by kernel_rfl
theorem tZero57 : tZero Try.prog 57 = some (.v (.nilFunc)) := by kernel_rfl
theorem tSlice58 : tSlice Try.prog 58 = none := by kernel_rfl
theorem tArr58 : tArr Try.prog 58 = none := by kernel_rfl
theorem tAgg58 : tAgg Try.prog 58 = some (false) := by kernel_rfl
theorem tSize58 : tSize Try.prog 58 = some (1) := by kernel_rfl
theorem tInt58 : tInt Try.prog 58 = none := by kernel_rfl
theorem tBytes58 : tBytes Try.prog 58 = some (0) := by kernel_rfl
theorem tKind58 : tKind Try.prog 58 = .other := by kernel_rfl
theorem tZero58 : tZero Try.prog 58 = none := by kernel_rfl
theorem tSlice59 : tSlice Try.prog 59 = none := by kernel_rfl
theorem tArr59 : tArr Try.prog 59 = none := by kernel_rfl
theorem tAgg59 : tAgg Try.prog 59 = some (false) := by kernel_rfl
theorem tSize59 : tSize Try.prog 59 = some (1) := by kernel_rfl
theorem tInt59 : tInt Try.prog 59 = none := by kernel_rfl
theorem tBytes59 : tBytes Try.prog 59 = some (8) := by kernel_rfl
theorem tKind59 : tKind Try.prog 59 = .other := by kernel_rfl
theorem tZero59 : tZero Try.prog 59 = some (.v (.nilFunc)) := by kernel_rfl
theorem tSlice60 : tSlice Try.prog 60 = none := by kernel_rfl
theorem tArr60 : tArr Try.prog 60 = some (4, 3, 1) := by kernel_rfl
theorem tAgg60 : tAgg Try.prog 60 = some (true) := by kernel_rfl
theorem tSize60 : tSize Try.prog 60 = some (4) := by kernel_rfl
theorem tInt60 : tInt Try.prog 60 = none := by kernel_rfl
theorem tBytes60 : tBytes Try.prog 60 = some (32) := by kernel_rfl
theorem tKind60 : tKind Try.prog 60 = .other := by kernel_rfl
theorem tZero60 : tZero Try.prog 60 = some (.arr 4 [.v (.int .i64 0), .v (.int .i64 0), .v (.int .i64 0), .v (.int .i64 0)]) := by kernel_rfl
theorem tSlice61 : tSlice Try.prog 61 = none := by kernel_rfl
theorem tArr61 : tArr Try.prog 61 = none := by kernel_rfl
theorem tAgg61 : tAgg Try.prog 61 = some (false) := by kernel_rfl
theorem tSize61 : tSize Try.prog 61 = some (1) := by kernel_rfl
theorem tInt61 : tInt Try.prog 61 = none := by kernel_rfl
theorem tBytes61 : tBytes Try.prog 61 = some (8) := by kernel_rfl
theorem tKind61 : tKind Try.prog 61 = .other := by kernel_rfl
theorem tZero61 : tZero Try.prog 61 = some (.v (.nilFunc)) := by kernel_rfl
theorem tSlice62 : tSlice Try.prog 62 = none := by kernel_rfl
theorem tArr62 : tArr Try.prog 62 = none := by kernel_rfl
theorem tAgg62 : tAgg Try.prog 62 = some (false) := by kernel_rfl
theorem tSize62 : tSize Try.prog 62 = some (1) := by kernel_rfl
theorem tInt62 : tInt Try.prog 62 = none := by kernel_rfl
theorem tBytes62 : tBytes Try.prog 62 = some (8) := by kernel_rfl
theorem tKind62 : tKind Try.prog 62 = .other := by kernel_rfl
theorem tZero62 : tZero Try.prog 62 = some (.v (.nilFunc)) := by kernel_rfl
theorem tSlice63 : tSlice Try.prog 63 = none := by kernel_rfl
theorem tArr63 : tArr Try.prog 63 = none := by kernel_rfl
theorem tAgg63 : tAgg Try.prog 63 = some (false) := by kernel_rfl
theorem tSize63 : tSize Try.prog 63 = some (1) := by kernel_rfl
theorem tInt63 : tInt Try.prog 63 = none := by kernel_rfl
theorem tBytes63 : tBytes Try.prog 63 = some (8) := by kernel_rfl
theorem tKind63 : tKind Try.prog 63 = .other := by kernel_rfl
theorem tZero63 : tZero Try.prog 63 = some (.v (.nilFunc)) := by kernel_rfl
theorem tSlice64 : tSlice Try.prog 64 = none := by kernel_rfl
theorem tArr64 : tArr Try.prog 64 = none := by kernel_rfl
theorem tAgg64 : tAgg Try.prog 64 = some (false) := by kernel_rfl
theorem tSize64 : tSize Try.prog 64 = some (1) := by kernel_rfl
theorem tInt64 : tInt Try.prog 64 = none := by kernel_rfl
theorem tBytes64 : tBytes Try.prog 64 = some (8) := by kernel_rfl
theorem tKind64 : tKind Try.prog 64 = .other := by kernel_rfl
theorem tZero64 : tZero Try.prog 64 = some (.v (.nilFunc)) := by kernel_rfl
theorem tSlice65 : tSlice Try.prog 65 = none := by kernel_rfl
theorem tArr65 : tArr Try.prog 65 = none := by kernel_rfl
theorem tAgg65 : tAgg Try.prog 65 = some (false) := by kernel_rfl
theorem tSize65 : tSize Try.prog 65 = some (1) := by kernel_rfl
theorem tInt65 : tInt Try.prog 65 = none := by kernel_rfl
theorem tBytes65 : tBytes Try.prog 65 = some (8) := by kernel_rfl
theorem tKind65 : tKind Try.prog 65 = .other := by kernel_rfl
theorem tZero65 : tZero Try.prog 65 = some (.v (.nilFunc)) := by kernel_rfl
theorem tSlice66 : tSlice Try.prog 66 = none := by kernel_rfl
theorem tArr66 : tArr Try.prog 66 = none := by kernel_rfl
theorem tAgg66 : tAgg Try.prog 66 = some (false) := by kernel_rfl
theorem tSize66 : tSize Try.prog 66 = some (1) := by kernel_rfl
theorem tInt66 : tInt Try.prog 66 = none := by kernel_rfl
theorem tBytes66 : tBytes Try.prog 66 = some (8) := by kernel_rfl
theorem tKind66 : tKind Try.prog 66 = .other := by kernel_rfl
theorem tZero66 : tZero Try.prog 66 = some (.v (.pointer none)) := by kernel_rfl
theorem tSlice67 : tSlice Try.prog 67 = none := by kernel_rfl
theorem tArr67 : tArr Try.prog 67 = none := by kernel_rfl
theorem tAgg67 : tAgg Try.prog 67 = some (false) := by kernel_rfl
theorem tSize67 : tSize Try.prog 67 = some (1) := by kernel_rfl
theorem tInt67 : tInt Try.prog 67 = none := by kernel_rfl
theorem tBytes67 : tBytes Try.prog 67 = some (8) := by kernel_rfl
theorem tKind67 : tKind Try.prog 67 = .other := by kernel_rfl
theorem tZero67 : tZero Try.prog 67 = some (.v (.pointer none)) := by kernel_rfl
theorem tSlice68 : tSlice Try.prog 68 = none := by kernel_rfl
theorem tArr68 : tArr Try.prog 68 = none := by kernel_rfl
theorem tAgg68 : tAgg Try.prog 68 = some (false) := by kernel_rfl
theorem tSize68 : tSize Try.prog 68 = some (1) := by kernel_rfl
theorem tInt68 : tInt Try.prog 68 = none := by kernel_rfl
theorem tBytes68 : tBytes Try.prog 68 = some (8) := by kernel_rfl
theorem tKind68 : tKind Try.prog 68 = .other := by kernel_rfl
theorem tZero68 : tZero Try.prog 68 = some (.v (.nilFunc)) := by kernel_rfl
theorem tSlice69 : tSlice Try.prog 69 = none := by kernel_rfl
theorem tArr69 : tArr Try.prog 69 = none := by kernel_rfl
theorem tAgg69 : tAgg Try.prog 69 = some (false) := by kernel_rfl
theorem tSize69 : tSize Try.prog 69 = some (1) := by kernel_rfl
theorem tInt69 : tInt Try.prog 69 = none := by kernel_rfl
theorem tBytes69 : tBytes Try.prog 69 = some (8) := by kernel_rfl
theorem tKind69 : tKind Try.prog 69 = .other := by kernel_rfl
theorem tZero69 : tZero Try.prog 69 = some (.v (.nilFunc)) := by kernel_rfl
theorem tSlice70 : tSlice Try.prog 70 = none := by kernel_rfl
theorem tArr70 : tArr Try.prog 70 = none := by kernel_rfl
theorem tAgg70 : tAgg Try.prog 70 = some (false) := by kernel_rfl
theorem tSize70 : tSize Try.prog 70 = some (1) := by kernel_rfl
theorem tInt70 : tInt Try.prog 70 = none := by kernel_rfl
theorem tBytes70 : tBytes Try.prog 70 = some (8) := by kernel_rfl
theorem tKind70 : tKind Try.prog 70 = .other := by kernel_rfl
theorem tZero70 : tZero Try.prog 70 = some (.v (.nilFunc)) := by kernel_rfl
theorem tSlice71 : tSlice Try.prog 71 = none := by kernel_rfl
theorem tArr71 : tArr Try.prog 71 = none := by kernel_rfl
theorem tAgg71 : tAgg Try.prog 71 = some (false) := by kernel_rfl
theorem tSize71 : tSize Try.prog 71 = some (1) := by kernel_rfl
theorem tInt71 : tInt Try.prog 71 = none := by kernel_rfl
theorem tBytes71 : tBytes Try.prog 71 = some (8) := by kernel_rfl
theorem tKind71 : tKind Try.prog 71 = .other := by kernel_rfl
theorem tZero71 : tZero Try.prog 71 = some (.v (.nilFunc)) := by kernel_rfl
theorem tSlice72 : tSlice Try.prog 72 = none := by kernel_rfl
theorem tArr72 : tArr Try.prog 72 = none := by kernel_rfl
theorem tAgg72 : tAgg Try.prog 72 = some (false) := by kernel_rfl
theorem tSize72 : tSize Try.prog 72 = some (1) := by kernel_rfl
theorem tInt72 : tInt Try.prog 72 = none := by kernel_rfl
theorem tBytes72 : tBytes Try.prog 72 = some (8) := by kernel_rfl
theorem tKind72 : tKind Try.prog 72 = .other := by kernel_rfl
theorem tZero72 : tZero Try.prog 72 = some (.v (.nilFunc)) := by kernel_rfl
theorem tSlice73 : tSlice Try.prog 73 = none := by kernel_rfl
theorem tArr73 : tArr Try.prog 73 = none := by kernel_rfl
theorem tAgg73 : tAgg Try.prog 73 = some (false) := by kernel_rfl
theorem tSize73 : tSize Try.prog 73 = some (1) := by kernel_rfl
theorem tInt73 : tInt Try.prog 73 = none := by kernel_rfl
theorem tBytes73 : tBytes Try.prog 73 = some (0) := by kernel_rfl
theorem tKind73 : tKind Try.prog 73 = .other := by kernel_rfl
theorem tZero73 : tZero Try.prog 73 = none := by kernel_rfl
theorem tSlice74 : tSlice Try.prog 74 = none := by kernel_rfl
theorem tArr74 : tArr Try.prog 74 = none := by kernel_rfl
theorem tAgg74 : tAgg Try.prog 74 = some (false) := by kernel_rfl
theorem tSize74 : tSize Try.prog 74 = some (1) := by kernel_rfl
theorem tInt74 : tInt Try.prog 74 = none := by kernel_rfl
theorem tBytes74 : tBytes Try.prog 74 = some (8) := by kernel_rfl
theorem tKind74 : tKind Try.prog 74 = .other := by kernel_rfl
theorem tZero74 : tZero Try.prog 74 = some (.v (.nilFunc)) := by kernel_rfl
theorem tSlice75 : tSlice Try.prog 75 = none := by kernel_rfl
theorem tArr75 : tArr Try.prog 75 = none := by kernel_rfl
theorem tAgg75 : tAgg Try.prog 75 = some (false) := by kernel_rfl
theorem tSize75 : tSize Try.prog 75 = some (1) := by kernel_rfl
theorem tInt75 : tInt Try.prog 75 = none := by kernel_rfl
theorem tBytes75 : tBytes Try.prog 75 = some (8) := by kernel_rfl
theorem tKind75 : tKind Try.prog 75 = .other := by kernel_rfl
theorem tZero75 : tZero Try.prog 75 = some (.v (.nilFunc)) := by kernel_rfl
theorem tSlice76 : tSlice Try.prog 76 = none := by kernel_rfl
theorem tArr76 : tArr Try.prog 76 = none := by kernel_rfl
theorem tAgg76 : tAgg Try.prog 76 = some (false) := by kernel_rfl
theorem tSize76 : tSize Try.prog 76 = some (1) := by kernel_rfl
theorem tInt76 : tInt Try.prog 76 = none := by kernel_rfl
theorem tBytes76 : tBytes Try.prog 76 = some (0) := by kernel_rfl
theorem tKind76 : tKind Try.prog 76 = .other := by kernel_rfl
theorem tZero76 : tZero Try.prog 76 = none := by kernel_rfl
theorem tSlice77 : tSlice Try.prog 77 = none := by kernel_rfl
theorem tArr77 : tArr Try.prog 77 = none := by kernel_rfl
theorem tAgg77 : tAgg Try.prog 77 = some (false) := by kernel_rfl
theorem tSize77 : tSize Try.prog 77 = some (1) := by kernel_rfl
theorem tInt77 : tInt Try.prog 77 = none := by kernel_rfl
theorem tBytes77 : tBytes Try.prog 77 = some (8) := by kernel_rfl
theorem tKind77 : tKind Try.prog 77 = .other := by kernel_rfl
theorem tZero77 : tZero Try.prog 77 = some (.v (.nilFunc)) := by kernel_rfl
theorem tSlice78 : tSlice Try.prog 78 = none := by kernel_rfl
theorem tArr78 : tArr Try.prog 78 = none := by kernel_rfl
theorem tAgg78 : tAgg Try.prog 78 = some (false) := by kernel_rfl
theorem tSize78 : tSize Try.prog 78 = some (1) := by kernel_rfl
theorem tInt78 : tInt Try.prog 78 = none := by kernel_rfl
theorem tBytes78 : tBytes Try.prog 78 = some (8) := by kernel_rfl
theorem tKind78 : tKind Try.prog 78 = .other := by kernel_rfl
theorem tZero78 : tZero Try.prog 78 = some (.v (.nilFunc)) := by kernel_rfl
theorem tSlice79 : tSlice Try.prog 79 = none := by kernel_rfl
theorem tArr79 : tArr Try.prog 79 = none := by kernel_rfl
theorem tAgg79 : tAgg Try.prog 79 = some (false) := by kernel_rfl
theorem tSize79 : tSize Try.prog 79 = some (1) := by kernel_rfl
theorem tInt79 : tInt Try.prog 79 = none := by kernel_rfl
theorem tBytes79 : tBytes Try.prog 79 = some (8) := by kernel_rfl
theorem tKind79 : tKind Try.prog 79 = .other := by kernel_rfl
theorem tZero79 : tZero Try.prog 79 = some (.v (.nilFunc)) := by kernel_rfl
theorem tSlice80 : tSlice Try.prog 80 = none := by kernel_rfl
theorem tArr80 : tArr Try.prog 80 = none := by kernel_rfl
theorem tAgg80 : tAgg Try.prog 80 = some (false) := by kernel_rfl
theorem tSize80 : tSize Try.prog 80 = some (1) := by kernel_rfl
theorem tInt80 : tInt Try.prog 80 = none := by kernel_rfl
theorem tBytes80 : tBytes Try.prog 80 = some (8) := by kernel_rfl
theorem tKind80 : tKind Try.prog 80 = .other := by kernel_rfl
theorem tZero80 : tZero Try.prog 80 = some (.v (.nilFunc)) := by kernel_rfl
theorem tSlice81 : tSlice Try.prog 81 = none := by kernel_rfl
theorem tArr81 : tArr Try.prog 81 = none := by kernel_rfl
theorem tAgg81 : tAgg Try.prog 81 = some (false) := by kernel_rfl
theorem tSize81 : tSize Try.prog 81 = some (1) := by kernel_rfl
theorem tInt81 : tInt Try.prog 81 = none := by kernel_rfl
theorem tBytes81 : tBytes Try.prog 81 = some (8) := by kernel_rfl
theorem tKind81 : tKind Try.prog 81 = .other := by kernel_rfl
theorem tZero81 : tZero Try.prog 81 = some (.v (.nilFunc)) := by kernel_rfl
theorem tSlice82 : tSlice Try.prog 82 = none := by kernel_rfl
theorem tArr82 : tArr Try.prog 82 = none := by kernel_rfl
theorem tAgg82 : tAgg Try.prog 82 = some (false) := by kernel_rfl
theorem tSize82 : tSize Try.prog 82 = some (1) := by kernel_rfl
theorem tInt82 : tInt Try.prog 82 = none := by kernel_rfl
theorem tBytes82 : tBytes Try.prog 82 = some (8) := by kernel_rfl
theorem tKind82 : tKind Try.prog 82 = .other := by kernel_rfl
theorem tZero82 : tZero Try.prog 82 = some (.v (.pointer none)) := by kernel_rfl
theorem goFn3 : goFn Try.prog 3 = true := by kernel_rfl
theorem goFn4 : goFn Try.prog 4 = true := by kernel_rfl
theorem goFn5 : goFn Try.prog 5 = true := by kernel_rfl
theorem goFn6 : goFn Try.prog 6 = true := by kernel_rfl
theorem goFn7 : goFn Try.prog 7 = true := by kernel_rfl
theorem goFn8 : goFn Try.prog 8 = true := by kernel_rfl
theorem goFn9 : goFn Try.prog 9 = true := by kernel_rfl
theorem goFn10 : goFn Try.prog 10 = true := by kernel_rfl
theorem goFn11 : goFn Try.prog 11 = true := by kernel_rfl
theorem goFn12 : goFn Try.prog 12 = true := by kernel_rfl
theorem goFn13 : goFn Try.prog 13 = true := by kernel_rfl
theorem goFn14 : goFn Try.prog 14 = true := by kernel_rfl
theorem goFn15 : goFn Try.prog 15 = true := by kernel_rfl
theorem goFn16 : goFn Try.prog 16 = true := by kernel_rfl
theorem goFn17 : goFn Try.prog 17 = true := by kernel_rfl
theorem goFn18 : goFn Try.prog 18 = true := by kernel_rfl
theorem goFn19 : goFn Try.prog 19 = true := by kernel_rfl
theorem goFn20 : goFn Try.prog 20 = true := by kernel_rfl
theorem goFn21 : goFn Try.prog 21 = true := by kernel_rfl
theorem goFn22 : goFn Try.prog 22 = true := by kernel_rfl
theorem goFn23 : goFn Try.prog 23 = true := by kernel_rfl
theorem goFn24 : goFn Try.prog 24 = true := by kernel_rfl
theorem goFn25 : goFn Try.prog 25 = true := by kernel_rfl
theorem goFn26 : goFn Try.prog 26 = true := by kernel_rfl
theorem goFn27 : goFn Try.prog 27 = true := by kernel_rfl
theorem goFn28 : goFn Try.prog 28 = true := by kernel_rfl
theorem goFn29 : goFn Try.prog 29 = true := by kernel_rfl
theorem goFn30 : goFn Try.prog 30 = true := by kernel_rfl
theorem goFn31 : goFn Try.prog 31 = true := by kernel_rfl
theorem goFn32 : goFn Try.prog 32 = true := by kernel_rfl
theorem goFn33 : goFn Try.prog 33 = true := by kernel_rfl
theorem goFn34 : goFn Try.prog 34 = true := by kernel_rfl
theorem goFn35 : goFn Try.prog 35 = true := by kernel_rfl
theorem goFn36 : goFn Try.prog 36 = true := by kernel_rfl
theorem goFn37 : goFn Try.prog 37 = true := by kernel_rfl
theorem goFn38 : goFn Try.prog 38 = true := by kernel_rfl
theorem goFn39 : goFn Try.prog 39 = true := by kernel_rfl
theorem goFn40 : goFn Try.prog 40 = true := by kernel_rfl
theorem goFn41 : goFn Try.prog 41 = true := by kernel_rfl
theorem goFn42 : goFn Try.prog 42 = true := by kernel_rfl
theorem goFn43 : goFn Try.prog 43 = true := by kernel_rfl
theorem goFn44 : goFn Try.prog 44 = true := by kernel_rfl
theorem goFn45 : goFn Try.prog 45 = true := by kernel_rfl
theorem goFn46 : goFn Try.prog 46 = true := by kernel_rfl
theorem goFn47 : goFn Try.prog 47 = true := by kernel_rfl
theorem goFn48 : goFn Try.prog 48 = true := by kernel_rfl
theorem goFn49 : goFn Try.prog 49 = true := by kernel_rfl
theorem goFn50 : goFn Try.prog 50 = true := by kernel_rfl
theorem goFn51 : goFn Try.prog 51 = true := by kernel_rfl
theorem goFn52 : goFn Try.prog 52 = true := by kernel_rfl
theorem goFn53 : goFn Try.prog 53 = true := by kernel_rfl
theorem goFn54 : goFn Try.prog 54 = true := by kernel_rfl
attribute [go_sem] tSlice3 tArr3 tAgg3 tSize3 tInt3 tBytes3 tKind3 tZero3 tSlice4 tArr4 tAgg4 tSize4 tInt4 tBytes4 tKind4 tZero4 tSlice5 tArr5 tAgg5 tSize5 tInt5 tBytes5 tKind5 tZero5 tSlice22 tArr22 
  tAgg22 tSize22 tInt22 tBytes22 tKind22 tZero22 tSlice23 tArr23 tAgg23 tSize23 tInt23 tBytes23 tKind23 tZero23 tSlice24 tArr24 tAgg24 tSize24 tInt24 tBytes24 tKind24 tZero24 tSlice25 tArr25 tAgg25 
  tSize25 tInt25 tBytes25 tKind25 tZero25 tSlice26 tArr26 tAgg26 tSize26 tInt26 tBytes26 tKind26 tZero26 tSlice27 tArr27 tAgg27 tSize27 tInt27 tBytes27 tKind27 tZero27 tSlice28 tArr28 tAgg28 tSize28 
  tInt28 tBytes28 tKind28 tZero28 tSlice29 tArr29 tAgg29 tSize29 tInt29 tBytes29 tKind29 tZero29 tSlice30 tArr30 tAgg30 tSize30 tInt30 tBytes30 tKind30 tZero30 tSlice31 tArr31 tAgg31 tSize31 tInt31 
  tBytes31 tKind31 tZero31 tSlice32 tArr32 tAgg32 tSize32 tInt32 tBytes32 tKind32 tZero32 tSlice33 tArr33 tAgg33 tSize33 tInt33 tBytes33 tKind33 tZero33 tSlice34 tArr34 tAgg34 tSize34 tInt34 tBytes34 
  tKind34 tZero34 tSlice35 tArr35 tAgg35 tSize35 tInt35 tBytes35 tKind35 tZero35 tSlice36 tArr36 tAgg36 tSize36 tInt36 tBytes36 tKind36 tZero36 tSlice37 tArr37 tAgg37 tSize37 tInt37 tBytes37 tKind37 
  tZero37 tSlice38 tArr38 tAgg38 tSize38 tInt38 tBytes38 tKind38 tZero38 tSlice39 tArr39 tAgg39 tSize39 tInt39 tBytes39 tKind39 tZero39 tSlice40 tArr40 tAgg40 tSize40 tInt40 tBytes40 tKind40 tZero40 
  tSlice41 tArr41 tAgg41 tSize41 tInt41 tBytes41 tKind41 tZero41 tSlice42 tArr42 tAgg42 tSize42 tInt42 tBytes42 tKind42 tZero42 tSlice43 tArr43 tAgg43 tSize43 tInt43 tBytes43 tKind43 tZero43 tSlice44 
  tArr44 tAgg44 tSize44 tInt44 tBytes44 tKind44 tZero44 tSlice45 tArr45 tAgg45 tSize45 tInt45 tBytes45 tKind45 tZero45 tSlice46 tArr46 tAgg46 tSize46 tInt46 tBytes46 tKind46 tZero46 tSlice47 tArr47 
  tAgg47 tSize47 tInt47 tBytes47 tKind47 tZero47 tSlice48 tArr48 tAgg48 tSize48 tInt48 tBytes48 tKind48 tZero48 tSlice49 tArr49 tAgg49 tSize49 tInt49 tBytes49 tKind49 tZero49 tSlice50 tArr50 tAgg50 
  tSize50 tInt50 tBytes50 tKind50 tZero50 tSlice51 tArr51 tAgg51 tSize51 tInt51 tBytes51 tKind51 tZero51 tSlice52 tArr52 tAgg52 tSize52 tInt52 tBytes52 tKind52 tZero52 tSlice53 tArr53 tAgg53 tSize53 
  tInt53 tBytes53 tKind53 tZero53 tSlice54 tArr54 tAgg54 tSize54 tInt54 tBytes54 tKind54 tZero54 tSlice55 tArr55 tAgg55 tSize55 tInt55 tBytes55 tKind55 tZero55 tFld55_0 tFld55_1 tFld55_2 tFld55_3 
  tPlaces55 tSlice56 tArr56 tAgg56 tSize56 tInt56 tBytes56 tKind56 tZero56 tFld56_0 tFld56_1 tFld56_2 tFld56_3 tPlaces56 tSlice57 tArr57 tAgg57 tSize57 tInt57 tBytes57 tKind57 tZero57 tSlice58 tArr58 
  tAgg58 tSize58 tInt58 tBytes58 tKind58 tZero58 tSlice59 tArr59 tAgg59 tSize59 tInt59 tBytes59 tKind59 tZero59 tSlice60 tArr60 tAgg60 tSize60 tInt60 tBytes60 tKind60 tZero60 tSlice61 tArr61 tAgg61 
  tSize61 tInt61 tBytes61 tKind61 tZero61 tSlice62 tArr62 tAgg62 tSize62 tInt62 tBytes62 tKind62 tZero62 tSlice63 tArr63 tAgg63 tSize63 tInt63 tBytes63 tKind63 tZero63 tSlice64 tArr64 tAgg64 tSize64 
  tInt64 tBytes64 tKind64 tZero64 tSlice65 tArr65 tAgg65 tSize65 tInt65 tBytes65 tKind65 tZero65 tSlice66 tArr66 tAgg66 tSize66 tInt66 tBytes66 tKind66 tZero66 tSlice67 tArr67 tAgg67 tSize67 tInt67 
  tBytes67 tKind67 tZero67 tSlice68 tArr68 tAgg68 tSize68 tInt68 tBytes68 tKind68 tZero68 tSlice69 tArr69 tAgg69 tSize69 tInt69 tBytes69 tKind69 tZero69 tSlice70 tArr70 tAgg70 tSize70 tInt70 tBytes70 
  tKind70 tZero70 tSlice71 tArr71 tAgg71 tSize71 tInt71 tBytes71 tKind71 tZero71 tSlice72 tArr72 tAgg72 tSize72 tInt72 tBytes72 tKind72 tZero72 tSlice73 tArr73 tAgg73 tSize73 tInt73 tBytes73 tKind73 
  tZero73 tSlice74 tArr74 tAgg74 tSize74 tInt74 tBytes74 tKind74 tZero74 tSlice75 tArr75 tAgg75 tSize75 tInt75 tBytes75 tKind75 tZero75 tSlice76 tArr76 tAgg76 tSize76 tInt76 tBytes76 tKind76 tZero76 
  tSlice77 tArr77 tAgg77 tSize77 tInt77 tBytes77 tKind77 tZero77 tSlice78 tArr78 tAgg78 tSize78 tInt78 tBytes78 tKind78 tZero78 tSlice79 tArr79 tAgg79 tSize79 tInt79 tBytes79 tKind79 tZero79 tSlice80 
  tArr80 tAgg80 tSize80 tInt80 tBytes80 tKind80 tZero80 tSlice81 tArr81 tAgg81 tSize81 tInt81 tBytes81 tKind81 tZero81 tSlice82 tArr82 tAgg82 tSize82 tInt82 tBytes82 tKind82 tZero82 goFn3 Try.ntmps3 
  Try.results3 goFn4 Try.ntmps4 Try.results4 goFn5 Try.ntmps5 Try.results5 goFn6 Try.ntmps6 Try.results6 goFn7 Try.ntmps7 Try.results7 goFn8 Try.ntmps8 Try.results8 goFn9 Try.ntmps9 Try.results9 goFn10 
  Try.ntmps10 Try.results10 goFn11 Try.ntmps11 Try.results11 goFn12 Try.ntmps12 Try.results12 goFn13 Try.ntmps13 Try.results13 goFn14 Try.ntmps14 Try.results14 goFn15 Try.ntmps15 Try.results15 goFn16 
  Try.ntmps16 Try.results16 goFn17 Try.ntmps17 Try.results17 goFn18 Try.ntmps18 Try.results18 goFn19 Try.ntmps19 Try.results19 goFn20 Try.ntmps20 Try.results20 goFn21 Try.ntmps21 Try.results21 goFn22 
  Try.ntmps22 Try.results22 goFn23 Try.ntmps23 Try.results23 goFn24 Try.ntmps24 Try.results24 goFn25 Try.ntmps25 Try.results25 goFn26 Try.ntmps26 Try.results26 goFn27 Try.ntmps27 Try.results27 goFn28 
  Try.ntmps28 Try.results28 goFn29 Try.ntmps29 Try.results29 goFn30 Try.ntmps30 Try.results30 goFn31 Try.ntmps31 Try.results31 goFn32 Try.ntmps32 Try.results32 goFn33 Try.ntmps33 Try.results33 goFn34 
  Try.ntmps34 Try.results34 goFn35 Try.ntmps35 Try.results35 goFn36 Try.ntmps36 Try.results36 goFn37 Try.ntmps37 Try.results37 goFn38 Try.ntmps38 Try.results38 goFn39 Try.ntmps39 Try.results39 goFn40 
  Try.ntmps40 Try.results40 goFn41 Try.ntmps41 Try.results41 goFn42 Try.ntmps42 Try.results42 goFn43 Try.ntmps43 Try.results43 goFn44 Try.ntmps44 Try.results44 goFn45 Try.ntmps45 Try.results45 goFn46 
  Try.ntmps46 Try.results46 goFn47 Try.ntmps47 Try.results47 goFn48 Try.ntmps48 Try.results48 goFn49 Try.ntmps49 Try.results49 goFn50 Try.ntmps50 Try.results50 goFn51 Try.ntmps51 Try.results51 goFn52 
  Try.ntmps52 Try.results52 goFn53 Try.ntmps53 Try.results53 goFn54 Try.ntmps54 Try.results54 Try.underlying3 Try.underlying4 Try.underlying5 Try.underlying22 Try.underlying23 Try.underlying24 
  Try.underlying25 Try.underlying26 Try.underlying27 Try.underlying28 Try.underlying29 Try.underlying30 Try.underlying31 Try.underlying32 Try.underlying33 Try.underlying34 Try.underlying35 
  Try.underlying36 Try.underlying37 Try.underlying38 Try.underlying39 Try.underlying40 Try.underlying41 Try.underlying42 Try.underlying43 Try.underlying44 Try.underlying45 Try.underlying46 
  Try.underlying47 Try.underlying48 Try.underlying49 Try.underlying50 Try.underlying51 Try.underlying52 Try.underlying53 Try.underlying54 Try.underlying55 Try.underlying56 Try.underlying57 
  Try.underlying58 Try.underlying59 Try.underlying60 Try.underlying61 Try.underlying62 Try.underlying63 Try.underlying64 Try.underlying65 Try.underlying66 Try.underlying67 Try.underlying68 
  Try.underlying69 Try.underlying70 Try.underlying71 Try.underlying72 Try.underlying73 Try.underlying74 Try.underlying75 Try.underlying76 Try.underlying77 Try.underlying78 Try.underlying79 
  Try.underlying80 Try.underlying81 Try.underlying82
end Go.PA
