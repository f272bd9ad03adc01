/- The tables of the seat's program. -/
import Derived.Test.YtmacfbboiippoaaPA44
import Derived.KernelRfl
import Derived.Test.YtmacfbboiippoaaProg
namespace Go.PA
open Go.Proofs
theorem tSlice3 : tSlice Try.prog 3 = none := by kernel_rfl
theorem tArr3 : tArr Try.prog 3 = none := by kernel_rfl
theorem tAgg3 : tAgg Try.prog 3 = some (false) := by kernel_rfl
theorem tSize3 : tSize Try.prog 3 = some (1) := by kernel_rfl
theorem tInt3 : tInt Try.prog 3 = some (.i64) := by kernel_rfl
theorem tBytes3 : tBytes Try.prog 3 = some (8) := by kernel_rfl
theorem tKind3 : tKind Try.prog 3 = .int .i64 := by kernel_rfl
theorem tZero3 : tZero Try.prog 3 = some (.v (.int .i64 0)) := by kernel_rfl
theorem tSlice4 : tSlice Try.prog 4 = none := by kernel_rfl
theorem tArr4 : tArr Try.prog 4 = none := by kernel_rfl
theorem tAgg4 : tAgg Try.prog 4 = some (false) := by kernel_rfl
theorem tSize4 : tSize Try.prog 4 = some (1) := by kernel_rfl
theorem tInt4 : tInt Try.prog 4 = none := by kernel_rfl
theorem tBytes4 : tBytes Try.prog 4 = some (1) := by kernel_rfl
theorem tKind4 : tKind Try.prog 4 = .bool := by kernel_rfl
theorem tZero4 : tZero Try.prog 4 = some (.v (.bool false)) := by kernel_rfl
theorem tSlice5 : tSlice Try.prog 5 = none := by kernel_rfl
theorem tArr5 : tArr Try.prog 5 = none := by kernel_rfl
theorem tAgg5 : tAgg Try.prog 5 = some (false) := by kernel_rfl
theorem tSize5 : tSize Try.prog 5 = some (1) := by kernel_rfl
theorem tInt5 : tInt Try.prog 5 = some (.u8) := by kernel_rfl
theorem tBytes5 : tBytes Try.prog 5 = some (1) := by kernel_rfl
theorem tKind5 : tKind Try.prog 5 = .int .u8 := by kernel_rfl
theorem tZero5 : tZero Try.prog 5 = some (.v (.int .u8 0)) := by kernel_rfl
theorem tSlice22 : tSlice Try.prog 22 = some (5, 1) := by kernel_rfl
theorem tArr22 : tArr Try.prog 22 = none := by kernel_rfl
theorem tAgg22 : tAgg Try.prog 22 = some (false) := by kernel_rfl
theorem tSize22 : tSize Try.prog 22 = some (1) := by kernel_rfl
theorem tInt22 : tInt Try.prog 22 = none := by kernel_rfl
theorem tBytes22 : tBytes Try.prog 22 = some (24) := by kernel_rfl
theorem tKind22 : tKind Try.prog 22 = .other := by kernel_rfl
theorem tZero22 : tZero Try.prog 22 = some (.osl 1 []) := by kernel_rfl
theorem tSlice23 : tSlice Try.prog 23 = none := by kernel_rfl
theorem tArr23 : tArr Try.prog 23 = none := by kernel_rfl
theorem tAgg23 : tAgg Try.prog 23 = some (false) := by kernel_rfl
theorem tSize23 : tSize Try.prog 23 = some (1) := by kernel_rfl
theorem tInt23 : tInt Try.prog 23 = some (.u64) := by kernel_rfl
theorem tBytes23 : tBytes Try.prog 23 = some (8) := by kernel_rfl
theorem tKind23 : tKind Try.prog 23 = .int .u64 := by kernel_rfl
theorem tZero23 : tZero Try.prog 23 = some (.v (.int .u64 0)) := by kernel_rfl
theorem tSlice24 : tSlice Try.prog 24 = none := by kernel_rfl
theorem tArr24 : tArr Try.prog 24 = none := by kernel_rfl
theorem tAgg24 : tAgg Try.prog 24 = some (false) := by kernel_rfl
theorem tSize24 : tSize Try.prog 24 = some (1) := by kernel_rfl
theorem tInt24 : tInt Try.prog 24 = none := by kernel_rfl
theorem tBytes24 : tBytes Try.prog 24 = some (0) := by kernel_rfl
theorem tKind24 : tKind Try.prog 24 = .other := by kernel_rfl
theorem tZero24 : tZero Try.prog 24 = none := by kernel_rfl
theorem tSlice31 : tSlice Try.prog 31 = none := by kernel_rfl
theorem tArr31 : tArr Try.prog 31 = none := by kernel_rfl
theorem tAgg31 : tAgg Try.prog 31 = some (false) := by kernel_rfl
theorem tSize31 : tSize Try.prog 31 = some (1) := by kernel_rfl
theorem tInt31 : tInt Try.prog 31 = some (.i64) := by kernel_rfl
theorem tBytes31 : tBytes Try.prog 31 = some (8) := by kernel_rfl
theorem tKind31 : tKind Try.prog 31 = .int .i64 := by kernel_rfl
theorem tZero31 : tZero Try.prog 31 = some (.v (.int .i64 0)) := by kernel_rfl
theorem tSlice35 : tSlice Try.prog 35 = some (22, 1) := by kernel_rfl
theorem tArr35 : tArr Try.prog 35 = none := by kernel_rfl
theorem tAgg35 : tAgg Try.prog 35 = some (false) := by kernel_rfl
theorem tSize35 : tSize Try.prog 35 = some (1) := by kernel_rfl
theorem tInt35 : tInt Try.prog 35 = none := by kernel_rfl
theorem tBytes35 : tBytes Try.prog 35 = some (24) := by kernel_rfl
theorem tKind35 : tKind Try.prog 35 = .other := by kernel_rfl
theorem tZero35 : tZero Try.prog 35 = some (.osl 1 []) := by kernel_rfl
theorem tSlice44 : tSlice Try.prog 44 = some (56, 4) := by kernel_rfl
theorem tArr44 : tArr Try.prog 44 = none := by kernel_rfl
theorem tAgg44 : tAgg Try.prog 44 = some (false) := by kernel_rfl
theorem tSize44 : tSize Try.prog 44 = some (1) := by kernel_rfl
theorem tInt44 : tInt Try.prog 44 = none := by kernel_rfl
theorem tBytes44 : tBytes Try.prog 44 = some (24) := by kernel_rfl
theorem tKind44 : tKind Try.prog 44 = .other := by kernel_rfl
theorem tZero44 : tZero Try.prog 44 = some (.osl 4 []) := by kernel_rfl
theorem tSlice56 : tSlice Try.prog 56 = none := by kernel_rfl
theorem tArr56 : tArr Try.prog 56 = none := by kernel_rfl
theorem tAgg56 : tAgg Try.prog 56 = some (true) := by kernel_rfl
theorem tSize56 : tSize Try.prog 56 = some (4) := by kernel_rfl
theorem tInt56 : tInt Try.prog 56 = none := by kernel_rfl
theorem tBytes56 : tBytes Try.prog 56 = some (48) := by kernel_rfl
theorem tKind56 : tKind Try.prog 56 = .other := by kernel_rfl
theorem tZero56 : tZero Try.prog 56 = some (.agg [.v (.int .i64 0), .v (.int .i64 0), .v (.int .u64 0), .osl 1 []]) := by kernel_rfl
theorem tFld56_0 : tFld Try.prog 56 0 = some (0, 3, 1) := by kernel_rfl
theorem tFld56_1 : tFld Try.prog 56 1 = some (1, 3, 1) := by kernel_rfl
theorem tFld56_2 : tFld Try.prog 56 2 = some (2, 23, 1) := by kernel_rfl
theorem tFld56_3 : tFld Try.prog 56 3 = some (3, 22, 1) := by kernel_rfl
theorem tPlaces56 : tPlaces Try.prog 56 = some ([(0, 1), (1, 1), (2, 1), (3, 1)]) := by kernel_rfl
theorem tSlice49 : tSlice Try.prog 49 = some (3, 1) := by kernel_rfl
theorem tArr49 : tArr Try.prog 49 = none := by kernel_rfl
theorem tAgg49 : tAgg Try.prog 49 = some (false) := by kernel_rfl
theorem tSize49 : tSize Try.prog 49 = some (1) := by kernel_rfl
theorem tInt49 : tInt Try.prog 49 = none := by kernel_rfl
theorem tBytes49 : tBytes Try.prog 49 = some (24) := by kernel_rfl
theorem tKind49 : tKind Try.prog 49 = .other := by kernel_rfl
theorem tZero49 : tZero Try.prog 49 = some (.osl 1 []) := by kernel_rfl
theorem goFn3 : goFn Try.prog 3 = true := by kernel_rfl
theorem goFn15 : goFn Try.prog 15 = true := by kernel_rfl
theorem goFn16 : goFn Try.prog 16 = true := by kernel_rfl
theorem goFn17 : goFn Try.prog 17 = true := by kernel_rfl
theorem goFn18 : goFn Try.prog 18 = true := by kernel_rfl
theorem goFn19 : goFn Try.prog 19 = true := by kernel_rfl
theorem goFn20 : goFn Try.prog 20 = true := by kernel_rfl
theorem goFn21 : goFn Try.prog 21 = true := by kernel_rfl
theorem goFn22 : goFn Try.prog 22 = true := by kernel_rfl
theorem goFn38 : goFn Try.prog 38 = true := by kernel_rfl
attribute [go_sem] tSlice3 tArr3 tAgg3 tSize3 tInt3 tBytes3 tKind3 tZero3 tSlice4 tArr4 tAgg4 tSize4 tInt4 tBytes4 tKind4 tZero4 tSlice5 tArr5 tAgg5 tSize5 tInt5 tBytes5 tKind5 tZero5 tSlice22 tArr22 tAgg22 tSize22 tInt22 tBytes22 tKind22 tZero22 tSlice23 tArr23 tAgg23 tSize23 tInt23 tBytes23 tKind23 tZero23 tSlice24 tArr24 tAgg24 tSize24 tInt24 tBytes24 tKind24 tZero24 tSlice31 tArr31 tAgg31 tSize31 tInt31 tBytes31 tKind31 tZero31 tSlice35 tArr35 tAgg35 tSize35 tInt35 tBytes35 tKind35 tZero35 tSlice44 tArr44 tAgg44 tSize44 tInt44 tBytes44 tKind44 tZero44 tSlice56 tArr56 tAgg56 tSize56 tInt56 tBytes56 tKind56 tZero56 tFld56_0 tFld56_1 tFld56_2 tFld56_3 tPlaces56 tSlice49 tArr49 tAgg49 tSize49 tInt49 tBytes49 tKind49 tZero49 goFn3 Try.ntmps3 Try.results3 goFn15 Try.ntmps15 Try.results15 goFn16 Try.ntmps16 Try.results16 goFn17 Try.ntmps17 Try.results17 goFn18 Try.ntmps18 Try.results18 goFn19 Try.ntmps19 Try.results19 goFn20 Try.ntmps20 Try.results20 goFn21 Try.ntmps21 Try.results21 goFn22 Try.ntmps22 Try.results22 goFn38 Try.ntmps38 Try.results38 Try.underlying3 Try.underlying4 Try.underlying5 Try.underlying22 Try.underlying23 Try.underlying24 Try.underlying31 Try.underlying35 Try.underlying44 Try.underlying56 Try.underlying49
end Go.PA
