/- What the engine is told of this program's types. Written by a program of mine (tyfill.py). -/
import Derived.Test.YtapkacdbklbabaaProg
import Derived.Test.YtapkacdbklbabaaOpo
import Derived.Test.YtapkacdbklbabaaOpd
import Derived.KernelRfl
namespace Go.Proofs.Ytapkacdbklbabaa
open Go.RowKit
instance : KOne Try.prog 1 := ⟨fun w => by simp [isAgg, run_underlying Try.underlying1]⟩
instance : KSz Try.prog 1 1 := ⟨fun w => by kernel_rfl⟩
instance : KZ Try.prog 1 (.nilFunc) [.nilFunc] := ⟨fun w => by kernel_rfl, rfl⟩
instance : KRow Try.prog 1 1 8 (.nilFunc) := ⟨info_parts (by kernel_rfl), rfl, by decide⟩
instance : KInt Try.prog 2 .i64 := ⟨Try.underlying2⟩
instance : KOne Try.prog 2 := ⟨fun w => by simp [isAgg, run_underlying Try.underlying2]⟩
instance : KSz Try.prog 2 1 := ⟨fun w => by kernel_rfl⟩
instance : KZ Try.prog 2 (.int .i64 0) [.int .i64 0] := ⟨fun w => by kernel_rfl, rfl⟩
instance : KRow Try.prog 2 1 8 (.int .i64 0) := ⟨info_parts (by kernel_rfl), rfl, by decide⟩
instance : KInt Try.prog 3 .i64 := ⟨Try.underlying3⟩
instance : KOne Try.prog 3 := ⟨fun w => by simp [isAgg, run_underlying Try.underlying3]⟩
instance : KSz Try.prog 3 1 := ⟨fun w => by kernel_rfl⟩
instance : KZ Try.prog 3 (.int .i64 0) [.int .i64 0] := ⟨fun w => by kernel_rfl, rfl⟩
instance : KRow Try.prog 3 1 8 (.int .i64 0) := ⟨info_parts (by kernel_rfl), rfl, by decide⟩
instance : KBool Try.prog 4 := ⟨Try.underlying4⟩
instance : KOne Try.prog 4 := ⟨fun w => by simp [isAgg, run_underlying Try.underlying4]⟩
instance : KSz Try.prog 4 1 := ⟨fun w => by kernel_rfl⟩
instance : KZ Try.prog 4 (.bool false) [.bool false] := ⟨fun w => by kernel_rfl, rfl⟩
instance : KRow Try.prog 4 1 1 (.bool false) := ⟨info_parts (by kernel_rfl), rfl, by decide⟩
instance : KInt Try.prog 5 .u8 := ⟨Try.underlying5⟩
instance : KOne Try.prog 5 := ⟨fun w => by simp [isAgg, run_underlying Try.underlying5]⟩
instance : KSz Try.prog 5 1 := ⟨fun w => by kernel_rfl⟩
instance : KZ Try.prog 5 (.int .u8 0) [.int .u8 0] := ⟨fun w => by kernel_rfl, rfl⟩
instance : KRow Try.prog 5 1 1 (.int .u8 0) := ⟨info_parts (by kernel_rfl), rfl, by decide⟩
instance : KStr Try.prog 9 := ⟨Try.underlying9⟩
instance : KOne Try.prog 9 := ⟨fun w => by simp [isAgg, run_underlying Try.underlying9]⟩
instance : KSz Try.prog 9 1 := ⟨fun w => by kernel_rfl⟩
instance : KZ Try.prog 9 (.string ByteArray.empty) [.string ByteArray.empty] := ⟨fun w => by kernel_rfl, rfl⟩
instance : KRow Try.prog 9 1 16 (.string ByteArray.empty) := ⟨info_parts (by kernel_rfl), rfl, by decide⟩
instance : KInt Try.prog 12 .u64 := ⟨Try.underlying12⟩
instance : KOne Try.prog 12 := ⟨fun w => by simp [isAgg, run_underlying Try.underlying12]⟩
instance : KSz Try.prog 12 1 := ⟨fun w => by kernel_rfl⟩
instance : KZ Try.prog 12 (.int .u64 0) [.int .u64 0] := ⟨fun w => by kernel_rfl, rfl⟩
instance : KRow Try.prog 12 1 8 (.int .u64 0) := ⟨info_parts (by kernel_rfl), rfl, by decide⟩
instance : KNG Try.prog 13 := ⟨by kernel_rfl⟩
instance : KBld Try.prog 13 [.string ByteArray.empty, .int .u64 0] [(0, 1), (1, 1)] := ⟨_, .agg #[.string ByteArray.empty, .int .u64 0], Try.underlying13, fun w => by kernel_rfl, rfl, fun w => by kernel_rfl⟩
instance : KAgg Try.prog 13 2 := ⟨fun w => by simp [isAgg, run_underlying Try.underlying13], fun w => by kernel_rfl⟩
instance : KSz Try.prog 13 2 := ⟨fun w => by kernel_rfl⟩
instance : KZ Try.prog 13 (.agg #[.string ByteArray.empty, .int .u64 0]) [.string ByteArray.empty, .int .u64 0] := ⟨fun w => by kernel_rfl, rfl⟩
instance : KRow Try.prog 13 2 24 (.agg #[.string ByteArray.empty, .int .u64 0]) := ⟨info_parts (by kernel_rfl), rfl, by decide⟩
instance : KFld Try.prog 13 0 0 := ⟨fun w a => by kernel_rfl⟩
instance : KFld Try.prog 13 1 1 := ⟨fun w a => by kernel_rfl⟩
instance : KInt Try.prog 21 .i32 := ⟨Try.underlying21⟩
instance : KOne Try.prog 21 := ⟨fun w => by simp [isAgg, run_underlying Try.underlying21]⟩
instance : KSz Try.prog 21 1 := ⟨fun w => by kernel_rfl⟩
instance : KZ Try.prog 21 (.int .i32 0) [.int .i32 0] := ⟨fun w => by kernel_rfl, rfl⟩
instance : KRow Try.prog 21 1 4 (.int .i32 0) := ⟨info_parts (by kernel_rfl), rfl, by decide⟩
instance : KOne Try.prog 22 := ⟨fun w => by simp [isAgg, run_underlying Try.underlying22]⟩
instance : KSz Try.prog 22 1 := ⟨fun w => by kernel_rfl⟩
instance : KZ Try.prog 22 (.nilFunc) [.nilFunc] := ⟨fun w => by kernel_rfl, rfl⟩
instance : KRow Try.prog 22 1 8 (.nilFunc) := ⟨info_parts (by kernel_rfl), rfl, by decide⟩
instance : KNG Try.prog 23 := ⟨by kernel_rfl⟩
instance : KBld Try.prog 23 [.int .i64 0, .int .i64 0, .int .i64 0] [(0, 1), (1, 1), (2, 1)] := ⟨_, .agg #[.int .i64 0, .int .i64 0, .int .i64 0], Try.underlying23, fun w => by kernel_rfl, rfl, fun w => by kernel_rfl⟩
instance : KAgg Try.prog 23 3 := ⟨fun w => by simp [isAgg, run_underlying Try.underlying23], fun w => by kernel_rfl⟩
instance : KSz Try.prog 23 3 := ⟨fun w => by kernel_rfl⟩
instance : KZ Try.prog 23 (.agg #[.int .i64 0, .int .i64 0, .int .i64 0]) [.int .i64 0, .int .i64 0, .int .i64 0] := ⟨fun w => by kernel_rfl, rfl⟩
instance : KRow Try.prog 23 3 24 (.agg #[.int .i64 0, .int .i64 0, .int .i64 0]) := ⟨info_parts (by kernel_rfl), rfl, by decide⟩
instance : KFld Try.prog 23 0 0 := ⟨fun w a => by kernel_rfl⟩
instance : KFld Try.prog 23 1 1 := ⟨fun w a => by kernel_rfl⟩
instance : KFld Try.prog 23 2 2 := ⟨fun w a => by kernel_rfl⟩
instance : KNG Try.prog 24 := ⟨by kernel_rfl⟩
instance : KBld Try.prog 24 [.int .i64 0, .int .i64 0, .int .i64 0] [(0, 1), (1, 1), (2, 1)] := ⟨_, .agg #[.int .i64 0, .int .i64 0, .int .i64 0], Try.underlying24, fun w => by kernel_rfl, rfl, fun w => by kernel_rfl⟩
instance : KAgg Try.prog 24 3 := ⟨fun w => by simp [isAgg, run_underlying Try.underlying24], fun w => by kernel_rfl⟩
instance : KSz Try.prog 24 3 := ⟨fun w => by kernel_rfl⟩
instance : KZ Try.prog 24 (.agg #[.int .i64 0, .int .i64 0, .int .i64 0]) [.int .i64 0, .int .i64 0, .int .i64 0] := ⟨fun w => by kernel_rfl, rfl⟩
instance : KRow Try.prog 24 3 24 (.agg #[.int .i64 0, .int .i64 0, .int .i64 0]) := ⟨info_parts (by kernel_rfl), rfl, by decide⟩
instance : KFld Try.prog 24 0 0 := ⟨fun w a => by kernel_rfl⟩
instance : KFld Try.prog 24 1 1 := ⟨fun w a => by kernel_rfl⟩
instance : KFld Try.prog 24 2 2 := ⟨fun w a => by kernel_rfl⟩
instance : KOne Try.prog 25 := ⟨fun w => by simp [isAgg, run_underlying Try.underlying25]⟩
instance : KSz Try.prog 25 1 := ⟨fun w => by kernel_rfl⟩
instance : KZ Try.prog 25 (.nilFunc) [.nilFunc] := ⟨fun w => by kernel_rfl, rfl⟩
instance : KRow Try.prog 25 1 8 (.nilFunc) := ⟨info_parts (by kernel_rfl), rfl, by decide⟩
instance : KNG Try.prog 26 := ⟨by kernel_rfl⟩
instance : KBld Try.prog 26 [.int .i64 0, .int .i64 0, .int .i64 0] [(0, 1), (1, 1), (2, 1)] := ⟨_, .agg #[.int .i64 0, .int .i64 0, .int .i64 0], Try.underlying26, fun w => by kernel_rfl, rfl, fun w => by kernel_rfl⟩
instance : KAgg Try.prog 26 3 := ⟨fun w => by simp [isAgg, run_underlying Try.underlying26], fun w => by kernel_rfl⟩
instance : KSz Try.prog 26 3 := ⟨fun w => by kernel_rfl⟩
instance : KZ Try.prog 26 (.agg #[.int .i64 0, .int .i64 0, .int .i64 0]) [.int .i64 0, .int .i64 0, .int .i64 0] := ⟨fun w => by kernel_rfl, rfl⟩
instance : KRow Try.prog 26 3 24 (.agg #[.int .i64 0, .int .i64 0, .int .i64 0]) := ⟨info_parts (by kernel_rfl), rfl, by decide⟩
instance : KFld Try.prog 26 0 0 := ⟨fun w a => by kernel_rfl⟩
instance : KFld Try.prog 26 1 1 := ⟨fun w a => by kernel_rfl⟩
instance : KFld Try.prog 26 2 2 := ⟨fun w a => by kernel_rfl⟩
instance : KOne Try.prog 27 := ⟨fun w => by simp [isAgg, run_underlying Try.underlying27]⟩
instance : KSz Try.prog 27 1 := ⟨fun w => by kernel_rfl⟩
instance : KZ Try.prog 27 (.nilFunc) [.nilFunc] := ⟨fun w => by kernel_rfl, rfl⟩
instance : KRow Try.prog 27 1 8 (.nilFunc) := ⟨info_parts (by kernel_rfl), rfl, by decide⟩
instance : KOne Try.prog 28 := ⟨fun w => by simp [isAgg, run_underlying Try.underlying28]⟩
instance : KSz Try.prog 28 1 := ⟨fun w => by kernel_rfl⟩
instance : KZ Try.prog 28 (.nilFunc) [.nilFunc] := ⟨fun w => by kernel_rfl, rfl⟩
instance : KRow Try.prog 28 1 8 (.nilFunc) := ⟨info_parts (by kernel_rfl), rfl, by decide⟩
instance : KOne Try.prog 29 := ⟨fun w => by simp [isAgg, run_underlying Try.underlying29]⟩
instance : KSz Try.prog 29 1 := ⟨fun w => by kernel_rfl⟩
instance : KZ Try.prog 29 (.nilFunc) [.nilFunc] := ⟨fun w => by kernel_rfl, rfl⟩
instance : KRow Try.prog 29 1 8 (.nilFunc) := ⟨info_parts (by kernel_rfl), rfl, by decide⟩
instance : KOne Try.prog 30 := ⟨fun w => by simp [isAgg, run_underlying Try.underlying30]⟩
instance : KSz Try.prog 30 1 := ⟨fun w => by kernel_rfl⟩
instance : KZ Try.prog 30 (.nilFunc) [.nilFunc] := ⟨fun w => by kernel_rfl, rfl⟩
instance : KRow Try.prog 30 1 8 (.nilFunc) := ⟨info_parts (by kernel_rfl), rfl, by decide⟩
instance : KOne Try.prog 31 := ⟨fun w => by simp [isAgg, run_underlying Try.underlying31]⟩
instance : KSz Try.prog 31 1 := ⟨fun w => by kernel_rfl⟩
instance : KZ Try.prog 31 (.nilFunc) [.nilFunc] := ⟨fun w => by kernel_rfl, rfl⟩
instance : KRow Try.prog 31 1 8 (.nilFunc) := ⟨info_parts (by kernel_rfl), rfl, by decide⟩
instance : KOne Try.prog 32 := ⟨fun w => by simp [isAgg, run_underlying Try.underlying32]⟩
instance : KSz Try.prog 32 1 := ⟨fun w => by kernel_rfl⟩
instance : KZ Try.prog 32 (.nilFunc) [.nilFunc] := ⟨fun w => by kernel_rfl, rfl⟩
instance : KRow Try.prog 32 1 8 (.nilFunc) := ⟨info_parts (by kernel_rfl), rfl, by decide⟩
instance : KOne Try.prog 34 := ⟨fun w => by simp [isAgg, run_underlying Try.underlying34]⟩
instance : KSz Try.prog 34 1 := ⟨fun w => by kernel_rfl⟩
instance : KZ Try.prog 34 (.nilFunc) [.nilFunc] := ⟨fun w => by kernel_rfl, rfl⟩
instance : KRow Try.prog 34 1 8 (.nilFunc) := ⟨info_parts (by kernel_rfl), rfl, by decide⟩
instance : KOne Try.prog 35 := ⟨fun w => by simp [isAgg, run_underlying Try.underlying35]⟩
instance : KSz Try.prog 35 1 := ⟨fun w => by kernel_rfl⟩
instance : KZ Try.prog 35 (.nilFunc) [.nilFunc] := ⟨fun w => by kernel_rfl, rfl⟩
instance : KRow Try.prog 35 1 8 (.nilFunc) := ⟨info_parts (by kernel_rfl), rfl, by decide⟩
instance : KOne Try.prog 36 := ⟨fun w => by simp [isAgg, run_underlying Try.underlying36]⟩
instance : KSz Try.prog 36 1 := ⟨fun w => by kernel_rfl⟩
instance : KZ Try.prog 36 (.nilFunc) [.nilFunc] := ⟨fun w => by kernel_rfl, rfl⟩
instance : KRow Try.prog 36 1 8 (.nilFunc) := ⟨info_parts (by kernel_rfl), rfl, by decide⟩
instance : KOne Try.prog 37 := ⟨fun w => by simp [isAgg, run_underlying Try.underlying37]⟩
instance : KSz Try.prog 37 1 := ⟨fun w => by kernel_rfl⟩
instance : KZ Try.prog 37 (.nilFunc) [.nilFunc] := ⟨fun w => by kernel_rfl, rfl⟩
instance : KRow Try.prog 37 1 8 (.nilFunc) := ⟨info_parts (by kernel_rfl), rfl, by decide⟩
instance : KOne Try.prog 38 := ⟨fun w => by simp [isAgg, run_underlying Try.underlying38]⟩
instance : KSz Try.prog 38 1 := ⟨fun w => by kernel_rfl⟩
instance : KZ Try.prog 38 (.nilFunc) [.nilFunc] := ⟨fun w => by kernel_rfl, rfl⟩
instance : KRow Try.prog 38 1 8 (.nilFunc) := ⟨info_parts (by kernel_rfl), rfl, by decide⟩
instance : KOne Try.prog 39 := ⟨fun w => by simp [isAgg, run_underlying Try.underlying39]⟩
instance : KSz Try.prog 39 1 := ⟨fun w => by kernel_rfl⟩
instance : KZ Try.prog 39 (.nilFunc) [.nilFunc] := ⟨fun w => by kernel_rfl, rfl⟩
instance : KRow Try.prog 39 1 8 (.nilFunc) := ⟨info_parts (by kernel_rfl), rfl, by decide⟩
instance : KOne Try.prog 45 := ⟨fun w => by simp [isAgg, run_underlying Try.underlying45]⟩
instance : KSz Try.prog 45 1 := ⟨fun w => by kernel_rfl⟩
instance : KZ Try.prog 45 (.nilFunc) [.nilFunc] := ⟨fun w => by kernel_rfl, rfl⟩
instance : KRow Try.prog 45 1 8 (.nilFunc) := ⟨info_parts (by kernel_rfl), rfl, by decide⟩
instance : KInt Try.prog 46 .u32 := ⟨Try.underlying46⟩
instance : KOne Try.prog 46 := ⟨fun w => by simp [isAgg, run_underlying Try.underlying46]⟩
instance : KSz Try.prog 46 1 := ⟨fun w => by kernel_rfl⟩
instance : KZ Try.prog 46 (.int .u32 0) [.int .u32 0] := ⟨fun w => by kernel_rfl, rfl⟩
instance : KRow Try.prog 46 1 4 (.int .u32 0) := ⟨info_parts (by kernel_rfl), rfl, by decide⟩
instance : KOne Try.prog 50 := ⟨fun w => by simp [isAgg, run_underlying Try.underlying50]⟩
instance : KSz Try.prog 50 1 := ⟨fun w => by kernel_rfl⟩
instance : KZ Try.prog 50 (.pointer none) [.pointer none] := ⟨fun w => by kernel_rfl, rfl⟩
instance : KRow Try.prog 50 1 8 (.pointer none) := ⟨info_parts (by kernel_rfl), rfl, by decide⟩
theorem mixed : Try.prog.follows .mixedOrders = true := by kernel_rfl
end Go.Proofs.Ytapkacdbklbabaa
