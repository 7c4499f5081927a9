/- What the engine is told of this program's types. Written by a program of mine (tyfill.py). -/
import Derived.Test.YtpekagagjjhjeaaProg
import Derived.Test.YtpekagagjjhjeaaOpt
import Derived.Test.YtpekagagjjhjeaaOpd
import Derived.KernelRfl
namespace Go.Proofs.Ytpekagagjjhjeaa
open Go.RowKit
instance : KOne Try.prog 1 := ⟨fun w => by simp [isAgg, run_underlying Try.underlying1]⟩
instance : KSz Try.prog 1 1 := ⟨fun w => by kernel_rfl⟩
instance : KZ Try.prog 1 (.nilFunc) [.nilFunc] := ⟨fun w => by kernel_rfl, rfl⟩
instance : KRow Try.prog 1 1 8 (.nilFunc) := ⟨info_parts (by kernel_rfl), rfl, by decide⟩
instance : KInt Try.prog 2 .i64 := ⟨Try.underlying2⟩
instance : KOne Try.prog 2 := ⟨fun w => by simp [isAgg, run_underlying Try.underlying2]⟩
instance : KSz Try.prog 2 1 := ⟨fun w => by kernel_rfl⟩
instance : KZ Try.prog 2 (.int .i64 0) [.int .i64 0] := ⟨fun w => by kernel_rfl, rfl⟩
instance : KRow Try.prog 2 1 8 (.int .i64 0) := ⟨info_parts (by kernel_rfl), rfl, by decide⟩
instance : KInt Try.prog 3 .i64 := ⟨Try.underlying3⟩
instance : KOne Try.prog 3 := ⟨fun w => by simp [isAgg, run_underlying Try.underlying3]⟩
instance : KSz Try.prog 3 1 := ⟨fun w => by kernel_rfl⟩
instance : KZ Try.prog 3 (.int .i64 0) [.int .i64 0] := ⟨fun w => by kernel_rfl, rfl⟩
instance : KRow Try.prog 3 1 8 (.int .i64 0) := ⟨info_parts (by kernel_rfl), rfl, by decide⟩
instance : KBool Try.prog 4 := ⟨Try.underlying4⟩
instance : KOne Try.prog 4 := ⟨fun w => by simp [isAgg, run_underlying Try.underlying4]⟩
instance : KSz Try.prog 4 1 := ⟨fun w => by kernel_rfl⟩
instance : KZ Try.prog 4 (.bool false) [.bool false] := ⟨fun w => by kernel_rfl, rfl⟩
instance : KRow Try.prog 4 1 1 (.bool false) := ⟨info_parts (by kernel_rfl), rfl, by decide⟩
instance : KInt Try.prog 5 .u8 := ⟨Try.underlying5⟩
instance : KOne Try.prog 5 := ⟨fun w => by simp [isAgg, run_underlying Try.underlying5]⟩
instance : KSz Try.prog 5 1 := ⟨fun w => by kernel_rfl⟩
instance : KZ Try.prog 5 (.int .u8 0) [.int .u8 0] := ⟨fun w => by kernel_rfl, rfl⟩
instance : KRow Try.prog 5 1 1 (.int .u8 0) := ⟨info_parts (by kernel_rfl), rfl, by decide⟩
instance : KStr Try.prog 9 := ⟨Try.underlying9⟩
instance : KOne Try.prog 9 := ⟨fun w => by simp [isAgg, run_underlying Try.underlying9]⟩
instance : KSz Try.prog 9 1 := ⟨fun w => by kernel_rfl⟩
instance : KZ Try.prog 9 (.string ByteArray.empty) [.string ByteArray.empty] := ⟨fun w => by kernel_rfl, rfl⟩
instance : KRow Try.prog 9 1 16 (.string ByteArray.empty) := ⟨info_parts (by kernel_rfl), rfl, by decide⟩
instance : KInt Try.prog 12 .u64 := ⟨Try.underlying12⟩
instance : KOne Try.prog 12 := ⟨fun w => by simp [isAgg, run_underlying Try.underlying12]⟩
instance : KSz Try.prog 12 1 := ⟨fun w => by kernel_rfl⟩
instance : KZ Try.prog 12 (.int .u64 0) [.int .u64 0] := ⟨fun w => by kernel_rfl, rfl⟩
instance : KRow Try.prog 12 1 8 (.int .u64 0) := ⟨info_parts (by kernel_rfl), rfl, by decide⟩
instance : KNG Try.prog 13 := ⟨by kernel_rfl⟩
instance : KBld Try.prog 13 [.string ByteArray.empty, .int .u64 0] [(0, 1), (1, 1)] := ⟨_, .agg #[.string ByteArray.empty, .int .u64 0], Try.underlying13, fun w => by kernel_rfl, rfl, fun w => by kernel_rfl⟩
instance : KAgg Try.prog 13 2 := ⟨fun w => by simp [isAgg, run_underlying Try.underlying13], fun w => by kernel_rfl⟩
instance : KSz Try.prog 13 2 := ⟨fun w => by kernel_rfl⟩
instance : KZ Try.prog 13 (.agg #[.string ByteArray.empty, .int .u64 0]) [.string ByteArray.empty, .int .u64 0] := ⟨fun w => by kernel_rfl, rfl⟩
instance : KRow Try.prog 13 2 24 (.agg #[.string ByteArray.empty, .int .u64 0]) := ⟨info_parts (by kernel_rfl), rfl, by decide⟩
instance : KFld Try.prog 13 0 0 := ⟨fun w a => by kernel_rfl⟩
instance : KFld Try.prog 13 1 1 := ⟨fun w a => by kernel_rfl⟩
instance : KInt Try.prog 21 .i32 := ⟨Try.underlying21⟩
instance : KOne Try.prog 21 := ⟨fun w => by simp [isAgg, run_underlying Try.underlying21]⟩
instance : KSz Try.prog 21 1 := ⟨fun w => by kernel_rfl⟩
instance : KZ Try.prog 21 (.int .i32 0) [.int .i32 0] := ⟨fun w => by kernel_rfl, rfl⟩
instance : KRow Try.prog 21 1 4 (.int .i32 0) := ⟨info_parts (by kernel_rfl), rfl, by decide⟩
instance : KSl Try.prog 22 65 := ⟨Try.underlying22⟩
instance : KOne Try.prog 22 := ⟨fun w => by simp [isAgg, run_underlying Try.underlying22]⟩
instance : KSz Try.prog 22 1 := ⟨fun w => by kernel_rfl⟩
instance : KZ Try.prog 22 (.slice none 0 0) [.slice none 0 0] := ⟨fun w => by kernel_rfl, rfl⟩
instance : KRow Try.prog 22 1 24 (.slice none 0 0) := ⟨info_parts (by kernel_rfl), rfl, by decide⟩
instance : KOne Try.prog 23 := ⟨fun w => by simp [isAgg, run_underlying Try.underlying23]⟩
instance : KSz Try.prog 23 1 := ⟨fun w => by kernel_rfl⟩
instance : KZ Try.prog 23 (.nilFunc) [.nilFunc] := ⟨fun w => by kernel_rfl, rfl⟩
instance : KRow Try.prog 23 1 8 (.nilFunc) := ⟨info_parts (by kernel_rfl), rfl, by decide⟩
instance : KOne Try.prog 25 := ⟨fun w => by simp [isAgg, run_underlying Try.underlying25]⟩
instance : KSz Try.prog 25 1 := ⟨fun w => by kernel_rfl⟩
instance : KZ Try.prog 25 (.nilFunc) [.nilFunc] := ⟨fun w => by kernel_rfl, rfl⟩
instance : KRow Try.prog 25 1 8 (.nilFunc) := ⟨info_parts (by kernel_rfl), rfl, by decide⟩
instance : KSl Try.prog 26 58 := ⟨Try.underlying26⟩
instance : KOne Try.prog 26 := ⟨fun w => by simp [isAgg, run_underlying Try.underlying26]⟩
instance : KSz Try.prog 26 1 := ⟨fun w => by kernel_rfl⟩
instance : KZ Try.prog 26 (.slice none 0 0) [.slice none 0 0] := ⟨fun w => by kernel_rfl, rfl⟩
instance : KRow Try.prog 26 1 24 (.slice none 0 0) := ⟨info_parts (by kernel_rfl), rfl, by decide⟩
instance : KOne Try.prog 27 := ⟨fun w => by simp [isAgg, run_underlying Try.underlying27]⟩
instance : KSz Try.prog 27 1 := ⟨fun w => by kernel_rfl⟩
instance : KZ Try.prog 27 (.nilFunc) [.nilFunc] := ⟨fun w => by kernel_rfl, rfl⟩
instance : KRow Try.prog 27 1 8 (.nilFunc) := ⟨info_parts (by kernel_rfl), rfl, by decide⟩
instance : KOne Try.prog 28 := ⟨fun w => by simp [isAgg, run_underlying Try.underlying28]⟩
instance : KSz Try.prog 28 1 := ⟨fun w => by kernel_rfl⟩
instance : KZ Try.prog 28 (.nilFunc) [.nilFunc] := ⟨fun w => by kernel_rfl, rfl⟩
instance : KRow Try.prog 28 1 8 (.nilFunc) := ⟨info_parts (by kernel_rfl), rfl, by decide⟩
instance : KOne Try.prog 29 := ⟨fun w => by simp [isAgg, run_underlying Try.underlying29]⟩
instance : KSz Try.prog 29 1 := ⟨fun w => by kernel_rfl⟩
instance : KZ Try.prog 29 (.nilFunc) [.nilFunc] := ⟨fun w => by kernel_rfl, rfl⟩
instance : KRow Try.prog 29 1 8 (.nilFunc) := ⟨info_parts (by kernel_rfl), rfl, by decide⟩
instance : KSl Try.prog 30 3 := ⟨Try.underlying30⟩
instance : KOne Try.prog 30 := ⟨fun w => by simp [isAgg, run_underlying Try.underlying30]⟩
instance : KSz Try.prog 30 1 := ⟨fun w => by kernel_rfl⟩
instance : KZ Try.prog 30 (.slice none 0 0) [.slice none 0 0] := ⟨fun w => by kernel_rfl, rfl⟩
instance : KRow Try.prog 30 1 24 (.slice none 0 0) := ⟨info_parts (by kernel_rfl), rfl, by decide⟩
instance : KOne Try.prog 31 := ⟨fun w => by simp [isAgg, run_underlying Try.underlying31]⟩
instance : KSz Try.prog 31 1 := ⟨fun w => by kernel_rfl⟩
instance : KZ Try.prog 31 (.nilFunc) [.nilFunc] := ⟨fun w => by kernel_rfl, rfl⟩
instance : KRow Try.prog 31 1 8 (.nilFunc) := ⟨info_parts (by kernel_rfl), rfl, by decide⟩
instance : KOne Try.prog 32 := ⟨fun w => by simp [isAgg, run_underlying Try.underlying32]⟩
instance : KSz Try.prog 32 1 := ⟨fun w => by kernel_rfl⟩
instance : KZ Try.prog 32 (.nilFunc) [.nilFunc] := ⟨fun w => by kernel_rfl, rfl⟩
instance : KRow Try.prog 32 1 8 (.nilFunc) := ⟨info_parts (by kernel_rfl), rfl, by decide⟩
instance : KOne Try.prog 33 := ⟨fun w => by simp [isAgg, run_underlying Try.underlying33]⟩
instance : KSz Try.prog 33 1 := ⟨fun w => by kernel_rfl⟩
instance : KZ Try.prog 33 (.nilFunc) [.nilFunc] := ⟨fun w => by kernel_rfl, rfl⟩
instance : KRow Try.prog 33 1 8 (.nilFunc) := ⟨info_parts (by kernel_rfl), rfl, by decide⟩
instance : KOne Try.prog 34 := ⟨fun w => by simp [isAgg, run_underlying Try.underlying34]⟩
instance : KSz Try.prog 34 1 := ⟨fun w => by kernel_rfl⟩
instance : KZ Try.prog 34 (.nilFunc) [.nilFunc] := ⟨fun w => by kernel_rfl, rfl⟩
instance : KRow Try.prog 34 1 8 (.nilFunc) := ⟨info_parts (by kernel_rfl), rfl, by decide⟩
instance : KOne Try.prog 35 := ⟨fun w => by simp [isAgg, run_underlying Try.underlying35]⟩
instance : KSz Try.prog 35 1 := ⟨fun w => by kernel_rfl⟩
instance : KZ Try.prog 35 (.nilFunc) [.nilFunc] := ⟨fun w => by kernel_rfl, rfl⟩
instance : KRow Try.prog 35 1 8 (.nilFunc) := ⟨info_parts (by kernel_rfl), rfl, by decide⟩
instance : KSl Try.prog 36 5 := ⟨Try.underlying36⟩
instance : KOne Try.prog 36 := ⟨fun w => by simp [isAgg, run_underlying Try.underlying36]⟩
instance : KSz Try.prog 36 1 := ⟨fun w => by kernel_rfl⟩
instance : KZ Try.prog 36 (.slice none 0 0) [.slice none 0 0] := ⟨fun w => by kernel_rfl, rfl⟩
instance : KRow Try.prog 36 1 24 (.slice none 0 0) := ⟨info_parts (by kernel_rfl), rfl, by decide⟩
instance : KOne Try.prog 38 := ⟨fun w => by simp [isAgg, run_underlying Try.underlying38]⟩
instance : KSz Try.prog 38 1 := ⟨fun w => by kernel_rfl⟩
instance : KZ Try.prog 38 (.nilFunc) [.nilFunc] := ⟨fun w => by kernel_rfl, rfl⟩
instance : KRow Try.prog 38 1 8 (.nilFunc) := ⟨info_parts (by kernel_rfl), rfl, by decide⟩
instance : KOne Try.prog 39 := ⟨fun w => by simp [isAgg, run_underlying Try.underlying39]⟩
instance : KSz Try.prog 39 1 := ⟨fun w => by kernel_rfl⟩
instance : KZ Try.prog 39 (.nilFunc) [.nilFunc] := ⟨fun w => by kernel_rfl, rfl⟩
instance : KRow Try.prog 39 1 8 (.nilFunc) := ⟨info_parts (by kernel_rfl), rfl, by decide⟩
instance : KOne Try.prog 40 := ⟨fun w => by simp [isAgg, run_underlying Try.underlying40]⟩
instance : KSz Try.prog 40 1 := ⟨fun w => by kernel_rfl⟩
instance : KZ Try.prog 40 (.nilFunc) [.nilFunc] := ⟨fun w => by kernel_rfl, rfl⟩
instance : KRow Try.prog 40 1 8 (.nilFunc) := ⟨info_parts (by kernel_rfl), rfl, by decide⟩
instance : KOne Try.prog 41 := ⟨fun w => by simp [isAgg, run_underlying Try.underlying41]⟩
instance : KSz Try.prog 41 1 := ⟨fun w => by kernel_rfl⟩
instance : KZ Try.prog 41 (.nilFunc) [.nilFunc] := ⟨fun w => by kernel_rfl, rfl⟩
instance : KRow Try.prog 41 1 8 (.nilFunc) := ⟨info_parts (by kernel_rfl), rfl, by decide⟩
instance : KOne Try.prog 43 := ⟨fun w => by simp [isAgg, run_underlying Try.underlying43]⟩
instance : KSz Try.prog 43 1 := ⟨fun w => by kernel_rfl⟩
instance : KZ Try.prog 43 (.nilFunc) [.nilFunc] := ⟨fun w => by kernel_rfl, rfl⟩
instance : KRow Try.prog 43 1 8 (.nilFunc) := ⟨info_parts (by kernel_rfl), rfl, by decide⟩
instance : KOne Try.prog 45 := ⟨fun w => by simp [isAgg, run_underlying Try.underlying45]⟩
instance : KSz Try.prog 45 1 := ⟨fun w => by kernel_rfl⟩
instance : KZ Try.prog 45 (.nilFunc) [.nilFunc] := ⟨fun w => by kernel_rfl, rfl⟩
instance : KRow Try.prog 45 1 8 (.nilFunc) := ⟨info_parts (by kernel_rfl), rfl, by decide⟩
instance : KOne Try.prog 46 := ⟨fun w => by simp [isAgg, run_underlying Try.underlying46]⟩
instance : KSz Try.prog 46 1 := ⟨fun w => by kernel_rfl⟩
instance : KZ Try.prog 46 (.nilFunc) [.nilFunc] := ⟨fun w => by kernel_rfl, rfl⟩
instance : KRow Try.prog 46 1 8 (.nilFunc) := ⟨info_parts (by kernel_rfl), rfl, by decide⟩
instance : KOne Try.prog 47 := ⟨fun w => by simp [isAgg, run_underlying Try.underlying47]⟩
instance : KSz Try.prog 47 1 := ⟨fun w => by kernel_rfl⟩
instance : KZ Try.prog 47 (.nilFunc) [.nilFunc] := ⟨fun w => by kernel_rfl, rfl⟩
instance : KRow Try.prog 47 1 8 (.nilFunc) := ⟨info_parts (by kernel_rfl), rfl, by decide⟩
instance : KOne Try.prog 48 := ⟨fun w => by simp [isAgg, run_underlying Try.underlying48]⟩
instance : KSz Try.prog 48 1 := ⟨fun w => by kernel_rfl⟩
instance : KZ Try.prog 48 (.nilFunc) [.nilFunc] := ⟨fun w => by kernel_rfl, rfl⟩
instance : KRow Try.prog 48 1 8 (.nilFunc) := ⟨info_parts (by kernel_rfl), rfl, by decide⟩
instance : KOne Try.prog 50 := ⟨fun w => by simp [isAgg, run_underlying Try.underlying50]⟩
instance : KSz Try.prog 50 1 := ⟨fun w => by kernel_rfl⟩
instance : KZ Try.prog 50 (.nilFunc) [.nilFunc] := ⟨fun w => by kernel_rfl, rfl⟩
instance : KRow Try.prog 50 1 8 (.nilFunc) := ⟨info_parts (by kernel_rfl), rfl, by decide⟩
instance : KOne Try.prog 51 := ⟨fun w => by simp [isAgg, run_underlying Try.underlying51]⟩
instance : KSz Try.prog 51 1 := ⟨fun w => by kernel_rfl⟩
instance : KZ Try.prog 51 (.nilFunc) [.nilFunc] := ⟨fun w => by kernel_rfl, rfl⟩
instance : KRow Try.prog 51 1 8 (.nilFunc) := ⟨info_parts (by kernel_rfl), rfl, by decide⟩
instance : KOne Try.prog 52 := ⟨fun w => by simp [isAgg, run_underlying Try.underlying52]⟩
instance : KSz Try.prog 52 1 := ⟨fun w => by kernel_rfl⟩
instance : KZ Try.prog 52 (.nilFunc) [.nilFunc] := ⟨fun w => by kernel_rfl, rfl⟩
instance : KRow Try.prog 52 1 8 (.nilFunc) := ⟨info_parts (by kernel_rfl), rfl, by decide⟩
instance : KOne Try.prog 54 := ⟨fun w => by simp [isAgg, run_underlying Try.underlying54]⟩
instance : KSz Try.prog 54 1 := ⟨fun w => by kernel_rfl⟩
instance : KZ Try.prog 54 (.nilFunc) [.nilFunc] := ⟨fun w => by kernel_rfl, rfl⟩
instance : KRow Try.prog 54 1 8 (.nilFunc) := ⟨info_parts (by kernel_rfl), rfl, by decide⟩
instance : KNG Try.prog 55 := ⟨by kernel_rfl⟩
instance : KBld Try.prog 55 [.int .i64 0, .int .i64 0, .int .i64 0] [(0, 1), (1, 1), (2, 1)] := ⟨_, .agg #[.int .i64 0, .int .i64 0, .int .i64 0], Try.underlying55, fun w => by kernel_rfl, rfl, fun w => by kernel_rfl⟩
instance : KAgg Try.prog 55 3 := ⟨fun w => by simp [isAgg, run_underlying Try.underlying55], fun w => by kernel_rfl⟩
instance : KSz Try.prog 55 3 := ⟨fun w => by kernel_rfl⟩
instance : KZ Try.prog 55 (.agg #[.int .i64 0, .int .i64 0, .int .i64 0]) [.int .i64 0, .int .i64 0, .int .i64 0] := ⟨fun w => by kernel_rfl, rfl⟩
instance : KRow Try.prog 55 3 24 (.agg #[.int .i64 0, .int .i64 0, .int .i64 0]) := ⟨info_parts (by kernel_rfl), rfl, by decide⟩
instance : KFld Try.prog 55 0 0 := ⟨fun w a => by kernel_rfl⟩
instance : KFld Try.prog 55 1 1 := ⟨fun w a => by kernel_rfl⟩
instance : KFld Try.prog 55 2 2 := ⟨fun w a => by kernel_rfl⟩
instance : KNG Try.prog 56 := ⟨by kernel_rfl⟩
instance : KBld Try.prog 56 [.int .i64 0, .int .i64 0, .int .i64 0] [(0, 1), (1, 1), (2, 1)] := ⟨_, .agg #[.int .i64 0, .int .i64 0, .int .i64 0], Try.underlying56, fun w => by kernel_rfl, rfl, fun w => by kernel_rfl⟩
instance : KAgg Try.prog 56 3 := ⟨fun w => by simp [isAgg, run_underlying Try.underlying56], fun w => by kernel_rfl⟩
instance : KSz Try.prog 56 3 := ⟨fun w => by kernel_rfl⟩
instance : KZ Try.prog 56 (.agg #[.int .i64 0, .int .i64 0, .int .i64 0]) [.int .i64 0, .int .i64 0, .int .i64 0] := ⟨fun w => by kernel_rfl, rfl⟩
instance : KRow Try.prog 56 3 24 (.agg #[.int .i64 0, .int .i64 0, .int .i64 0]) := ⟨info_parts (by kernel_rfl), rfl, by decide⟩
instance : KFld Try.prog 56 0 0 := ⟨fun w a => by kernel_rfl⟩
instance : KFld Try.prog 56 1 1 := ⟨fun w a => by kernel_rfl⟩
instance : KFld Try.prog 56 2 2 := ⟨fun w a => by kernel_rfl⟩
instance : KNG Try.prog 57 := ⟨by kernel_rfl⟩
instance : KBld Try.prog 57 [.int .i64 0, .int .i64 0, .int .i64 0, .int .i64 0, .int .i64 0, .bool false] [(0, 1), (1, 3), (4, 1), (5, 1)] := ⟨_, .agg #[.int .i64 0, .int .i64 0, .int .i64 0, .int .i64 0, .int .i64 0, .bool false], Try.underlying57, fun w => by kernel_rfl, rfl, fun w => by kernel_rfl⟩
instance : KAgg Try.prog 57 6 := ⟨fun w => by simp [isAgg, run_underlying Try.underlying57], fun w => by kernel_rfl⟩
instance : KSz Try.prog 57 6 := ⟨fun w => by kernel_rfl⟩
instance : KZ Try.prog 57 (.agg #[.int .i64 0, .int .i64 0, .int .i64 0, .int .i64 0, .int .i64 0, .bool false]) [.int .i64 0, .int .i64 0, .int .i64 0, .int .i64 0, .int .i64 0, .bool false] := ⟨fun w => by kernel_rfl, rfl⟩
instance : KRow Try.prog 57 6 48 (.agg #[.int .i64 0, .int .i64 0, .int .i64 0, .int .i64 0, .int .i64 0, .bool false]) := ⟨info_parts (by kernel_rfl), rfl, by decide⟩
instance : KFld Try.prog 57 0 0 := ⟨fun w a => by kernel_rfl⟩
instance : KFld Try.prog 57 1 1 := ⟨fun w a => by kernel_rfl⟩
instance : KFld Try.prog 57 2 4 := ⟨fun w a => by kernel_rfl⟩
instance : KFld Try.prog 57 3 5 := ⟨fun w a => by kernel_rfl⟩
instance : KNG Try.prog 58 := ⟨by kernel_rfl⟩
instance : KBld Try.prog 58 [.int .i64 0, .int .i64 0, .int .i64 0, .int .i64 0, .int .i64 0, .bool false] [(0, 1), (1, 3), (4, 1), (5, 1)] := ⟨_, .agg #[.int .i64 0, .int .i64 0, .int .i64 0, .int .i64 0, .int .i64 0, .bool false], Try.underlying58, fun w => by kernel_rfl, rfl, fun w => by kernel_rfl⟩
instance : KAgg Try.prog 58 6 := ⟨fun w => by simp [isAgg, run_underlying Try.underlying58], fun w => by kernel_rfl⟩
instance : KSz Try.prog 58 6 := ⟨fun w => by kernel_rfl⟩
instance : KZ Try.prog 58 (.agg #[.int .i64 0, .int .i64 0, .int .i64 0, .int .i64 0, .int .i64 0, .bool false]) [.int .i64 0, .int .i64 0, .int .i64 0, .int .i64 0, .int .i64 0, .bool false] := ⟨fun w => by kernel_rfl, rfl⟩
instance : KRow Try.prog 58 6 48 (.agg #[.int .i64 0, .int .i64 0, .int .i64 0, .int .i64 0, .int .i64 0, .bool false]) := ⟨info_parts (by kernel_rfl), rfl, by decide⟩
instance : KFld Try.prog 58 0 0 := ⟨fun w a => by kernel_rfl⟩
instance : KFld Try.prog 58 1 1 := ⟨fun w a => by kernel_rfl⟩
instance : KFld Try.prog 58 2 4 := ⟨fun w a => by kernel_rfl⟩
instance : KFld Try.prog 58 3 5 := ⟨fun w a => by kernel_rfl⟩
instance : KOne Try.prog 59 := ⟨fun w => by simp [isAgg, run_underlying Try.underlying59]⟩
instance : KSz Try.prog 59 1 := ⟨fun w => by kernel_rfl⟩
instance : KZ Try.prog 59 (.nilFunc) [.nilFunc] := ⟨fun w => by kernel_rfl, rfl⟩
instance : KRow Try.prog 59 1 8 (.nilFunc) := ⟨info_parts (by kernel_rfl), rfl, by decide⟩
instance : KOne Try.prog 60 := ⟨fun w => by simp [isAgg, run_underlying Try.underlying60]⟩
instance : KSz Try.prog 60 1 := ⟨fun w => by kernel_rfl⟩
instance : KZ Try.prog 60 (.nilFunc) [.nilFunc] := ⟨fun w => by kernel_rfl, rfl⟩
instance : KRow Try.prog 60 1 8 (.nilFunc) := ⟨info_parts (by kernel_rfl), rfl, by decide⟩
instance : KOne Try.prog 61 := ⟨fun w => by simp [isAgg, run_underlying Try.underlying61]⟩
instance : KSz Try.prog 61 1 := ⟨fun w => by kernel_rfl⟩
instance : KZ Try.prog 61 (.nilFunc) [.nilFunc] := ⟨fun w => by kernel_rfl, rfl⟩
instance : KRow Try.prog 61 1 8 (.nilFunc) := ⟨info_parts (by kernel_rfl), rfl, by decide⟩
instance : KOne Try.prog 62 := ⟨fun w => by simp [isAgg, run_underlying Try.underlying62]⟩
instance : KSz Try.prog 62 1 := ⟨fun w => by kernel_rfl⟩
instance : KZ Try.prog 62 (.nilFunc) [.nilFunc] := ⟨fun w => by kernel_rfl, rfl⟩
instance : KRow Try.prog 62 1 8 (.nilFunc) := ⟨info_parts (by kernel_rfl), rfl, by decide⟩
instance : KNG Try.prog 63 := ⟨by kernel_rfl⟩
instance : KBld Try.prog 63 [.int .i64 0, .int .i64 0, .int .i64 0] [(0, 1), (1, 1), (2, 1)] := ⟨_, .agg #[.int .i64 0, .int .i64 0, .int .i64 0], Try.underlying63, fun w => by kernel_rfl, rfl, fun w => by kernel_rfl⟩
instance : KAgg Try.prog 63 3 := ⟨fun w => by simp [isAgg, run_underlying Try.underlying63], fun w => by kernel_rfl⟩
instance : KSz Try.prog 63 3 := ⟨fun w => by kernel_rfl⟩
instance : KZ Try.prog 63 (.agg #[.int .i64 0, .int .i64 0, .int .i64 0]) [.int .i64 0, .int .i64 0, .int .i64 0] := ⟨fun w => by kernel_rfl, rfl⟩
instance : KRow Try.prog 63 3 24 (.agg #[.int .i64 0, .int .i64 0, .int .i64 0]) := ⟨info_parts (by kernel_rfl), rfl, by decide⟩
instance : KFld Try.prog 63 0 0 := ⟨fun w a => by kernel_rfl⟩
instance : KFld Try.prog 63 1 1 := ⟨fun w a => by kernel_rfl⟩
instance : KFld Try.prog 63 2 2 := ⟨fun w a => by kernel_rfl⟩
instance : KNG Try.prog 64 := ⟨by kernel_rfl⟩
instance : KBld Try.prog 64 [.int .i64 0, .int .i64 0, .int .i64 0, .int .i64 0, .int .i64 0, .bool false] [(0, 1), (1, 3), (4, 1), (5, 1)] := ⟨_, .agg #[.int .i64 0, .int .i64 0, .int .i64 0, .int .i64 0, .int .i64 0, .bool false], Try.underlying64, fun w => by kernel_rfl, rfl, fun w => by kernel_rfl⟩
instance : KAgg Try.prog 64 6 := ⟨fun w => by simp [isAgg, run_underlying Try.underlying64], fun w => by kernel_rfl⟩
instance : KSz Try.prog 64 6 := ⟨fun w => by kernel_rfl⟩
instance : KZ Try.prog 64 (.agg #[.int .i64 0, .int .i64 0, .int .i64 0, .int .i64 0, .int .i64 0, .bool false]) [.int .i64 0, .int .i64 0, .int .i64 0, .int .i64 0, .int .i64 0, .bool false] := ⟨fun w => by kernel_rfl, rfl⟩
instance : KRow Try.prog 64 6 48 (.agg #[.int .i64 0, .int .i64 0, .int .i64 0, .int .i64 0, .int .i64 0, .bool false]) := ⟨info_parts (by kernel_rfl), rfl, by decide⟩
instance : KFld Try.prog 64 0 0 := ⟨fun w a => by kernel_rfl⟩
instance : KFld Try.prog 64 1 1 := ⟨fun w a => by kernel_rfl⟩
instance : KFld Try.prog 64 2 4 := ⟨fun w a => by kernel_rfl⟩
instance : KFld Try.prog 64 3 5 := ⟨fun w a => by kernel_rfl⟩
instance : KNG Try.prog 65 := ⟨by kernel_rfl⟩
instance : KBld Try.prog 65 [.int .i64 0, .int .i64 0, .int .i64 0, .int .i64 0, .int .i64 0, .bool false] [(0, 1), (1, 3), (4, 1), (5, 1)] := ⟨_, .agg #[.int .i64 0, .int .i64 0, .int .i64 0, .int .i64 0, .int .i64 0, .bool false], Try.underlying65, fun w => by kernel_rfl, rfl, fun w => by kernel_rfl⟩
instance : KAgg Try.prog 65 6 := ⟨fun w => by simp [isAgg, run_underlying Try.underlying65], fun w => by kernel_rfl⟩
instance : KSz Try.prog 65 6 := ⟨fun w => by kernel_rfl⟩
instance : KZ Try.prog 65 (.agg #[.int .i64 0, .int .i64 0, .int .i64 0, .int .i64 0, .int .i64 0, .bool false]) [.int .i64 0, .int .i64 0, .int .i64 0, .int .i64 0, .int .i64 0, .bool false] := ⟨fun w => by kernel_rfl, rfl⟩
instance : KRow Try.prog 65 6 48 (.agg #[.int .i64 0, .int .i64 0, .int .i64 0, .int .i64 0, .int .i64 0, .bool false]) := ⟨info_parts (by kernel_rfl), rfl, by decide⟩
instance : KFld Try.prog 65 0 0 := ⟨fun w a => by kernel_rfl⟩
instance : KFld Try.prog 65 1 1 := ⟨fun w a => by kernel_rfl⟩
instance : KFld Try.prog 65 2 4 := ⟨fun w a => by kernel_rfl⟩
instance : KFld Try.prog 65 3 5 := ⟨fun w a => by kernel_rfl⟩
instance : KOne Try.prog 66 := ⟨fun w => by simp [isAgg, run_underlying Try.underlying66]⟩
instance : KSz Try.prog 66 1 := ⟨fun w => by kernel_rfl⟩
instance : KZ Try.prog 66 (.nilFunc) [.nilFunc] := ⟨fun w => by kernel_rfl, rfl⟩
instance : KRow Try.prog 66 1 8 (.nilFunc) := ⟨info_parts (by kernel_rfl), rfl, by decide⟩
instance : KOne Try.prog 67 := ⟨fun w => by simp [isAgg, run_underlying Try.underlying67]⟩
instance : KSz Try.prog 67 1 := ⟨fun w => by kernel_rfl⟩
instance : KZ Try.prog 67 (.nilFunc) [.nilFunc] := ⟨fun w => by kernel_rfl, rfl⟩
instance : KRow Try.prog 67 1 8 (.nilFunc) := ⟨info_parts (by kernel_rfl), rfl, by decide⟩
instance : KOne Try.prog 68 := ⟨fun w => by simp [isAgg, run_underlying Try.underlying68]⟩
instance : KSz Try.prog 68 1 := ⟨fun w => by kernel_rfl⟩
instance : KZ Try.prog 68 (.nilFunc) [.nilFunc] := ⟨fun w => by kernel_rfl, rfl⟩
instance : KRow Try.prog 68 1 8 (.nilFunc) := ⟨info_parts (by kernel_rfl), rfl, by decide⟩
instance : KOne Try.prog 69 := ⟨fun w => by simp [isAgg, run_underlying Try.underlying69]⟩
instance : KSz Try.prog 69 1 := ⟨fun w => by kernel_rfl⟩
instance : KZ Try.prog 69 (.nilFunc) [.nilFunc] := ⟨fun w => by kernel_rfl, rfl⟩
instance : KRow Try.prog 69 1 8 (.nilFunc) := ⟨info_parts (by kernel_rfl), rfl, by decide⟩
instance : KOne Try.prog 70 := ⟨fun w => by simp [isAgg, run_underlying Try.underlying70]⟩
instance : KSz Try.prog 70 1 := ⟨fun w => by kernel_rfl⟩
instance : KZ Try.prog 70 (.nilFunc) [.nilFunc] := ⟨fun w => by kernel_rfl, rfl⟩
instance : KRow Try.prog 70 1 8 (.nilFunc) := ⟨info_parts (by kernel_rfl), rfl, by decide⟩
instance : KOne Try.prog 71 := ⟨fun w => by simp [isAgg, run_underlying Try.underlying71]⟩
instance : KSz Try.prog 71 1 := ⟨fun w => by kernel_rfl⟩
instance : KZ Try.prog 71 (.nilFunc) [.nilFunc] := ⟨fun w => by kernel_rfl, rfl⟩
instance : KRow Try.prog 71 1 8 (.nilFunc) := ⟨info_parts (by kernel_rfl), rfl, by decide⟩
instance : KOne Try.prog 72 := ⟨fun w => by simp [isAgg, run_underlying Try.underlying72]⟩
instance : KSz Try.prog 72 1 := ⟨fun w => by kernel_rfl⟩
instance : KZ Try.prog 72 (.nilFunc) [.nilFunc] := ⟨fun w => by kernel_rfl, rfl⟩
instance : KRow Try.prog 72 1 8 (.nilFunc) := ⟨info_parts (by kernel_rfl), rfl, by decide⟩
instance : KOne Try.prog 73 := ⟨fun w => by simp [isAgg, run_underlying Try.underlying73]⟩
instance : KSz Try.prog 73 1 := ⟨fun w => by kernel_rfl⟩
instance : KZ Try.prog 73 (.pointer none) [.pointer none] := ⟨fun w => by kernel_rfl, rfl⟩
instance : KRow Try.prog 73 1 8 (.pointer none) := ⟨info_parts (by kernel_rfl), rfl, by decide⟩
instance : KOne Try.prog 74 := ⟨fun w => by simp [isAgg, run_underlying Try.underlying74]⟩
instance : KSz Try.prog 74 1 := ⟨fun w => by kernel_rfl⟩
instance : KZ Try.prog 74 (.nilFunc) [.nilFunc] := ⟨fun w => by kernel_rfl, rfl⟩
instance : KRow Try.prog 74 1 8 (.nilFunc) := ⟨info_parts (by kernel_rfl), rfl, by decide⟩
instance : KOne Try.prog 75 := ⟨fun w => by simp [isAgg, run_underlying Try.underlying75]⟩
instance : KSz Try.prog 75 1 := ⟨fun w => by kernel_rfl⟩
instance : KZ Try.prog 75 (.nilFunc) [.nilFunc] := ⟨fun w => by kernel_rfl, rfl⟩
instance : KRow Try.prog 75 1 8 (.nilFunc) := ⟨info_parts (by kernel_rfl), rfl, by decide⟩
instance : KOne Try.prog 76 := ⟨fun w => by simp [isAgg, run_underlying Try.underlying76]⟩
instance : KSz Try.prog 76 1 := ⟨fun w => by kernel_rfl⟩
instance : KZ Try.prog 76 (.nilFunc) [.nilFunc] := ⟨fun w => by kernel_rfl, rfl⟩
instance : KRow Try.prog 76 1 8 (.nilFunc) := ⟨info_parts (by kernel_rfl), rfl, by decide⟩
instance : KOne Try.prog 78 := ⟨fun w => by simp [isAgg, run_underlying Try.underlying78]⟩
instance : KSz Try.prog 78 1 := ⟨fun w => by kernel_rfl⟩
instance : KZ Try.prog 78 (.nilFunc) [.nilFunc] := ⟨fun w => by kernel_rfl, rfl⟩
instance : KRow Try.prog 78 1 8 (.nilFunc) := ⟨info_parts (by kernel_rfl), rfl, by decide⟩
instance : KOne Try.prog 79 := ⟨fun w => by simp [isAgg, run_underlying Try.underlying79]⟩
instance : KSz Try.prog 79 1 := ⟨fun w => by kernel_rfl⟩
instance : KZ Try.prog 79 (.nilFunc) [.nilFunc] := ⟨fun w => by kernel_rfl, rfl⟩
instance : KRow Try.prog 79 1 8 (.nilFunc) := ⟨info_parts (by kernel_rfl), rfl, by decide⟩
instance : KOne Try.prog 80 := ⟨fun w => by simp [isAgg, run_underlying Try.underlying80]⟩
instance : KSz Try.prog 80 1 := ⟨fun w => by kernel_rfl⟩
instance : KZ Try.prog 80 (.nilFunc) [.nilFunc] := ⟨fun w => by kernel_rfl, rfl⟩
instance : KRow Try.prog 80 1 8 (.nilFunc) := ⟨info_parts (by kernel_rfl), rfl, by decide⟩
instance : KOne Try.prog 81 := ⟨fun w => by simp [isAgg, run_underlying Try.underlying81]⟩
instance : KSz Try.prog 81 1 := ⟨fun w => by kernel_rfl⟩
instance : KZ Try.prog 81 (.nilFunc) [.nilFunc] := ⟨fun w => by kernel_rfl, rfl⟩
instance : KRow Try.prog 81 1 8 (.nilFunc) := ⟨info_parts (by kernel_rfl), rfl, by decide⟩
instance : KOne Try.prog 82 := ⟨fun w => by simp [isAgg, run_underlying Try.underlying82]⟩
instance : KSz Try.prog 82 1 := ⟨fun w => by kernel_rfl⟩
instance : KZ Try.prog 82 (.nilFunc) [.nilFunc] := ⟨fun w => by kernel_rfl, rfl⟩
instance : KRow Try.prog 82 1 8 (.nilFunc) := ⟨info_parts (by kernel_rfl), rfl, by decide⟩
instance : KOne Try.prog 83 := ⟨fun w => by simp [isAgg, run_underlying Try.underlying83]⟩
instance : KSz Try.prog 83 1 := ⟨fun w => by kernel_rfl⟩
instance : KZ Try.prog 83 (.nilFunc) [.nilFunc] := ⟨fun w => by kernel_rfl, rfl⟩
instance : KRow Try.prog 83 1 8 (.nilFunc) := ⟨info_parts (by kernel_rfl), rfl, by decide⟩
instance : KOne Try.prog 84 := ⟨fun w => by simp [isAgg, run_underlying Try.underlying84]⟩
instance : KSz Try.prog 84 1 := ⟨fun w => by kernel_rfl⟩
instance : KZ Try.prog 84 (.nilFunc) [.nilFunc] := ⟨fun w => by kernel_rfl, rfl⟩
instance : KRow Try.prog 84 1 8 (.nilFunc) := ⟨info_parts (by kernel_rfl), rfl, by decide⟩
instance : KOne Try.prog 85 := ⟨fun w => by simp [isAgg, run_underlying Try.underlying85]⟩
instance : KSz Try.prog 85 1 := ⟨fun w => by kernel_rfl⟩
instance : KZ Try.prog 85 (.nilFunc) [.nilFunc] := ⟨fun w => by kernel_rfl, rfl⟩
instance : KRow Try.prog 85 1 8 (.nilFunc) := ⟨info_parts (by kernel_rfl), rfl, by decide⟩
instance : KOne Try.prog 86 := ⟨fun w => by simp [isAgg, run_underlying Try.underlying86]⟩
instance : KSz Try.prog 86 1 := ⟨fun w => by kernel_rfl⟩
instance : KZ Try.prog 86 (.nilFunc) [.nilFunc] := ⟨fun w => by kernel_rfl, rfl⟩
instance : KRow Try.prog 86 1 8 (.nilFunc) := ⟨info_parts (by kernel_rfl), rfl, by decide⟩
instance : KNG Try.prog 87 := ⟨by kernel_rfl⟩
instance : KBld Try.prog 87 [.slice none 0 0, .int .i64 0] [(0, 1), (1, 1)] := ⟨_, .agg #[.slice none 0 0, .int .i64 0], Try.underlying87, fun w => by kernel_rfl, rfl, fun w => by kernel_rfl⟩
instance : KAgg Try.prog 87 2 := ⟨fun w => by simp [isAgg, run_underlying Try.underlying87], fun w => by kernel_rfl⟩
instance : KSz Try.prog 87 2 := ⟨fun w => by kernel_rfl⟩
instance : KZ Try.prog 87 (.agg #[.slice none 0 0, .int .i64 0]) [.slice none 0 0, .int .i64 0] := ⟨fun w => by kernel_rfl, rfl⟩
instance : KRow Try.prog 87 2 32 (.agg #[.slice none 0 0, .int .i64 0]) := ⟨info_parts (by kernel_rfl), rfl, by decide⟩
instance : KFld Try.prog 87 0 0 := ⟨fun w a => by kernel_rfl⟩
instance : KFld Try.prog 87 1 1 := ⟨fun w a => by kernel_rfl⟩
instance : KNG Try.prog 88 := ⟨by kernel_rfl⟩
instance : KBld Try.prog 88 [.slice none 0 0, .int .i64 0] [(0, 1), (1, 1)] := ⟨_, .agg #[.slice none 0 0, .int .i64 0], Try.underlying88, fun w => by kernel_rfl, rfl, fun w => by kernel_rfl⟩
instance : KAgg Try.prog 88 2 := ⟨fun w => by simp [isAgg, run_underlying Try.underlying88], fun w => by kernel_rfl⟩
instance : KSz Try.prog 88 2 := ⟨fun w => by kernel_rfl⟩
instance : KZ Try.prog 88 (.agg #[.slice none 0 0, .int .i64 0]) [.slice none 0 0, .int .i64 0] := ⟨fun w => by kernel_rfl, rfl⟩
instance : KRow Try.prog 88 2 32 (.agg #[.slice none 0 0, .int .i64 0]) := ⟨info_parts (by kernel_rfl), rfl, by decide⟩
instance : KFld Try.prog 88 0 0 := ⟨fun w a => by kernel_rfl⟩
instance : KFld Try.prog 88 1 1 := ⟨fun w a => by kernel_rfl⟩
instance : KOne Try.prog 89 := ⟨fun w => by simp [isAgg, run_underlying Try.underlying89]⟩
instance : KSz Try.prog 89 1 := ⟨fun w => by kernel_rfl⟩
instance : KZ Try.prog 89 (.nilFunc) [.nilFunc] := ⟨fun w => by kernel_rfl, rfl⟩
instance : KRow Try.prog 89 1 8 (.nilFunc) := ⟨info_parts (by kernel_rfl), rfl, by decide⟩
instance : KOne Try.prog 91 := ⟨fun w => by simp [isAgg, run_underlying Try.underlying91]⟩
instance : KSz Try.prog 91 1 := ⟨fun w => by kernel_rfl⟩
instance : KZ Try.prog 91 (.nilFunc) [.nilFunc] := ⟨fun w => by kernel_rfl, rfl⟩
instance : KRow Try.prog 91 1 8 (.nilFunc) := ⟨info_parts (by kernel_rfl), rfl, by decide⟩
instance : KOne Try.prog 92 := ⟨fun w => by simp [isAgg, run_underlying Try.underlying92]⟩
instance : KSz Try.prog 92 1 := ⟨fun w => by kernel_rfl⟩
instance : KZ Try.prog 92 (.nilFunc) [.nilFunc] := ⟨fun w => by kernel_rfl, rfl⟩
instance : KRow Try.prog 92 1 8 (.nilFunc) := ⟨info_parts (by kernel_rfl), rfl, by decide⟩
instance : KOne Try.prog 93 := ⟨fun w => by simp [isAgg, run_underlying Try.underlying93]⟩
instance : KSz Try.prog 93 1 := ⟨fun w => by kernel_rfl⟩
instance : KZ Try.prog 93 (.nilFunc) [.nilFunc] := ⟨fun w => by kernel_rfl, rfl⟩
instance : KRow Try.prog 93 1 8 (.nilFunc) := ⟨info_parts (by kernel_rfl), rfl, by decide⟩
instance : KSl Try.prog 94 4 := ⟨Try.underlying94⟩
instance : KOne Try.prog 94 := ⟨fun w => by simp [isAgg, run_underlying Try.underlying94]⟩
instance : KSz Try.prog 94 1 := ⟨fun w => by kernel_rfl⟩
instance : KZ Try.prog 94 (.slice none 0 0) [.slice none 0 0] := ⟨fun w => by kernel_rfl, rfl⟩
instance : KRow Try.prog 94 1 24 (.slice none 0 0) := ⟨info_parts (by kernel_rfl), rfl, by decide⟩
instance : KOne Try.prog 96 := ⟨fun w => by simp [isAgg, run_underlying Try.underlying96]⟩
instance : KSz Try.prog 96 1 := ⟨fun w => by kernel_rfl⟩
instance : KZ Try.prog 96 (.nilFunc) [.nilFunc] := ⟨fun w => by kernel_rfl, rfl⟩
instance : KRow Try.prog 96 1 8 (.nilFunc) := ⟨info_parts (by kernel_rfl), rfl, by decide⟩
instance : KOne Try.prog 97 := ⟨fun w => by simp [isAgg, run_underlying Try.underlying97]⟩
instance : KSz Try.prog 97 1 := ⟨fun w => by kernel_rfl⟩
instance : KZ Try.prog 97 (.nilFunc) [.nilFunc] := ⟨fun w => by kernel_rfl, rfl⟩
instance : KRow Try.prog 97 1 8 (.nilFunc) := ⟨info_parts (by kernel_rfl), rfl, by decide⟩
instance : KOne Try.prog 103 := ⟨fun w => by simp [isAgg, run_underlying Try.underlying103]⟩
instance : KSz Try.prog 103 1 := ⟨fun w => by kernel_rfl⟩
instance : KZ Try.prog 103 (.nilFunc) [.nilFunc] := ⟨fun w => by kernel_rfl, rfl⟩
instance : KRow Try.prog 103 1 8 (.nilFunc) := ⟨info_parts (by kernel_rfl), rfl, by decide⟩
instance : KInt Try.prog 104 .u32 := ⟨Try.underlying104⟩
instance : KOne Try.prog 104 := ⟨fun w => by simp [isAgg, run_underlying Try.underlying104]⟩
instance : KSz Try.prog 104 1 := ⟨fun w => by kernel_rfl⟩
instance : KZ Try.prog 104 (.int .u32 0) [.int .u32 0] := ⟨fun w => by kernel_rfl, rfl⟩
instance : KRow Try.prog 104 1 4 (.int .u32 0) := ⟨info_parts (by kernel_rfl), rfl, by decide⟩
instance : KOne Try.prog 108 := ⟨fun w => by simp [isAgg, run_underlying Try.underlying108]⟩
instance : KSz Try.prog 108 1 := ⟨fun w => by kernel_rfl⟩
instance : KZ Try.prog 108 (.pointer none) [.pointer none] := ⟨fun w => by kernel_rfl, rfl⟩
instance : KRow Try.prog 108 1 8 (.pointer none) := ⟨info_parts (by kernel_rfl), rfl, by decide⟩
theorem mixed : Try.prog.follows .mixedOrders = true := by kernel_rfl
end Go.Proofs.Ytpekagagjjhjeaa
