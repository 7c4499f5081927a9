/- What the engine is told of this program's types. Written by a program of mine (tyfill.py). -/
import Derived.Test.YtdenlafdbfbkoaaProg
import Derived.Test.YtdenlafdbfbkoaaOpt
import Derived.Test.YtdenlafdbfbkoaaOpd
import Derived.KernelRfl
namespace Go.Proofs.Ytdenlafdbfbkoaa
open Go.RowKit
instance : KOne Try.prog 1 := ⟨fun w => by simp [isAgg, run_underlying Try.underlying1]⟩
instance : KSz Try.prog 1 1 := ⟨fun w => by kernel_rfl⟩
instance : KZ Try.prog 1 (.nilFunc) [.nilFunc] := ⟨fun w => by kernel_rfl, rfl⟩
instance : KRow Try.prog 1 1 8 (.nilFunc) := ⟨info_parts (by kernel_rfl), rfl, by decide⟩
instance : KInt Try.prog 2 .i64 := ⟨Try.underlying2⟩
instance : KOne Try.prog 2 := ⟨fun w => by simp [isAgg, run_underlying Try.underlying2]⟩
instance : KSz Try.prog 2 1 := ⟨fun w => by kernel_rfl⟩
instance : KZ Try.prog 2 (.int .i64 0) [.int .i64 0] := ⟨fun w => by kernel_rfl, rfl⟩
instance : KRow Try.prog 2 1 8 (.int .i64 0) := ⟨info_parts (by kernel_rfl), rfl, by decide⟩
instance : KInt Try.prog 3 .i64 := ⟨Try.underlying3⟩
instance : KOne Try.prog 3 := ⟨fun w => by simp [isAgg, run_underlying Try.underlying3]⟩
instance : KSz Try.prog 3 1 := ⟨fun w => by kernel_rfl⟩
instance : KZ Try.prog 3 (.int .i64 0) [.int .i64 0] := ⟨fun w => by kernel_rfl, rfl⟩
instance : KRow Try.prog 3 1 8 (.int .i64 0) := ⟨info_parts (by kernel_rfl), rfl, by decide⟩
instance : KBool Try.prog 4 := ⟨Try.underlying4⟩
instance : KOne Try.prog 4 := ⟨fun w => by simp [isAgg, run_underlying Try.underlying4]⟩
instance : KSz Try.prog 4 1 := ⟨fun w => by kernel_rfl⟩
instance : KZ Try.prog 4 (.bool false) [.bool false] := ⟨fun w => by kernel_rfl, rfl⟩
instance : KRow Try.prog 4 1 1 (.bool false) := ⟨info_parts (by kernel_rfl), rfl, by decide⟩
instance : KInt Try.prog 5 .u8 := ⟨Try.underlying5⟩
instance : KOne Try.prog 5 := ⟨fun w => by simp [isAgg, run_underlying Try.underlying5]⟩
instance : KSz Try.prog 5 1 := ⟨fun w => by kernel_rfl⟩
instance : KZ Try.prog 5 (.int .u8 0) [.int .u8 0] := ⟨fun w => by kernel_rfl, rfl⟩
instance : KRow Try.prog 5 1 1 (.int .u8 0) := ⟨info_parts (by kernel_rfl), rfl, by decide⟩
instance : KStr Try.prog 9 := ⟨Try.underlying9⟩
instance : KOne Try.prog 9 := ⟨fun w => by simp [isAgg, run_underlying Try.underlying9]⟩
instance : KSz Try.prog 9 1 := ⟨fun w => by kernel_rfl⟩
instance : KZ Try.prog 9 (.string ByteArray.empty) [.string ByteArray.empty] := ⟨fun w => by kernel_rfl, rfl⟩
instance : KRow Try.prog 9 1 16 (.string ByteArray.empty) := ⟨info_parts (by kernel_rfl), rfl, by decide⟩
instance : KInt Try.prog 12 .u64 := ⟨Try.underlying12⟩
instance : KOne Try.prog 12 := ⟨fun w => by simp [isAgg, run_underlying Try.underlying12]⟩
instance : KSz Try.prog 12 1 := ⟨fun w => by kernel_rfl⟩
instance : KZ Try.prog 12 (.int .u64 0) [.int .u64 0] := ⟨fun w => by kernel_rfl, rfl⟩
instance : KRow Try.prog 12 1 8 (.int .u64 0) := ⟨info_parts (by kernel_rfl), rfl, by decide⟩
instance : KNG Try.prog 13 := ⟨by kernel_rfl⟩
instance : KBld Try.prog 13 [.string ByteArray.empty, .int .u64 0] [(0, 1), (1, 1)] := ⟨_, .agg #[.string ByteArray.empty, .int .u64 0], Try.underlying13, fun w => by kernel_rfl, rfl, fun w => by kernel_rfl⟩
instance : KAgg Try.prog 13 2 := ⟨fun w => by simp [isAgg, run_underlying Try.underlying13], fun w => by kernel_rfl⟩
instance : KSz Try.prog 13 2 := ⟨fun w => by kernel_rfl⟩
instance : KZ Try.prog 13 (.agg #[.string ByteArray.empty, .int .u64 0]) [.string ByteArray.empty, .int .u64 0] := ⟨fun w => by kernel_rfl, rfl⟩
instance : KRow Try.prog 13 2 24 (.agg #[.string ByteArray.empty, .int .u64 0]) := ⟨info_parts (by kernel_rfl), rfl, by decide⟩
instance : KFld Try.prog 13 0 0 := ⟨fun w a => by kernel_rfl⟩
instance : KFld Try.prog 13 1 1 := ⟨fun w a => by kernel_rfl⟩
instance : KInt Try.prog 21 .i32 := ⟨Try.underlying21⟩
instance : KOne Try.prog 21 := ⟨fun w => by simp [isAgg, run_underlying Try.underlying21]⟩
instance : KSz Try.prog 21 1 := ⟨fun w => by kernel_rfl⟩
instance : KZ Try.prog 21 (.int .i32 0) [.int .i32 0] := ⟨fun w => by kernel_rfl, rfl⟩
instance : KRow Try.prog 21 1 4 (.int .i32 0) := ⟨info_parts (by kernel_rfl), rfl, by decide⟩
instance : KSl Try.prog 22 5 := ⟨Try.underlying22⟩
instance : KOne Try.prog 22 := ⟨fun w => by simp [isAgg, run_underlying Try.underlying22]⟩
instance : KSz Try.prog 22 1 := ⟨fun w => by kernel_rfl⟩
instance : KZ Try.prog 22 (.slice none 0 0) [.slice none 0 0] := ⟨fun w => by kernel_rfl, rfl⟩
instance : KRow Try.prog 22 1 24 (.slice none 0 0) := ⟨info_parts (by kernel_rfl), rfl, by decide⟩
instance : KSl Try.prog 23 3 := ⟨Try.underlying23⟩
instance : KOne Try.prog 23 := ⟨fun w => by simp [isAgg, run_underlying Try.underlying23]⟩
instance : KSz Try.prog 23 1 := ⟨fun w => by kernel_rfl⟩
instance : KZ Try.prog 23 (.slice none 0 0) [.slice none 0 0] := ⟨fun w => by kernel_rfl, rfl⟩
instance : KRow Try.prog 23 1 24 (.slice none 0 0) := ⟨info_parts (by kernel_rfl), rfl, by decide⟩
instance : KNG Try.prog 24 := ⟨by kernel_rfl⟩
instance : KBld Try.prog 24 [.int .i64 0, .int .i64 0, .int .i64 0] [(0, 1), (1, 1), (2, 1)] := ⟨_, .agg #[.int .i64 0, .int .i64 0, .int .i64 0], Try.underlying24, fun w => by kernel_rfl, rfl, fun w => by kernel_rfl⟩
instance : KAgg Try.prog 24 3 := ⟨fun w => by simp [isAgg, run_underlying Try.underlying24], fun w => by kernel_rfl⟩
instance : KSz Try.prog 24 3 := ⟨fun w => by kernel_rfl⟩
instance : KZ Try.prog 24 (.agg #[.int .i64 0, .int .i64 0, .int .i64 0]) [.int .i64 0, .int .i64 0, .int .i64 0] := ⟨fun w => by kernel_rfl, rfl⟩
instance : KRow Try.prog 24 3 24 (.agg #[.int .i64 0, .int .i64 0, .int .i64 0]) := ⟨info_parts (by kernel_rfl), rfl, by decide⟩
instance : KFld Try.prog 24 0 0 := ⟨fun w a => by kernel_rfl⟩
instance : KFld Try.prog 24 1 1 := ⟨fun w a => by kernel_rfl⟩
instance : KFld Try.prog 24 2 2 := ⟨fun w a => by kernel_rfl⟩
instance : KNG Try.prog 25 := ⟨by kernel_rfl⟩
instance : KBld Try.prog 25 [.int .i64 0, .int .i64 0, .int .i64 0] [(0, 1), (1, 1), (2, 1)] := ⟨_, .agg #[.int .i64 0, .int .i64 0, .int .i64 0], Try.underlying25, fun w => by kernel_rfl, rfl, fun w => by kernel_rfl⟩
instance : KAgg Try.prog 25 3 := ⟨fun w => by simp [isAgg, run_underlying Try.underlying25], fun w => by kernel_rfl⟩
instance : KSz Try.prog 25 3 := ⟨fun w => by kernel_rfl⟩
instance : KZ Try.prog 25 (.agg #[.int .i64 0, .int .i64 0, .int .i64 0]) [.int .i64 0, .int .i64 0, .int .i64 0] := ⟨fun w => by kernel_rfl, rfl⟩
instance : KRow Try.prog 25 3 24 (.agg #[.int .i64 0, .int .i64 0, .int .i64 0]) := ⟨info_parts (by kernel_rfl), rfl, by decide⟩
instance : KFld Try.prog 25 0 0 := ⟨fun w a => by kernel_rfl⟩
instance : KFld Try.prog 25 1 1 := ⟨fun w a => by kernel_rfl⟩
instance : KFld Try.prog 25 2 2 := ⟨fun w a => by kernel_rfl⟩
instance : KSl Try.prog 26 68 := ⟨Try.underlying26⟩
instance : KOne Try.prog 26 := ⟨fun w => by simp [isAgg, run_underlying Try.underlying26]⟩
instance : KSz Try.prog 26 1 := ⟨fun w => by kernel_rfl⟩
instance : KZ Try.prog 26 (.slice none 0 0) [.slice none 0 0] := ⟨fun w => by kernel_rfl, rfl⟩
instance : KRow Try.prog 26 1 24 (.slice none 0 0) := ⟨info_parts (by kernel_rfl), rfl, by decide⟩
instance : KNG Try.prog 27 := ⟨by kernel_rfl⟩
instance : KBld Try.prog 27 [.slice none 0 0, .int .i64 0, .int .i64 0, .int .i64 0, .int .i64 0, .slice none 0 0, .slice none 0 0] [(0, 1), (1, 3), (4, 1), (5, 1), (6, 1)] := ⟨_, .agg #[.slice none 0 0, .int .i64 0, .int .i64 0, .int .i64 0, .int .i64 0, .slice none 0 0, .slice none 0 0], Try.underlying27, fun w => by kernel_rfl, rfl, fun w => by kernel_rfl⟩
instance : KAgg Try.prog 27 7 := ⟨fun w => by simp [isAgg, run_underlying Try.underlying27], fun w => by kernel_rfl⟩
instance : KSz Try.prog 27 7 := ⟨fun w => by kernel_rfl⟩
instance : KZ Try.prog 27 (.agg #[.slice none 0 0, .int .i64 0, .int .i64 0, .int .i64 0, .int .i64 0, .slice none 0 0, .slice none 0 0]) [.slice none 0 0, .int .i64 0, .int .i64 0, .int .i64 0, .int .i64 0, .slice none 0 0, .slice none 0 0] := ⟨fun w => by kernel_rfl, rfl⟩
instance : KRow Try.prog 27 7 104 (.agg #[.slice none 0 0, .int .i64 0, .int .i64 0, .int .i64 0, .int .i64 0, .slice none 0 0, .slice none 0 0]) := ⟨info_parts (by kernel_rfl), rfl, by decide⟩
instance : KFld Try.prog 27 0 0 := ⟨fun w a => by kernel_rfl⟩
instance : KFld Try.prog 27 1 1 := ⟨fun w a => by kernel_rfl⟩
instance : KFld Try.prog 27 2 4 := ⟨fun w a => by kernel_rfl⟩
instance : KFld Try.prog 27 3 5 := ⟨fun w a => by kernel_rfl⟩
instance : KFld Try.prog 27 4 6 := ⟨fun w a => by kernel_rfl⟩
instance : KNG Try.prog 28 := ⟨by kernel_rfl⟩
instance : KBld Try.prog 28 [.slice none 0 0, .int .i64 0, .int .i64 0, .int .i64 0, .int .i64 0, .slice none 0 0, .slice none 0 0] [(0, 1), (1, 3), (4, 1), (5, 1), (6, 1)] := ⟨_, .agg #[.slice none 0 0, .int .i64 0, .int .i64 0, .int .i64 0, .int .i64 0, .slice none 0 0, .slice none 0 0], Try.underlying28, fun w => by kernel_rfl, rfl, fun w => by kernel_rfl⟩
instance : KAgg Try.prog 28 7 := ⟨fun w => by simp [isAgg, run_underlying Try.underlying28], fun w => by kernel_rfl⟩
instance : KSz Try.prog 28 7 := ⟨fun w => by kernel_rfl⟩
instance : KZ Try.prog 28 (.agg #[.slice none 0 0, .int .i64 0, .int .i64 0, .int .i64 0, .int .i64 0, .slice none 0 0, .slice none 0 0]) [.slice none 0 0, .int .i64 0, .int .i64 0, .int .i64 0, .int .i64 0, .slice none 0 0, .slice none 0 0] := ⟨fun w => by kernel_rfl, rfl⟩
instance : KRow Try.prog 28 7 104 (.agg #[.slice none 0 0, .int .i64 0, .int .i64 0, .int .i64 0, .int .i64 0, .slice none 0 0, .slice none 0 0]) := ⟨info_parts (by kernel_rfl), rfl, by decide⟩
instance : KFld Try.prog 28 0 0 := ⟨fun w a => by kernel_rfl⟩
instance : KFld Try.prog 28 1 1 := ⟨fun w a => by kernel_rfl⟩
instance : KFld Try.prog 28 2 4 := ⟨fun w a => by kernel_rfl⟩
instance : KFld Try.prog 28 3 5 := ⟨fun w a => by kernel_rfl⟩
instance : KFld Try.prog 28 4 6 := ⟨fun w a => by kernel_rfl⟩
instance : KSl Try.prog 29 9 := ⟨Try.underlying29⟩
instance : KOne Try.prog 29 := ⟨fun w => by simp [isAgg, run_underlying Try.underlying29]⟩
instance : KSz Try.prog 29 1 := ⟨fun w => by kernel_rfl⟩
instance : KZ Try.prog 29 (.slice none 0 0) [.slice none 0 0] := ⟨fun w => by kernel_rfl, rfl⟩
instance : KRow Try.prog 29 1 24 (.slice none 0 0) := ⟨info_parts (by kernel_rfl), rfl, by decide⟩
instance : KOne Try.prog 31 := ⟨fun w => by simp [isAgg, run_underlying Try.underlying31]⟩
instance : KSz Try.prog 31 1 := ⟨fun w => by kernel_rfl⟩
instance : KZ Try.prog 31 (.nilFunc) [.nilFunc] := ⟨fun w => by kernel_rfl, rfl⟩
instance : KRow Try.prog 31 1 8 (.nilFunc) := ⟨info_parts (by kernel_rfl), rfl, by decide⟩
instance : KSl Try.prog 32 38 := ⟨Try.underlying32⟩
instance : KOne Try.prog 32 := ⟨fun w => by simp [isAgg, run_underlying Try.underlying32]⟩
instance : KSz Try.prog 32 1 := ⟨fun w => by kernel_rfl⟩
instance : KZ Try.prog 32 (.slice none 0 0) [.slice none 0 0] := ⟨fun w => by kernel_rfl, rfl⟩
instance : KRow Try.prog 32 1 24 (.slice none 0 0) := ⟨info_parts (by kernel_rfl), rfl, by decide⟩
instance : KOne Try.prog 34 := ⟨fun w => by simp [isAgg, run_underlying Try.underlying34]⟩
instance : KSz Try.prog 34 1 := ⟨fun w => by kernel_rfl⟩
instance : KZ Try.prog 34 (.nilFunc) [.nilFunc] := ⟨fun w => by kernel_rfl, rfl⟩
instance : KRow Try.prog 34 1 8 (.nilFunc) := ⟨info_parts (by kernel_rfl), rfl, by decide⟩
instance : KOne Try.prog 35 := ⟨fun w => by simp [isAgg, run_underlying Try.underlying35]⟩
instance : KSz Try.prog 35 1 := ⟨fun w => by kernel_rfl⟩
instance : KZ Try.prog 35 (.nilFunc) [.nilFunc] := ⟨fun w => by kernel_rfl, rfl⟩
instance : KRow Try.prog 35 1 8 (.nilFunc) := ⟨info_parts (by kernel_rfl), rfl, by decide⟩
instance : KOne Try.prog 36 := ⟨fun w => by simp [isAgg, run_underlying Try.underlying36]⟩
instance : KSz Try.prog 36 1 := ⟨fun w => by kernel_rfl⟩
instance : KZ Try.prog 36 (.nilFunc) [.nilFunc] := ⟨fun w => by kernel_rfl, rfl⟩
instance : KRow Try.prog 36 1 8 (.nilFunc) := ⟨info_parts (by kernel_rfl), rfl, by decide⟩
instance : KNG Try.prog 37 := ⟨by kernel_rfl⟩
instance : KBld Try.prog 37 [.int .i64 0, .int .i64 0, .int .i64 0, .int .i64 0, .int .i64 0, .bool false] [(0, 1), (1, 3), (4, 1), (5, 1)] := ⟨_, .agg #[.int .i64 0, .int .i64 0, .int .i64 0, .int .i64 0, .int .i64 0, .bool false], Try.underlying37, fun w => by kernel_rfl, rfl, fun w => by kernel_rfl⟩
instance : KAgg Try.prog 37 6 := ⟨fun w => by simp [isAgg, run_underlying Try.underlying37], fun w => by kernel_rfl⟩
instance : KSz Try.prog 37 6 := ⟨fun w => by kernel_rfl⟩
instance : KZ Try.prog 37 (.agg #[.int .i64 0, .int .i64 0, .int .i64 0, .int .i64 0, .int .i64 0, .bool false]) [.int .i64 0, .int .i64 0, .int .i64 0, .int .i64 0, .int .i64 0, .bool false] := ⟨fun w => by kernel_rfl, rfl⟩
instance : KRow Try.prog 37 6 48 (.agg #[.int .i64 0, .int .i64 0, .int .i64 0, .int .i64 0, .int .i64 0, .bool false]) := ⟨info_parts (by kernel_rfl), rfl, by decide⟩
instance : KFld Try.prog 37 0 0 := ⟨fun w a => by kernel_rfl⟩
instance : KFld Try.prog 37 1 1 := ⟨fun w a => by kernel_rfl⟩
instance : KFld Try.prog 37 2 4 := ⟨fun w a => by kernel_rfl⟩
instance : KFld Try.prog 37 3 5 := ⟨fun w a => by kernel_rfl⟩
instance : KNG Try.prog 38 := ⟨by kernel_rfl⟩
instance : KBld Try.prog 38 [.int .i64 0, .int .i64 0, .int .i64 0, .int .i64 0, .int .i64 0, .bool false] [(0, 1), (1, 3), (4, 1), (5, 1)] := ⟨_, .agg #[.int .i64 0, .int .i64 0, .int .i64 0, .int .i64 0, .int .i64 0, .bool false], Try.underlying38, fun w => by kernel_rfl, rfl, fun w => by kernel_rfl⟩
instance : KAgg Try.prog 38 6 := ⟨fun w => by simp [isAgg, run_underlying Try.underlying38], fun w => by kernel_rfl⟩
instance : KSz Try.prog 38 6 := ⟨fun w => by kernel_rfl⟩
instance : KZ Try.prog 38 (.agg #[.int .i64 0, .int .i64 0, .int .i64 0, .int .i64 0, .int .i64 0, .bool false]) [.int .i64 0, .int .i64 0, .int .i64 0, .int .i64 0, .int .i64 0, .bool false] := ⟨fun w => by kernel_rfl, rfl⟩
instance : KRow Try.prog 38 6 48 (.agg #[.int .i64 0, .int .i64 0, .int .i64 0, .int .i64 0, .int .i64 0, .bool false]) := ⟨info_parts (by kernel_rfl), rfl, by decide⟩
instance : KFld Try.prog 38 0 0 := ⟨fun w a => by kernel_rfl⟩
instance : KFld Try.prog 38 1 1 := ⟨fun w a => by kernel_rfl⟩
instance : KFld Try.prog 38 2 4 := ⟨fun w a => by kernel_rfl⟩
instance : KFld Try.prog 38 3 5 := ⟨fun w a => by kernel_rfl⟩
instance : KOne Try.prog 39 := ⟨fun w => by simp [isAgg, run_underlying Try.underlying39]⟩
instance : KSz Try.prog 39 1 := ⟨fun w => by kernel_rfl⟩
instance : KZ Try.prog 39 (.nilFunc) [.nilFunc] := ⟨fun w => by kernel_rfl, rfl⟩
instance : KRow Try.prog 39 1 8 (.nilFunc) := ⟨info_parts (by kernel_rfl), rfl, by decide⟩
instance : KOne Try.prog 40 := ⟨fun w => by simp [isAgg, run_underlying Try.underlying40]⟩
instance : KSz Try.prog 40 1 := ⟨fun w => by kernel_rfl⟩
instance : KZ Try.prog 40 (.nilFunc) [.nilFunc] := ⟨fun w => by kernel_rfl, rfl⟩
instance : KRow Try.prog 40 1 8 (.nilFunc) := ⟨info_parts (by kernel_rfl), rfl, by decide⟩
instance : KOne Try.prog 41 := ⟨fun w => by simp [isAgg, run_underlying Try.underlying41]⟩
instance : KSz Try.prog 41 1 := ⟨fun w => by kernel_rfl⟩
instance : KZ Try.prog 41 (.nilFunc) [.nilFunc] := ⟨fun w => by kernel_rfl, rfl⟩
instance : KRow Try.prog 41 1 8 (.nilFunc) := ⟨info_parts (by kernel_rfl), rfl, by decide⟩
instance : KOne Try.prog 42 := ⟨fun w => by simp [isAgg, run_underlying Try.underlying42]⟩
instance : KSz Try.prog 42 1 := ⟨fun w => by kernel_rfl⟩
instance : KZ Try.prog 42 (.nilFunc) [.nilFunc] := ⟨fun w => by kernel_rfl, rfl⟩
instance : KRow Try.prog 42 1 8 (.nilFunc) := ⟨info_parts (by kernel_rfl), rfl, by decide⟩
instance : KOne Try.prog 44 := ⟨fun w => by simp [isAgg, run_underlying Try.underlying44]⟩
instance : KSz Try.prog 44 1 := ⟨fun w => by kernel_rfl⟩
instance : KZ Try.prog 44 (.nilFunc) [.nilFunc] := ⟨fun w => by kernel_rfl, rfl⟩
instance : KRow Try.prog 44 1 8 (.nilFunc) := ⟨info_parts (by kernel_rfl), rfl, by decide⟩
instance : KOne Try.prog 45 := ⟨fun w => by simp [isAgg, run_underlying Try.underlying45]⟩
instance : KSz Try.prog 45 1 := ⟨fun w => by kernel_rfl⟩
instance : KZ Try.prog 45 (.nilFunc) [.nilFunc] := ⟨fun w => by kernel_rfl, rfl⟩
instance : KRow Try.prog 45 1 8 (.nilFunc) := ⟨info_parts (by kernel_rfl), rfl, by decide⟩
instance : KNG Try.prog 46 := ⟨by kernel_rfl⟩
instance : KBld Try.prog 46 [.int .i64 0, .int .i64 0, .int .i64 0] [(0, 1), (1, 1), (2, 1)] := ⟨_, .agg #[.int .i64 0, .int .i64 0, .int .i64 0], Try.underlying46, fun w => by kernel_rfl, rfl, fun w => by kernel_rfl⟩
instance : KAgg Try.prog 46 3 := ⟨fun w => by simp [isAgg, run_underlying Try.underlying46], fun w => by kernel_rfl⟩
instance : KSz Try.prog 46 3 := ⟨fun w => by kernel_rfl⟩
instance : KZ Try.prog 46 (.agg #[.int .i64 0, .int .i64 0, .int .i64 0]) [.int .i64 0, .int .i64 0, .int .i64 0] := ⟨fun w => by kernel_rfl, rfl⟩
instance : KRow Try.prog 46 3 24 (.agg #[.int .i64 0, .int .i64 0, .int .i64 0]) := ⟨info_parts (by kernel_rfl), rfl, by decide⟩
instance : KFld Try.prog 46 0 0 := ⟨fun w a => by kernel_rfl⟩
instance : KFld Try.prog 46 1 1 := ⟨fun w a => by kernel_rfl⟩
instance : KFld Try.prog 46 2 2 := ⟨fun w a => by kernel_rfl⟩
instance : KSl Try.prog 47 112 := ⟨Try.underlying47⟩
instance : KOne Try.prog 47 := ⟨fun w => by simp [isAgg, run_underlying Try.underlying47]⟩
instance : KSz Try.prog 47 1 := ⟨fun w => by kernel_rfl⟩
instance : KZ Try.prog 47 (.slice none 0 0) [.slice none 0 0] := ⟨fun w => by kernel_rfl, rfl⟩
instance : KRow Try.prog 47 1 24 (.slice none 0 0) := ⟨info_parts (by kernel_rfl), rfl, by decide⟩
instance : KNG Try.prog 48 := ⟨by kernel_rfl⟩
instance : KBld Try.prog 48 [.slice none 0 0, .int .i64 0, .int .i64 0, .int .i64 0, .int .i64 0, .slice none 0 0, .slice none 0 0] [(0, 1), (1, 3), (4, 1), (5, 1), (6, 1)] := ⟨_, .agg #[.slice none 0 0, .int .i64 0, .int .i64 0, .int .i64 0, .int .i64 0, .slice none 0 0, .slice none 0 0], Try.underlying48, fun w => by kernel_rfl, rfl, fun w => by kernel_rfl⟩
instance : KAgg Try.prog 48 7 := ⟨fun w => by simp [isAgg, run_underlying Try.underlying48], fun w => by kernel_rfl⟩
instance : KSz Try.prog 48 7 := ⟨fun w => by kernel_rfl⟩
instance : KZ Try.prog 48 (.agg #[.slice none 0 0, .int .i64 0, .int .i64 0, .int .i64 0, .int .i64 0, .slice none 0 0, .slice none 0 0]) [.slice none 0 0, .int .i64 0, .int .i64 0, .int .i64 0, .int .i64 0, .slice none 0 0, .slice none 0 0] := ⟨fun w => by kernel_rfl, rfl⟩
instance : KRow Try.prog 48 7 104 (.agg #[.slice none 0 0, .int .i64 0, .int .i64 0, .int .i64 0, .int .i64 0, .slice none 0 0, .slice none 0 0]) := ⟨info_parts (by kernel_rfl), rfl, by decide⟩
instance : KFld Try.prog 48 0 0 := ⟨fun w a => by kernel_rfl⟩
instance : KFld Try.prog 48 1 1 := ⟨fun w a => by kernel_rfl⟩
instance : KFld Try.prog 48 2 4 := ⟨fun w a => by kernel_rfl⟩
instance : KFld Try.prog 48 3 5 := ⟨fun w a => by kernel_rfl⟩
instance : KFld Try.prog 48 4 6 := ⟨fun w a => by kernel_rfl⟩
instance : KNG Try.prog 49 := ⟨by kernel_rfl⟩
instance : KBld Try.prog 49 [.slice none 0 0, .int .i64 0, .int .i64 0, .int .i64 0, .int .i64 0, .slice none 0 0, .slice none 0 0] [(0, 1), (1, 3), (4, 1), (5, 1), (6, 1)] := ⟨_, .agg #[.slice none 0 0, .int .i64 0, .int .i64 0, .int .i64 0, .int .i64 0, .slice none 0 0, .slice none 0 0], Try.underlying49, fun w => by kernel_rfl, rfl, fun w => by kernel_rfl⟩
instance : KAgg Try.prog 49 7 := ⟨fun w => by simp [isAgg, run_underlying Try.underlying49], fun w => by kernel_rfl⟩
instance : KSz Try.prog 49 7 := ⟨fun w => by kernel_rfl⟩
instance : KZ Try.prog 49 (.agg #[.slice none 0 0, .int .i64 0, .int .i64 0, .int .i64 0, .int .i64 0, .slice none 0 0, .slice none 0 0]) [.slice none 0 0, .int .i64 0, .int .i64 0, .int .i64 0, .int .i64 0, .slice none 0 0, .slice none 0 0] := ⟨fun w => by kernel_rfl, rfl⟩
instance : KRow Try.prog 49 7 104 (.agg #[.slice none 0 0, .int .i64 0, .int .i64 0, .int .i64 0, .int .i64 0, .slice none 0 0, .slice none 0 0]) := ⟨info_parts (by kernel_rfl), rfl, by decide⟩
instance : KFld Try.prog 49 0 0 := ⟨fun w a => by kernel_rfl⟩
instance : KFld Try.prog 49 1 1 := ⟨fun w a => by kernel_rfl⟩
instance : KFld Try.prog 49 2 4 := ⟨fun w a => by kernel_rfl⟩
instance : KFld Try.prog 49 3 5 := ⟨fun w a => by kernel_rfl⟩
instance : KFld Try.prog 49 4 6 := ⟨fun w a => by kernel_rfl⟩
instance : KOne Try.prog 50 := ⟨fun w => by simp [isAgg, run_underlying Try.underlying50]⟩
instance : KSz Try.prog 50 1 := ⟨fun w => by kernel_rfl⟩
instance : KZ Try.prog 50 (.nilFunc) [.nilFunc] := ⟨fun w => by kernel_rfl, rfl⟩
instance : KRow Try.prog 50 1 8 (.nilFunc) := ⟨info_parts (by kernel_rfl), rfl, by decide⟩
instance : KOne Try.prog 51 := ⟨fun w => by simp [isAgg, run_underlying Try.underlying51]⟩
instance : KSz Try.prog 51 1 := ⟨fun w => by kernel_rfl⟩
instance : KZ Try.prog 51 (.nilFunc) [.nilFunc] := ⟨fun w => by kernel_rfl, rfl⟩
instance : KRow Try.prog 51 1 8 (.nilFunc) := ⟨info_parts (by kernel_rfl), rfl, by decide⟩
instance : KOne Try.prog 52 := ⟨fun w => by simp [isAgg, run_underlying Try.underlying52]⟩
instance : KSz Try.prog 52 1 := ⟨fun w => by kernel_rfl⟩
instance : KZ Try.prog 52 (.nilFunc) [.nilFunc] := ⟨fun w => by kernel_rfl, rfl⟩
instance : KRow Try.prog 52 1 8 (.nilFunc) := ⟨info_parts (by kernel_rfl), rfl, by decide⟩
instance : KOne Try.prog 53 := ⟨fun w => by simp [isAgg, run_underlying Try.underlying53]⟩
instance : KSz Try.prog 53 1 := ⟨fun w => by kernel_rfl⟩
instance : KZ Try.prog 53 (.nilFunc) [.nilFunc] := ⟨fun w => by kernel_rfl, rfl⟩
instance : KRow Try.prog 53 1 8 (.nilFunc) := ⟨info_parts (by kernel_rfl), rfl, by decide⟩
instance : KOne Try.prog 54 := ⟨fun w => by simp [isAgg, run_underlying Try.underlying54]⟩
instance : KSz Try.prog 54 1 := ⟨fun w => by kernel_rfl⟩
instance : KZ Try.prog 54 (.nilFunc) [.nilFunc] := ⟨fun w => by kernel_rfl, rfl⟩
instance : KRow Try.prog 54 1 8 (.nilFunc) := ⟨info_parts (by kernel_rfl), rfl, by decide⟩
instance : KOne Try.prog 55 := ⟨fun w => by simp [isAgg, run_underlying Try.underlying55]⟩
instance : KSz Try.prog 55 1 := ⟨fun w => by kernel_rfl⟩
instance : KZ Try.prog 55 (.nilFunc) [.nilFunc] := ⟨fun w => by kernel_rfl, rfl⟩
instance : KRow Try.prog 55 1 8 (.nilFunc) := ⟨info_parts (by kernel_rfl), rfl, by decide⟩
instance : KOne Try.prog 56 := ⟨fun w => by simp [isAgg, run_underlying Try.underlying56]⟩
instance : KSz Try.prog 56 1 := ⟨fun w => by kernel_rfl⟩
instance : KZ Try.prog 56 (.nilFunc) [.nilFunc] := ⟨fun w => by kernel_rfl, rfl⟩
instance : KRow Try.prog 56 1 8 (.nilFunc) := ⟨info_parts (by kernel_rfl), rfl, by decide⟩
instance : KOne Try.prog 57 := ⟨fun w => by simp [isAgg, run_underlying Try.underlying57]⟩
instance : KSz Try.prog 57 1 := ⟨fun w => by kernel_rfl⟩
instance : KZ Try.prog 57 (.nilFunc) [.nilFunc] := ⟨fun w => by kernel_rfl, rfl⟩
instance : KRow Try.prog 57 1 8 (.nilFunc) := ⟨info_parts (by kernel_rfl), rfl, by decide⟩
instance : KOne Try.prog 58 := ⟨fun w => by simp [isAgg, run_underlying Try.underlying58]⟩
instance : KSz Try.prog 58 1 := ⟨fun w => by kernel_rfl⟩
instance : KZ Try.prog 58 (.nilFunc) [.nilFunc] := ⟨fun w => by kernel_rfl, rfl⟩
instance : KRow Try.prog 58 1 8 (.nilFunc) := ⟨info_parts (by kernel_rfl), rfl, by decide⟩
instance : KOne Try.prog 59 := ⟨fun w => by simp [isAgg, run_underlying Try.underlying59]⟩
instance : KSz Try.prog 59 1 := ⟨fun w => by kernel_rfl⟩
instance : KZ Try.prog 59 (.nilFunc) [.nilFunc] := ⟨fun w => by kernel_rfl, rfl⟩
instance : KRow Try.prog 59 1 8 (.nilFunc) := ⟨info_parts (by kernel_rfl), rfl, by decide⟩
instance : KOne Try.prog 60 := ⟨fun w => by simp [isAgg, run_underlying Try.underlying60]⟩
instance : KSz Try.prog 60 1 := ⟨fun w => by kernel_rfl⟩
instance : KZ Try.prog 60 (.nilFunc) [.nilFunc] := ⟨fun w => by kernel_rfl, rfl⟩
instance : KRow Try.prog 60 1 8 (.nilFunc) := ⟨info_parts (by kernel_rfl), rfl, by decide⟩
instance : KOne Try.prog 62 := ⟨fun w => by simp [isAgg, run_underlying Try.underlying62]⟩
instance : KSz Try.prog 62 1 := ⟨fun w => by kernel_rfl⟩
instance : KZ Try.prog 62 (.nilFunc) [.nilFunc] := ⟨fun w => by kernel_rfl, rfl⟩
instance : KRow Try.prog 62 1 8 (.nilFunc) := ⟨info_parts (by kernel_rfl), rfl, by decide⟩
instance : KOne Try.prog 63 := ⟨fun w => by simp [isAgg, run_underlying Try.underlying63]⟩
instance : KSz Try.prog 63 1 := ⟨fun w => by kernel_rfl⟩
instance : KZ Try.prog 63 (.nilFunc) [.nilFunc] := ⟨fun w => by kernel_rfl, rfl⟩
instance : KRow Try.prog 63 1 8 (.nilFunc) := ⟨info_parts (by kernel_rfl), rfl, by decide⟩
instance : KOne Try.prog 65 := ⟨fun w => by simp [isAgg, run_underlying Try.underlying65]⟩
instance : KSz Try.prog 65 1 := ⟨fun w => by kernel_rfl⟩
instance : KZ Try.prog 65 (.nilFunc) [.nilFunc] := ⟨fun w => by kernel_rfl, rfl⟩
instance : KRow Try.prog 65 1 8 (.nilFunc) := ⟨info_parts (by kernel_rfl), rfl, by decide⟩
instance : KOne Try.prog 66 := ⟨fun w => by simp [isAgg, run_underlying Try.underlying66]⟩
instance : KSz Try.prog 66 1 := ⟨fun w => by kernel_rfl⟩
instance : KZ Try.prog 66 (.nilFunc) [.nilFunc] := ⟨fun w => by kernel_rfl, rfl⟩
instance : KRow Try.prog 66 1 8 (.nilFunc) := ⟨info_parts (by kernel_rfl), rfl, by decide⟩
instance : KNG Try.prog 67 := ⟨by kernel_rfl⟩
instance : KBld Try.prog 67 [.int .i64 0, .int .i64 0, .int .i64 0] [(0, 1), (1, 1), (2, 1)] := ⟨_, .agg #[.int .i64 0, .int .i64 0, .int .i64 0], Try.underlying67, fun w => by kernel_rfl, rfl, fun w => by kernel_rfl⟩
instance : KAgg Try.prog 67 3 := ⟨fun w => by simp [isAgg, run_underlying Try.underlying67], fun w => by kernel_rfl⟩
instance : KSz Try.prog 67 3 := ⟨fun w => by kernel_rfl⟩
instance : KZ Try.prog 67 (.agg #[.int .i64 0, .int .i64 0, .int .i64 0]) [.int .i64 0, .int .i64 0, .int .i64 0] := ⟨fun w => by kernel_rfl, rfl⟩
instance : KRow Try.prog 67 3 24 (.agg #[.int .i64 0, .int .i64 0, .int .i64 0]) := ⟨info_parts (by kernel_rfl), rfl, by decide⟩
instance : KFld Try.prog 67 0 0 := ⟨fun w a => by kernel_rfl⟩
instance : KFld Try.prog 67 1 1 := ⟨fun w a => by kernel_rfl⟩
instance : KFld Try.prog 67 2 2 := ⟨fun w a => by kernel_rfl⟩
instance : KNG Try.prog 68 := ⟨by kernel_rfl⟩
instance : KBld Try.prog 68 [.int .i64 0, .int .i64 0, .int .i64 0] [(0, 1), (1, 1), (2, 1)] := ⟨_, .agg #[.int .i64 0, .int .i64 0, .int .i64 0], Try.underlying68, fun w => by kernel_rfl, rfl, fun w => by kernel_rfl⟩
instance : KAgg Try.prog 68 3 := ⟨fun w => by simp [isAgg, run_underlying Try.underlying68], fun w => by kernel_rfl⟩
instance : KSz Try.prog 68 3 := ⟨fun w => by kernel_rfl⟩
instance : KZ Try.prog 68 (.agg #[.int .i64 0, .int .i64 0, .int .i64 0]) [.int .i64 0, .int .i64 0, .int .i64 0] := ⟨fun w => by kernel_rfl, rfl⟩
instance : KRow Try.prog 68 3 24 (.agg #[.int .i64 0, .int .i64 0, .int .i64 0]) := ⟨info_parts (by kernel_rfl), rfl, by decide⟩
instance : KFld Try.prog 68 0 0 := ⟨fun w a => by kernel_rfl⟩
instance : KFld Try.prog 68 1 1 := ⟨fun w a => by kernel_rfl⟩
instance : KFld Try.prog 68 2 2 := ⟨fun w a => by kernel_rfl⟩
instance : KOne Try.prog 69 := ⟨fun w => by simp [isAgg, run_underlying Try.underlying69]⟩
instance : KSz Try.prog 69 1 := ⟨fun w => by kernel_rfl⟩
instance : KZ Try.prog 69 (.nilFunc) [.nilFunc] := ⟨fun w => by kernel_rfl, rfl⟩
instance : KRow Try.prog 69 1 8 (.nilFunc) := ⟨info_parts (by kernel_rfl), rfl, by decide⟩
instance : KOne Try.prog 70 := ⟨fun w => by simp [isAgg, run_underlying Try.underlying70]⟩
instance : KSz Try.prog 70 1 := ⟨fun w => by kernel_rfl⟩
instance : KZ Try.prog 70 (.nilFunc) [.nilFunc] := ⟨fun w => by kernel_rfl, rfl⟩
instance : KRow Try.prog 70 1 8 (.nilFunc) := ⟨info_parts (by kernel_rfl), rfl, by decide⟩
instance : KOne Try.prog 71 := ⟨fun w => by simp [isAgg, run_underlying Try.underlying71]⟩
instance : KSz Try.prog 71 1 := ⟨fun w => by kernel_rfl⟩
instance : KZ Try.prog 71 (.nilFunc) [.nilFunc] := ⟨fun w => by kernel_rfl, rfl⟩
instance : KRow Try.prog 71 1 8 (.nilFunc) := ⟨info_parts (by kernel_rfl), rfl, by decide⟩
instance : KOne Try.prog 72 := ⟨fun w => by simp [isAgg, run_underlying Try.underlying72]⟩
instance : KSz Try.prog 72 1 := ⟨fun w => by kernel_rfl⟩
instance : KZ Try.prog 72 (.nilFunc) [.nilFunc] := ⟨fun w => by kernel_rfl, rfl⟩
instance : KRow Try.prog 72 1 8 (.nilFunc) := ⟨info_parts (by kernel_rfl), rfl, by decide⟩
instance : KOne Try.prog 73 := ⟨fun w => by simp [isAgg, run_underlying Try.underlying73]⟩
instance : KSz Try.prog 73 1 := ⟨fun w => by kernel_rfl⟩
instance : KZ Try.prog 73 (.pointer none) [.pointer none] := ⟨fun w => by kernel_rfl, rfl⟩
instance : KRow Try.prog 73 1 8 (.pointer none) := ⟨info_parts (by kernel_rfl), rfl, by decide⟩
instance : KOne Try.prog 74 := ⟨fun w => by simp [isAgg, run_underlying Try.underlying74]⟩
instance : KSz Try.prog 74 1 := ⟨fun w => by kernel_rfl⟩
instance : KZ Try.prog 74 (.nilFunc) [.nilFunc] := ⟨fun w => by kernel_rfl, rfl⟩
instance : KRow Try.prog 74 1 8 (.nilFunc) := ⟨info_parts (by kernel_rfl), rfl, by decide⟩
instance : KOne Try.prog 75 := ⟨fun w => by simp [isAgg, run_underlying Try.underlying75]⟩
instance : KSz Try.prog 75 1 := ⟨fun w => by kernel_rfl⟩
instance : KZ Try.prog 75 (.nilFunc) [.nilFunc] := ⟨fun w => by kernel_rfl, rfl⟩
instance : KRow Try.prog 75 1 8 (.nilFunc) := ⟨info_parts (by kernel_rfl), rfl, by decide⟩
instance : KOne Try.prog 76 := ⟨fun w => by simp [isAgg, run_underlying Try.underlying76]⟩
instance : KSz Try.prog 76 1 := ⟨fun w => by kernel_rfl⟩
instance : KZ Try.prog 76 (.nilFunc) [.nilFunc] := ⟨fun w => by kernel_rfl, rfl⟩
instance : KRow Try.prog 76 1 8 (.nilFunc) := ⟨info_parts (by kernel_rfl), rfl, by decide⟩
instance : KOne Try.prog 77 := ⟨fun w => by simp [isAgg, run_underlying Try.underlying77]⟩
instance : KSz Try.prog 77 1 := ⟨fun w => by kernel_rfl⟩
instance : KZ Try.prog 77 (.nilFunc) [.nilFunc] := ⟨fun w => by kernel_rfl, rfl⟩
instance : KRow Try.prog 77 1 8 (.nilFunc) := ⟨info_parts (by kernel_rfl), rfl, by decide⟩
instance : KOne Try.prog 78 := ⟨fun w => by simp [isAgg, run_underlying Try.underlying78]⟩
instance : KSz Try.prog 78 1 := ⟨fun w => by kernel_rfl⟩
instance : KZ Try.prog 78 (.nilFunc) [.nilFunc] := ⟨fun w => by kernel_rfl, rfl⟩
instance : KRow Try.prog 78 1 8 (.nilFunc) := ⟨info_parts (by kernel_rfl), rfl, by decide⟩
instance : KOne Try.prog 79 := ⟨fun w => by simp [isAgg, run_underlying Try.underlying79]⟩
instance : KSz Try.prog 79 1 := ⟨fun w => by kernel_rfl⟩
instance : KZ Try.prog 79 (.nilFunc) [.nilFunc] := ⟨fun w => by kernel_rfl, rfl⟩
instance : KRow Try.prog 79 1 8 (.nilFunc) := ⟨info_parts (by kernel_rfl), rfl, by decide⟩
instance : KOne Try.prog 80 := ⟨fun w => by simp [isAgg, run_underlying Try.underlying80]⟩
instance : KSz Try.prog 80 1 := ⟨fun w => by kernel_rfl⟩
instance : KZ Try.prog 80 (.nilFunc) [.nilFunc] := ⟨fun w => by kernel_rfl, rfl⟩
instance : KRow Try.prog 80 1 8 (.nilFunc) := ⟨info_parts (by kernel_rfl), rfl, by decide⟩
instance : KOne Try.prog 81 := ⟨fun w => by simp [isAgg, run_underlying Try.underlying81]⟩
instance : KSz Try.prog 81 1 := ⟨fun w => by kernel_rfl⟩
instance : KZ Try.prog 81 (.nilFunc) [.nilFunc] := ⟨fun w => by kernel_rfl, rfl⟩
instance : KRow Try.prog 81 1 8 (.nilFunc) := ⟨info_parts (by kernel_rfl), rfl, by decide⟩
instance : KOne Try.prog 82 := ⟨fun w => by simp [isAgg, run_underlying Try.underlying82]⟩
instance : KSz Try.prog 82 1 := ⟨fun w => by kernel_rfl⟩
instance : KZ Try.prog 82 (.nilFunc) [.nilFunc] := ⟨fun w => by kernel_rfl, rfl⟩
instance : KRow Try.prog 82 1 8 (.nilFunc) := ⟨info_parts (by kernel_rfl), rfl, by decide⟩
instance : KOne Try.prog 83 := ⟨fun w => by simp [isAgg, run_underlying Try.underlying83]⟩
instance : KSz Try.prog 83 1 := ⟨fun w => by kernel_rfl⟩
instance : KZ Try.prog 83 (.nilFunc) [.nilFunc] := ⟨fun w => by kernel_rfl, rfl⟩
instance : KRow Try.prog 83 1 8 (.nilFunc) := ⟨info_parts (by kernel_rfl), rfl, by decide⟩
instance : KOne Try.prog 84 := ⟨fun w => by simp [isAgg, run_underlying Try.underlying84]⟩
instance : KSz Try.prog 84 1 := ⟨fun w => by kernel_rfl⟩
instance : KZ Try.prog 84 (.nilFunc) [.nilFunc] := ⟨fun w => by kernel_rfl, rfl⟩
instance : KRow Try.prog 84 1 8 (.nilFunc) := ⟨info_parts (by kernel_rfl), rfl, by decide⟩
instance : KOne Try.prog 85 := ⟨fun w => by simp [isAgg, run_underlying Try.underlying85]⟩
instance : KSz Try.prog 85 1 := ⟨fun w => by kernel_rfl⟩
instance : KZ Try.prog 85 (.nilFunc) [.nilFunc] := ⟨fun w => by kernel_rfl, rfl⟩
instance : KRow Try.prog 85 1 8 (.nilFunc) := ⟨info_parts (by kernel_rfl), rfl, by decide⟩
instance : KOne Try.prog 86 := ⟨fun w => by simp [isAgg, run_underlying Try.underlying86]⟩
instance : KSz Try.prog 86 1 := ⟨fun w => by kernel_rfl⟩
instance : KZ Try.prog 86 (.nilFunc) [.nilFunc] := ⟨fun w => by kernel_rfl, rfl⟩
instance : KRow Try.prog 86 1 8 (.nilFunc) := ⟨info_parts (by kernel_rfl), rfl, by decide⟩
instance : KOne Try.prog 87 := ⟨fun w => by simp [isAgg, run_underlying Try.underlying87]⟩
instance : KSz Try.prog 87 1 := ⟨fun w => by kernel_rfl⟩
instance : KZ Try.prog 87 (.nilFunc) [.nilFunc] := ⟨fun w => by kernel_rfl, rfl⟩
instance : KRow Try.prog 87 1 8 (.nilFunc) := ⟨info_parts (by kernel_rfl), rfl, by decide⟩
instance : KOne Try.prog 88 := ⟨fun w => by simp [isAgg, run_underlying Try.underlying88]⟩
instance : KSz Try.prog 88 1 := ⟨fun w => by kernel_rfl⟩
instance : KZ Try.prog 88 (.nilFunc) [.nilFunc] := ⟨fun w => by kernel_rfl, rfl⟩
instance : KRow Try.prog 88 1 8 (.nilFunc) := ⟨info_parts (by kernel_rfl), rfl, by decide⟩
instance : KOne Try.prog 89 := ⟨fun w => by simp [isAgg, run_underlying Try.underlying89]⟩
instance : KSz Try.prog 89 1 := ⟨fun w => by kernel_rfl⟩
instance : KZ Try.prog 89 (.nilFunc) [.nilFunc] := ⟨fun w => by kernel_rfl, rfl⟩
instance : KRow Try.prog 89 1 8 (.nilFunc) := ⟨info_parts (by kernel_rfl), rfl, by decide⟩
instance : KOne Try.prog 90 := ⟨fun w => by simp [isAgg, run_underlying Try.underlying90]⟩
instance : KSz Try.prog 90 1 := ⟨fun w => by kernel_rfl⟩
instance : KZ Try.prog 90 (.nilFunc) [.nilFunc] := ⟨fun w => by kernel_rfl, rfl⟩
instance : KRow Try.prog 90 1 8 (.nilFunc) := ⟨info_parts (by kernel_rfl), rfl, by decide⟩
instance : KOne Try.prog 91 := ⟨fun w => by simp [isAgg, run_underlying Try.underlying91]⟩
instance : KSz Try.prog 91 1 := ⟨fun w => by kernel_rfl⟩
instance : KZ Try.prog 91 (.nilFunc) [.nilFunc] := ⟨fun w => by kernel_rfl, rfl⟩
instance : KRow Try.prog 91 1 8 (.nilFunc) := ⟨info_parts (by kernel_rfl), rfl, by decide⟩
instance : KOne Try.prog 92 := ⟨fun w => by simp [isAgg, run_underlying Try.underlying92]⟩
instance : KSz Try.prog 92 1 := ⟨fun w => by kernel_rfl⟩
instance : KZ Try.prog 92 (.nilFunc) [.nilFunc] := ⟨fun w => by kernel_rfl, rfl⟩
instance : KRow Try.prog 92 1 8 (.nilFunc) := ⟨info_parts (by kernel_rfl), rfl, by decide⟩
instance : KOne Try.prog 93 := ⟨fun w => by simp [isAgg, run_underlying Try.underlying93]⟩
instance : KSz Try.prog 93 1 := ⟨fun w => by kernel_rfl⟩
instance : KZ Try.prog 93 (.nilFunc) [.nilFunc] := ⟨fun w => by kernel_rfl, rfl⟩
instance : KRow Try.prog 93 1 8 (.nilFunc) := ⟨info_parts (by kernel_rfl), rfl, by decide⟩
instance : KOne Try.prog 94 := ⟨fun w => by simp [isAgg, run_underlying Try.underlying94]⟩
instance : KSz Try.prog 94 1 := ⟨fun w => by kernel_rfl⟩
instance : KZ Try.prog 94 (.nilFunc) [.nilFunc] := ⟨fun w => by kernel_rfl, rfl⟩
instance : KRow Try.prog 94 1 8 (.nilFunc) := ⟨info_parts (by kernel_rfl), rfl, by decide⟩
instance : KOne Try.prog 95 := ⟨fun w => by simp [isAgg, run_underlying Try.underlying95]⟩
instance : KSz Try.prog 95 1 := ⟨fun w => by kernel_rfl⟩
instance : KZ Try.prog 95 (.nilFunc) [.nilFunc] := ⟨fun w => by kernel_rfl, rfl⟩
instance : KRow Try.prog 95 1 8 (.nilFunc) := ⟨info_parts (by kernel_rfl), rfl, by decide⟩
instance : KOne Try.prog 96 := ⟨fun w => by simp [isAgg, run_underlying Try.underlying96]⟩
instance : KSz Try.prog 96 1 := ⟨fun w => by kernel_rfl⟩
instance : KZ Try.prog 96 (.nilFunc) [.nilFunc] := ⟨fun w => by kernel_rfl, rfl⟩
instance : KRow Try.prog 96 1 8 (.nilFunc) := ⟨info_parts (by kernel_rfl), rfl, by decide⟩
instance : KOne Try.prog 97 := ⟨fun w => by simp [isAgg, run_underlying Try.underlying97]⟩
instance : KSz Try.prog 97 1 := ⟨fun w => by kernel_rfl⟩
instance : KZ Try.prog 97 (.nilFunc) [.nilFunc] := ⟨fun w => by kernel_rfl, rfl⟩
instance : KRow Try.prog 97 1 8 (.nilFunc) := ⟨info_parts (by kernel_rfl), rfl, by decide⟩
instance : KOne Try.prog 99 := ⟨fun w => by simp [isAgg, run_underlying Try.underlying99]⟩
instance : KSz Try.prog 99 1 := ⟨fun w => by kernel_rfl⟩
instance : KZ Try.prog 99 (.nilFunc) [.nilFunc] := ⟨fun w => by kernel_rfl, rfl⟩
instance : KRow Try.prog 99 1 8 (.nilFunc) := ⟨info_parts (by kernel_rfl), rfl, by decide⟩
instance : KNG Try.prog 100 := ⟨by kernel_rfl⟩
instance : KBld Try.prog 100 [.slice none 0 0, .int .i64 0] [(0, 1), (1, 1)] := ⟨_, .agg #[.slice none 0 0, .int .i64 0], Try.underlying100, fun w => by kernel_rfl, rfl, fun w => by kernel_rfl⟩
instance : KAgg Try.prog 100 2 := ⟨fun w => by simp [isAgg, run_underlying Try.underlying100], fun w => by kernel_rfl⟩
instance : KSz Try.prog 100 2 := ⟨fun w => by kernel_rfl⟩
instance : KZ Try.prog 100 (.agg #[.slice none 0 0, .int .i64 0]) [.slice none 0 0, .int .i64 0] := ⟨fun w => by kernel_rfl, rfl⟩
instance : KRow Try.prog 100 2 32 (.agg #[.slice none 0 0, .int .i64 0]) := ⟨info_parts (by kernel_rfl), rfl, by decide⟩
instance : KFld Try.prog 100 0 0 := ⟨fun w a => by kernel_rfl⟩
instance : KFld Try.prog 100 1 1 := ⟨fun w a => by kernel_rfl⟩
instance : KNG Try.prog 101 := ⟨by kernel_rfl⟩
instance : KBld Try.prog 101 [.slice none 0 0, .int .i64 0] [(0, 1), (1, 1)] := ⟨_, .agg #[.slice none 0 0, .int .i64 0], Try.underlying101, fun w => by kernel_rfl, rfl, fun w => by kernel_rfl⟩
instance : KAgg Try.prog 101 2 := ⟨fun w => by simp [isAgg, run_underlying Try.underlying101], fun w => by kernel_rfl⟩
instance : KSz Try.prog 101 2 := ⟨fun w => by kernel_rfl⟩
instance : KZ Try.prog 101 (.agg #[.slice none 0 0, .int .i64 0]) [.slice none 0 0, .int .i64 0] := ⟨fun w => by kernel_rfl, rfl⟩
instance : KRow Try.prog 101 2 32 (.agg #[.slice none 0 0, .int .i64 0]) := ⟨info_parts (by kernel_rfl), rfl, by decide⟩
instance : KFld Try.prog 101 0 0 := ⟨fun w a => by kernel_rfl⟩
instance : KFld Try.prog 101 1 1 := ⟨fun w a => by kernel_rfl⟩
instance : KOne Try.prog 103 := ⟨fun w => by simp [isAgg, run_underlying Try.underlying103]⟩
instance : KSz Try.prog 103 1 := ⟨fun w => by kernel_rfl⟩
instance : KZ Try.prog 103 (.nilFunc) [.nilFunc] := ⟨fun w => by kernel_rfl, rfl⟩
instance : KRow Try.prog 103 1 8 (.nilFunc) := ⟨info_parts (by kernel_rfl), rfl, by decide⟩
instance : KOne Try.prog 104 := ⟨fun w => by simp [isAgg, run_underlying Try.underlying104]⟩
instance : KSz Try.prog 104 1 := ⟨fun w => by kernel_rfl⟩
instance : KZ Try.prog 104 (.nilFunc) [.nilFunc] := ⟨fun w => by kernel_rfl, rfl⟩
instance : KRow Try.prog 104 1 8 (.nilFunc) := ⟨info_parts (by kernel_rfl), rfl, by decide⟩
instance : KOne Try.prog 105 := ⟨fun w => by simp [isAgg, run_underlying Try.underlying105]⟩
instance : KSz Try.prog 105 1 := ⟨fun w => by kernel_rfl⟩
instance : KZ Try.prog 105 (.nilFunc) [.nilFunc] := ⟨fun w => by kernel_rfl, rfl⟩
instance : KRow Try.prog 105 1 8 (.nilFunc) := ⟨info_parts (by kernel_rfl), rfl, by decide⟩
instance : KOne Try.prog 106 := ⟨fun w => by simp [isAgg, run_underlying Try.underlying106]⟩
instance : KSz Try.prog 106 1 := ⟨fun w => by kernel_rfl⟩
instance : KZ Try.prog 106 (.nilFunc) [.nilFunc] := ⟨fun w => by kernel_rfl, rfl⟩
instance : KRow Try.prog 106 1 8 (.nilFunc) := ⟨info_parts (by kernel_rfl), rfl, by decide⟩
instance : KOne Try.prog 107 := ⟨fun w => by simp [isAgg, run_underlying Try.underlying107]⟩
instance : KSz Try.prog 107 1 := ⟨fun w => by kernel_rfl⟩
instance : KZ Try.prog 107 (.nilFunc) [.nilFunc] := ⟨fun w => by kernel_rfl, rfl⟩
instance : KRow Try.prog 107 1 8 (.nilFunc) := ⟨info_parts (by kernel_rfl), rfl, by decide⟩
instance : KOne Try.prog 108 := ⟨fun w => by simp [isAgg, run_underlying Try.underlying108]⟩
instance : KSz Try.prog 108 1 := ⟨fun w => by kernel_rfl⟩
instance : KZ Try.prog 108 (.nilFunc) [.nilFunc] := ⟨fun w => by kernel_rfl, rfl⟩
instance : KRow Try.prog 108 1 8 (.nilFunc) := ⟨info_parts (by kernel_rfl), rfl, by decide⟩
instance : KOne Try.prog 109 := ⟨fun w => by simp [isAgg, run_underlying Try.underlying109]⟩
instance : KSz Try.prog 109 1 := ⟨fun w => by kernel_rfl⟩
instance : KZ Try.prog 109 (.nilFunc) [.nilFunc] := ⟨fun w => by kernel_rfl, rfl⟩
instance : KRow Try.prog 109 1 8 (.nilFunc) := ⟨info_parts (by kernel_rfl), rfl, by decide⟩
instance : KOne Try.prog 110 := ⟨fun w => by simp [isAgg, run_underlying Try.underlying110]⟩
instance : KSz Try.prog 110 1 := ⟨fun w => by kernel_rfl⟩
instance : KZ Try.prog 110 (.nilFunc) [.nilFunc] := ⟨fun w => by kernel_rfl, rfl⟩
instance : KRow Try.prog 110 1 8 (.nilFunc) := ⟨info_parts (by kernel_rfl), rfl, by decide⟩
instance : KOne Try.prog 111 := ⟨fun w => by simp [isAgg, run_underlying Try.underlying111]⟩
instance : KSz Try.prog 111 1 := ⟨fun w => by kernel_rfl⟩
instance : KZ Try.prog 111 (.nilFunc) [.nilFunc] := ⟨fun w => by kernel_rfl, rfl⟩
instance : KRow Try.prog 111 1 8 (.nilFunc) := ⟨info_parts (by kernel_rfl), rfl, by decide⟩
instance : KNG Try.prog 112 := ⟨by kernel_rfl⟩
instance : KBld Try.prog 112 [.int .i64 0, .int .i64 0, .int .i64 0] [(0, 1), (1, 1), (2, 1)] := ⟨_, .agg #[.int .i64 0, .int .i64 0, .int .i64 0], Try.underlying112, fun w => by kernel_rfl, rfl, fun w => by kernel_rfl⟩
instance : KAgg Try.prog 112 3 := ⟨fun w => by simp [isAgg, run_underlying Try.underlying112], fun w => by kernel_rfl⟩
instance : KSz Try.prog 112 3 := ⟨fun w => by kernel_rfl⟩
instance : KZ Try.prog 112 (.agg #[.int .i64 0, .int .i64 0, .int .i64 0]) [.int .i64 0, .int .i64 0, .int .i64 0] := ⟨fun w => by kernel_rfl, rfl⟩
instance : KRow Try.prog 112 3 24 (.agg #[.int .i64 0, .int .i64 0, .int .i64 0]) := ⟨info_parts (by kernel_rfl), rfl, by decide⟩
instance : KFld Try.prog 112 0 0 := ⟨fun w a => by kernel_rfl⟩
instance : KFld Try.prog 112 1 1 := ⟨fun w a => by kernel_rfl⟩
instance : KFld Try.prog 112 2 2 := ⟨fun w a => by kernel_rfl⟩
instance : KOne Try.prog 113 := ⟨fun w => by simp [isAgg, run_underlying Try.underlying113]⟩
instance : KSz Try.prog 113 1 := ⟨fun w => by kernel_rfl⟩
instance : KZ Try.prog 113 (.nilFunc) [.nilFunc] := ⟨fun w => by kernel_rfl, rfl⟩
instance : KRow Try.prog 113 1 8 (.nilFunc) := ⟨info_parts (by kernel_rfl), rfl, by decide⟩
instance : KOne Try.prog 114 := ⟨fun w => by simp [isAgg, run_underlying Try.underlying114]⟩
instance : KSz Try.prog 114 1 := ⟨fun w => by kernel_rfl⟩
instance : KZ Try.prog 114 (.nilFunc) [.nilFunc] := ⟨fun w => by kernel_rfl, rfl⟩
instance : KRow Try.prog 114 1 8 (.nilFunc) := ⟨info_parts (by kernel_rfl), rfl, by decide⟩
instance : KOne Try.prog 115 := ⟨fun w => by simp [isAgg, run_underlying Try.underlying115]⟩
instance : KSz Try.prog 115 1 := ⟨fun w => by kernel_rfl⟩
instance : KZ Try.prog 115 (.nilFunc) [.nilFunc] := ⟨fun w => by kernel_rfl, rfl⟩
instance : KRow Try.prog 115 1 8 (.nilFunc) := ⟨info_parts (by kernel_rfl), rfl, by decide⟩
instance : KOne Try.prog 116 := ⟨fun w => by simp [isAgg, run_underlying Try.underlying116]⟩
instance : KSz Try.prog 116 1 := ⟨fun w => by kernel_rfl⟩
instance : KZ Try.prog 116 (.nilFunc) [.nilFunc] := ⟨fun w => by kernel_rfl, rfl⟩
instance : KRow Try.prog 116 1 8 (.nilFunc) := ⟨info_parts (by kernel_rfl), rfl, by decide⟩
instance : KOne Try.prog 117 := ⟨fun w => by simp [isAgg, run_underlying Try.underlying117]⟩
instance : KSz Try.prog 117 1 := ⟨fun w => by kernel_rfl⟩
instance : KZ Try.prog 117 (.nilFunc) [.nilFunc] := ⟨fun w => by kernel_rfl, rfl⟩
instance : KRow Try.prog 117 1 8 (.nilFunc) := ⟨info_parts (by kernel_rfl), rfl, by decide⟩
instance : KOne Try.prog 118 := ⟨fun w => by simp [isAgg, run_underlying Try.underlying118]⟩
instance : KSz Try.prog 118 1 := ⟨fun w => by kernel_rfl⟩
instance : KZ Try.prog 118 (.pointer none) [.pointer none] := ⟨fun w => by kernel_rfl, rfl⟩
instance : KRow Try.prog 118 1 8 (.pointer none) := ⟨info_parts (by kernel_rfl), rfl, by decide⟩
instance : KNG Try.prog 119 := ⟨by kernel_rfl⟩
instance : KBld Try.prog 119 [.pointer none, .slice none 0 0] [(0, 1), (1, 1)] := ⟨_, .agg #[.pointer none, .slice none 0 0], Try.underlying119, fun w => by kernel_rfl, rfl, fun w => by kernel_rfl⟩
instance : KAgg Try.prog 119 2 := ⟨fun w => by simp [isAgg, run_underlying Try.underlying119], fun w => by kernel_rfl⟩
instance : KSz Try.prog 119 2 := ⟨fun w => by kernel_rfl⟩
instance : KZ Try.prog 119 (.agg #[.pointer none, .slice none 0 0]) [.pointer none, .slice none 0 0] := ⟨fun w => by kernel_rfl, rfl⟩
instance : KRow Try.prog 119 2 32 (.agg #[.pointer none, .slice none 0 0]) := ⟨info_parts (by kernel_rfl), rfl, by decide⟩
instance : KFld Try.prog 119 0 0 := ⟨fun w a => by kernel_rfl⟩
instance : KFld Try.prog 119 1 1 := ⟨fun w a => by kernel_rfl⟩
instance : KNG Try.prog 120 := ⟨by kernel_rfl⟩
instance : KBld Try.prog 120 [.pointer none, .slice none 0 0] [(0, 1), (1, 1)] := ⟨_, .agg #[.pointer none, .slice none 0 0], Try.underlying120, fun w => by kernel_rfl, rfl, fun w => by kernel_rfl⟩
instance : KAgg Try.prog 120 2 := ⟨fun w => by simp [isAgg, run_underlying Try.underlying120], fun w => by kernel_rfl⟩
instance : KSz Try.prog 120 2 := ⟨fun w => by kernel_rfl⟩
instance : KZ Try.prog 120 (.agg #[.pointer none, .slice none 0 0]) [.pointer none, .slice none 0 0] := ⟨fun w => by kernel_rfl, rfl⟩
instance : KRow Try.prog 120 2 32 (.agg #[.pointer none, .slice none 0 0]) := ⟨info_parts (by kernel_rfl), rfl, by decide⟩
instance : KFld Try.prog 120 0 0 := ⟨fun w a => by kernel_rfl⟩
instance : KFld Try.prog 120 1 1 := ⟨fun w a => by kernel_rfl⟩
instance : KOne Try.prog 123 := ⟨fun w => by simp [isAgg, run_underlying Try.underlying123]⟩
instance : KSz Try.prog 123 1 := ⟨fun w => by kernel_rfl⟩
instance : KZ Try.prog 123 (.nilFunc) [.nilFunc] := ⟨fun w => by kernel_rfl, rfl⟩
instance : KRow Try.prog 123 1 8 (.nilFunc) := ⟨info_parts (by kernel_rfl), rfl, by decide⟩
instance : KOne Try.prog 124 := ⟨fun w => by simp [isAgg, run_underlying Try.underlying124]⟩
instance : KSz Try.prog 124 1 := ⟨fun w => by kernel_rfl⟩
instance : KZ Try.prog 124 (.nilFunc) [.nilFunc] := ⟨fun w => by kernel_rfl, rfl⟩
instance : KRow Try.prog 124 1 8 (.nilFunc) := ⟨info_parts (by kernel_rfl), rfl, by decide⟩
instance : KOne Try.prog 125 := ⟨fun w => by simp [isAgg, run_underlying Try.underlying125]⟩
instance : KSz Try.prog 125 1 := ⟨fun w => by kernel_rfl⟩
instance : KZ Try.prog 125 (.nilFunc) [.nilFunc] := ⟨fun w => by kernel_rfl, rfl⟩
instance : KRow Try.prog 125 1 8 (.nilFunc) := ⟨info_parts (by kernel_rfl), rfl, by decide⟩
instance : KOne Try.prog 126 := ⟨fun w => by simp [isAgg, run_underlying Try.underlying126]⟩
instance : KSz Try.prog 126 1 := ⟨fun w => by kernel_rfl⟩
instance : KZ Try.prog 126 (.nilFunc) [.nilFunc] := ⟨fun w => by kernel_rfl, rfl⟩
instance : KRow Try.prog 126 1 8 (.nilFunc) := ⟨info_parts (by kernel_rfl), rfl, by decide⟩
instance : KOne Try.prog 127 := ⟨fun w => by simp [isAgg, run_underlying Try.underlying127]⟩
instance : KSz Try.prog 127 1 := ⟨fun w => by kernel_rfl⟩
instance : KZ Try.prog 127 (.nilFunc) [.nilFunc] := ⟨fun w => by kernel_rfl, rfl⟩
instance : KRow Try.prog 127 1 8 (.nilFunc) := ⟨info_parts (by kernel_rfl), rfl, by decide⟩
instance : KOne Try.prog 128 := ⟨fun w => by simp [isAgg, run_underlying Try.underlying128]⟩
instance : KSz Try.prog 128 1 := ⟨fun w => by kernel_rfl⟩
instance : KZ Try.prog 128 (.nilFunc) [.nilFunc] := ⟨fun w => by kernel_rfl, rfl⟩
instance : KRow Try.prog 128 1 8 (.nilFunc) := ⟨info_parts (by kernel_rfl), rfl, by decide⟩
instance : KInt Try.prog 129 .u64 := ⟨Try.underlying129⟩
instance : KOne Try.prog 129 := ⟨fun w => by simp [isAgg, run_underlying Try.underlying129]⟩
instance : KSz Try.prog 129 1 := ⟨fun w => by kernel_rfl⟩
instance : KZ Try.prog 129 (.int .u64 0) [.int .u64 0] := ⟨fun w => by kernel_rfl, rfl⟩
instance : KRow Try.prog 129 1 8 (.int .u64 0) := ⟨info_parts (by kernel_rfl), rfl, by decide⟩
instance : KOne Try.prog 130 := ⟨fun w => by simp [isAgg, run_underlying Try.underlying130]⟩
instance : KSz Try.prog 130 1 := ⟨fun w => by kernel_rfl⟩
instance : KZ Try.prog 130 (.pointer none) [.pointer none] := ⟨fun w => by kernel_rfl, rfl⟩
instance : KRow Try.prog 130 1 8 (.pointer none) := ⟨info_parts (by kernel_rfl), rfl, by decide⟩
instance : KOne Try.prog 131 := ⟨fun w => by simp [isAgg, run_underlying Try.underlying131]⟩
instance : KSz Try.prog 131 1 := ⟨fun w => by kernel_rfl⟩
instance : KZ Try.prog 131 (.nilFunc) [.nilFunc] := ⟨fun w => by kernel_rfl, rfl⟩
instance : KRow Try.prog 131 1 8 (.nilFunc) := ⟨info_parts (by kernel_rfl), rfl, by decide⟩
instance : KInt Try.prog 139 .u32 := ⟨Try.underlying139⟩
instance : KOne Try.prog 139 := ⟨fun w => by simp [isAgg, run_underlying Try.underlying139]⟩
instance : KSz Try.prog 139 1 := ⟨fun w => by kernel_rfl⟩
instance : KZ Try.prog 139 (.int .u32 0) [.int .u32 0] := ⟨fun w => by kernel_rfl, rfl⟩
instance : KRow Try.prog 139 1 4 (.int .u32 0) := ⟨info_parts (by kernel_rfl), rfl, by decide⟩
theorem mixed : Try.prog.follows .mixedOrders = true := by kernel_rfl
end Go.Proofs.Ytdenlafdbfbkoaa
