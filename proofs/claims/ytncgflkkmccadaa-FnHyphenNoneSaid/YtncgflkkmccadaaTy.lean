/- What the engine is told of this program's types. Written by a program of mine (tyfill.py). -/
import Derived.Test.YtncgflkkmccadaaProg
import Derived.Test.YtncgflkkmccadaaOpt
import Derived.Test.YtncgflkkmccadaaOpd
import Derived.KernelRfl
namespace Go.Proofs.Ytncgflkkmccadaa
open Go.RowKit
instance : KOne Try.prog 1 := ⟨fun w => by simp [isAgg, run_underlying Try.underlying1]⟩
instance : KSz Try.prog 1 1 := ⟨fun w => by kernel_rfl⟩
instance : KZ Try.prog 1 (.nilFunc) [.nilFunc] := ⟨fun w => by kernel_rfl, rfl⟩
instance : KRow Try.prog 1 1 8 (.nilFunc) := ⟨info_parts (by kernel_rfl), rfl, by decide⟩
instance : KInt Try.prog 2 .i64 := ⟨Try.underlying2⟩
instance : KOne Try.prog 2 := ⟨fun w => by simp [isAgg, run_underlying Try.underlying2]⟩
instance : KSz Try.prog 2 1 := ⟨fun w => by kernel_rfl⟩
instance : KZ Try.prog 2 (.int .i64 0) [.int .i64 0] := ⟨fun w => by kernel_rfl, rfl⟩
instance : KRow Try.prog 2 1 8 (.int .i64 0) := ⟨info_parts (by kernel_rfl), rfl, by decide⟩
instance : KInt Try.prog 3 .i64 := ⟨Try.underlying3⟩
instance : KOne Try.prog 3 := ⟨fun w => by simp [isAgg, run_underlying Try.underlying3]⟩
instance : KSz Try.prog 3 1 := ⟨fun w => by kernel_rfl⟩
instance : KZ Try.prog 3 (.int .i64 0) [.int .i64 0] := ⟨fun w => by kernel_rfl, rfl⟩
instance : KRow Try.prog 3 1 8 (.int .i64 0) := ⟨info_parts (by kernel_rfl), rfl, by decide⟩
instance : KBool Try.prog 4 := ⟨Try.underlying4⟩
instance : KOne Try.prog 4 := ⟨fun w => by simp [isAgg, run_underlying Try.underlying4]⟩
instance : KSz Try.prog 4 1 := ⟨fun w => by kernel_rfl⟩
instance : KZ Try.prog 4 (.bool false) [.bool false] := ⟨fun w => by kernel_rfl, rfl⟩
instance : KRow Try.prog 4 1 1 (.bool false) := ⟨info_parts (by kernel_rfl), rfl, by decide⟩
instance : KInt Try.prog 5 .u8 := ⟨Try.underlying5⟩
instance : KOne Try.prog 5 := ⟨fun w => by simp [isAgg, run_underlying Try.underlying5]⟩
instance : KSz Try.prog 5 1 := ⟨fun w => by kernel_rfl⟩
instance : KZ Try.prog 5 (.int .u8 0) [.int .u8 0] := ⟨fun w => by kernel_rfl, rfl⟩
instance : KRow Try.prog 5 1 1 (.int .u8 0) := ⟨info_parts (by kernel_rfl), rfl, by decide⟩
instance : KStr Try.prog 9 := ⟨Try.underlying9⟩
instance : KOne Try.prog 9 := ⟨fun w => by simp [isAgg, run_underlying Try.underlying9]⟩
instance : KSz Try.prog 9 1 := ⟨fun w => by kernel_rfl⟩
instance : KZ Try.prog 9 (.string ByteArray.empty) [.string ByteArray.empty] := ⟨fun w => by kernel_rfl, rfl⟩
instance : KRow Try.prog 9 1 16 (.string ByteArray.empty) := ⟨info_parts (by kernel_rfl), rfl, by decide⟩
instance : KInt Try.prog 12 .u64 := ⟨Try.underlying12⟩
instance : KOne Try.prog 12 := ⟨fun w => by simp [isAgg, run_underlying Try.underlying12]⟩
instance : KSz Try.prog 12 1 := ⟨fun w => by kernel_rfl⟩
instance : KZ Try.prog 12 (.int .u64 0) [.int .u64 0] := ⟨fun w => by kernel_rfl, rfl⟩
instance : KRow Try.prog 12 1 8 (.int .u64 0) := ⟨info_parts (by kernel_rfl), rfl, by decide⟩
instance : KNG Try.prog 13 := ⟨by kernel_rfl⟩
instance : KBld Try.prog 13 [.string ByteArray.empty, .int .u64 0] [(0, 1), (1, 1)] := ⟨_, .agg #[.string ByteArray.empty, .int .u64 0], Try.underlying13, fun w => by kernel_rfl, rfl, fun w => by kernel_rfl⟩
instance : KAgg Try.prog 13 2 := ⟨fun w => by simp [isAgg, run_underlying Try.underlying13], fun w => by kernel_rfl⟩
instance : KSz Try.prog 13 2 := ⟨fun w => by kernel_rfl⟩
instance : KZ Try.prog 13 (.agg #[.string ByteArray.empty, .int .u64 0]) [.string ByteArray.empty, .int .u64 0] := ⟨fun w => by kernel_rfl, rfl⟩
instance : KRow Try.prog 13 2 24 (.agg #[.string ByteArray.empty, .int .u64 0]) := ⟨info_parts (by kernel_rfl), rfl, by decide⟩
instance : KFld Try.prog 13 0 0 := ⟨fun w a => by kernel_rfl⟩
instance : KFld Try.prog 13 1 1 := ⟨fun w a => by kernel_rfl⟩
instance : KInt Try.prog 21 .i32 := ⟨Try.underlying21⟩
instance : KOne Try.prog 21 := ⟨fun w => by simp [isAgg, run_underlying Try.underlying21]⟩
instance : KSz Try.prog 21 1 := ⟨fun w => by kernel_rfl⟩
instance : KZ Try.prog 21 (.int .i32 0) [.int .i32 0] := ⟨fun w => by kernel_rfl, rfl⟩
instance : KRow Try.prog 21 1 4 (.int .i32 0) := ⟨info_parts (by kernel_rfl), rfl, by decide⟩
instance : KSl Try.prog 22 3 := ⟨Try.underlying22⟩
instance : KOne Try.prog 22 := ⟨fun w => by simp [isAgg, run_underlying Try.underlying22]⟩
instance : KSz Try.prog 22 1 := ⟨fun w => by kernel_rfl⟩
instance : KZ Try.prog 22 (.slice none 0 0) [.slice none 0 0] := ⟨fun w => by kernel_rfl, rfl⟩
instance : KRow Try.prog 22 1 24 (.slice none 0 0) := ⟨info_parts (by kernel_rfl), rfl, by decide⟩
instance : KOne Try.prog 24 := ⟨fun w => by simp [isAgg, run_underlying Try.underlying24]⟩
instance : KSz Try.prog 24 1 := ⟨fun w => by kernel_rfl⟩
instance : KZ Try.prog 24 (.nilFunc) [.nilFunc] := ⟨fun w => by kernel_rfl, rfl⟩
instance : KRow Try.prog 24 1 8 (.nilFunc) := ⟨info_parts (by kernel_rfl), rfl, by decide⟩
instance : KOne Try.prog 25 := ⟨fun w => by simp [isAgg, run_underlying Try.underlying25]⟩
instance : KSz Try.prog 25 1 := ⟨fun w => by kernel_rfl⟩
instance : KZ Try.prog 25 (.nilFunc) [.nilFunc] := ⟨fun w => by kernel_rfl, rfl⟩
instance : KRow Try.prog 25 1 8 (.nilFunc) := ⟨info_parts (by kernel_rfl), rfl, by decide⟩
instance : KOne Try.prog 26 := ⟨fun w => by simp [isAgg, run_underlying Try.underlying26]⟩
instance : KSz Try.prog 26 1 := ⟨fun w => by kernel_rfl⟩
instance : KZ Try.prog 26 (.nilFunc) [.nilFunc] := ⟨fun w => by kernel_rfl, rfl⟩
instance : KRow Try.prog 26 1 8 (.nilFunc) := ⟨info_parts (by kernel_rfl), rfl, by decide⟩
instance : KOne Try.prog 27 := ⟨fun w => by simp [isAgg, run_underlying Try.underlying27]⟩
instance : KSz Try.prog 27 1 := ⟨fun w => by kernel_rfl⟩
instance : KZ Try.prog 27 (.nilFunc) [.nilFunc] := ⟨fun w => by kernel_rfl, rfl⟩
instance : KRow Try.prog 27 1 8 (.nilFunc) := ⟨info_parts (by kernel_rfl), rfl, by decide⟩
instance : KSl Try.prog 28 9 := ⟨Try.underlying28⟩
instance : KOne Try.prog 28 := ⟨fun w => by simp [isAgg, run_underlying Try.underlying28]⟩
instance : KSz Try.prog 28 1 := ⟨fun w => by kernel_rfl⟩
instance : KZ Try.prog 28 (.slice none 0 0) [.slice none 0 0] := ⟨fun w => by kernel_rfl, rfl⟩
instance : KRow Try.prog 28 1 24 (.slice none 0 0) := ⟨info_parts (by kernel_rfl), rfl, by decide⟩
instance : KOne Try.prog 29 := ⟨fun w => by simp [isAgg, run_underlying Try.underlying29]⟩
instance : KSz Try.prog 29 1 := ⟨fun w => by kernel_rfl⟩
instance : KZ Try.prog 29 (.nilFunc) [.nilFunc] := ⟨fun w => by kernel_rfl, rfl⟩
instance : KRow Try.prog 29 1 8 (.nilFunc) := ⟨info_parts (by kernel_rfl), rfl, by decide⟩
instance : KOne Try.prog 30 := ⟨fun w => by simp [isAgg, run_underlying Try.underlying30]⟩
instance : KSz Try.prog 30 1 := ⟨fun w => by kernel_rfl⟩
instance : KZ Try.prog 30 (.nilFunc) [.nilFunc] := ⟨fun w => by kernel_rfl, rfl⟩
instance : KRow Try.prog 30 1 8 (.nilFunc) := ⟨info_parts (by kernel_rfl), rfl, by decide⟩
instance : KOne Try.prog 31 := ⟨fun w => by simp [isAgg, run_underlying Try.underlying31]⟩
instance : KSz Try.prog 31 1 := ⟨fun w => by kernel_rfl⟩
instance : KZ Try.prog 31 (.nilFunc) [.nilFunc] := ⟨fun w => by kernel_rfl, rfl⟩
instance : KRow Try.prog 31 1 8 (.nilFunc) := ⟨info_parts (by kernel_rfl), rfl, by decide⟩
instance : KOne Try.prog 32 := ⟨fun w => by simp [isAgg, run_underlying Try.underlying32]⟩
instance : KSz Try.prog 32 1 := ⟨fun w => by kernel_rfl⟩
instance : KZ Try.prog 32 (.nilFunc) [.nilFunc] := ⟨fun w => by kernel_rfl, rfl⟩
instance : KRow Try.prog 32 1 8 (.nilFunc) := ⟨info_parts (by kernel_rfl), rfl, by decide⟩
instance : KOne Try.prog 33 := ⟨fun w => by simp [isAgg, run_underlying Try.underlying33]⟩
instance : KSz Try.prog 33 1 := ⟨fun w => by kernel_rfl⟩
instance : KZ Try.prog 33 (.nilFunc) [.nilFunc] := ⟨fun w => by kernel_rfl, rfl⟩
instance : KRow Try.prog 33 1 8 (.nilFunc) := ⟨info_parts (by kernel_rfl), rfl, by decide⟩
instance : KSl Try.prog 34 5 := ⟨Try.underlying34⟩
instance : KOne Try.prog 34 := ⟨fun w => by simp [isAgg, run_underlying Try.underlying34]⟩
instance : KSz Try.prog 34 1 := ⟨fun w => by kernel_rfl⟩
instance : KZ Try.prog 34 (.slice none 0 0) [.slice none 0 0] := ⟨fun w => by kernel_rfl, rfl⟩
instance : KRow Try.prog 34 1 24 (.slice none 0 0) := ⟨info_parts (by kernel_rfl), rfl, by decide⟩
instance : KOne Try.prog 36 := ⟨fun w => by simp [isAgg, run_underlying Try.underlying36]⟩
instance : KSz Try.prog 36 1 := ⟨fun w => by kernel_rfl⟩
instance : KZ Try.prog 36 (.nilFunc) [.nilFunc] := ⟨fun w => by kernel_rfl, rfl⟩
instance : KRow Try.prog 36 1 8 (.nilFunc) := ⟨info_parts (by kernel_rfl), rfl, by decide⟩
instance : KOne Try.prog 37 := ⟨fun w => by simp [isAgg, run_underlying Try.underlying37]⟩
instance : KSz Try.prog 37 1 := ⟨fun w => by kernel_rfl⟩
instance : KZ Try.prog 37 (.nilFunc) [.nilFunc] := ⟨fun w => by kernel_rfl, rfl⟩
instance : KRow Try.prog 37 1 8 (.nilFunc) := ⟨info_parts (by kernel_rfl), rfl, by decide⟩
instance : KOne Try.prog 38 := ⟨fun w => by simp [isAgg, run_underlying Try.underlying38]⟩
instance : KSz Try.prog 38 1 := ⟨fun w => by kernel_rfl⟩
instance : KZ Try.prog 38 (.nilFunc) [.nilFunc] := ⟨fun w => by kernel_rfl, rfl⟩
instance : KRow Try.prog 38 1 8 (.nilFunc) := ⟨info_parts (by kernel_rfl), rfl, by decide⟩
instance : KOne Try.prog 39 := ⟨fun w => by simp [isAgg, run_underlying Try.underlying39]⟩
instance : KSz Try.prog 39 1 := ⟨fun w => by kernel_rfl⟩
instance : KZ Try.prog 39 (.nilFunc) [.nilFunc] := ⟨fun w => by kernel_rfl, rfl⟩
instance : KRow Try.prog 39 1 8 (.nilFunc) := ⟨info_parts (by kernel_rfl), rfl, by decide⟩
instance : KOne Try.prog 40 := ⟨fun w => by simp [isAgg, run_underlying Try.underlying40]⟩
instance : KSz Try.prog 40 1 := ⟨fun w => by kernel_rfl⟩
instance : KZ Try.prog 40 (.nilFunc) [.nilFunc] := ⟨fun w => by kernel_rfl, rfl⟩
instance : KRow Try.prog 40 1 8 (.nilFunc) := ⟨info_parts (by kernel_rfl), rfl, by decide⟩
instance : KOne Try.prog 41 := ⟨fun w => by simp [isAgg, run_underlying Try.underlying41]⟩
instance : KSz Try.prog 41 1 := ⟨fun w => by kernel_rfl⟩
instance : KZ Try.prog 41 (.nilFunc) [.nilFunc] := ⟨fun w => by kernel_rfl, rfl⟩
instance : KRow Try.prog 41 1 8 (.nilFunc) := ⟨info_parts (by kernel_rfl), rfl, by decide⟩
instance : KOne Try.prog 43 := ⟨fun w => by simp [isAgg, run_underlying Try.underlying43]⟩
instance : KSz Try.prog 43 1 := ⟨fun w => by kernel_rfl⟩
instance : KZ Try.prog 43 (.nilFunc) [.nilFunc] := ⟨fun w => by kernel_rfl, rfl⟩
instance : KRow Try.prog 43 1 8 (.nilFunc) := ⟨info_parts (by kernel_rfl), rfl, by decide⟩
instance : KOne Try.prog 44 := ⟨fun w => by simp [isAgg, run_underlying Try.underlying44]⟩
instance : KSz Try.prog 44 1 := ⟨fun w => by kernel_rfl⟩
instance : KZ Try.prog 44 (.nilFunc) [.nilFunc] := ⟨fun w => by kernel_rfl, rfl⟩
instance : KRow Try.prog 44 1 8 (.nilFunc) := ⟨info_parts (by kernel_rfl), rfl, by decide⟩
instance : KOne Try.prog 45 := ⟨fun w => by simp [isAgg, run_underlying Try.underlying45]⟩
instance : KSz Try.prog 45 1 := ⟨fun w => by kernel_rfl⟩
instance : KZ Try.prog 45 (.nilFunc) [.nilFunc] := ⟨fun w => by kernel_rfl, rfl⟩
instance : KRow Try.prog 45 1 8 (.nilFunc) := ⟨info_parts (by kernel_rfl), rfl, by decide⟩
instance : KOne Try.prog 46 := ⟨fun w => by simp [isAgg, run_underlying Try.underlying46]⟩
instance : KSz Try.prog 46 1 := ⟨fun w => by kernel_rfl⟩
instance : KZ Try.prog 46 (.pointer none) [.pointer none] := ⟨fun w => by kernel_rfl, rfl⟩
instance : KRow Try.prog 46 1 8 (.pointer none) := ⟨info_parts (by kernel_rfl), rfl, by decide⟩
instance : KNG Try.prog 47 := ⟨by kernel_rfl⟩
instance : KBld Try.prog 47 [.pointer none, .slice none 0 0] [(0, 1), (1, 1)] := ⟨_, .agg #[.pointer none, .slice none 0 0], Try.underlying47, fun w => by kernel_rfl, rfl, fun w => by kernel_rfl⟩
instance : KAgg Try.prog 47 2 := ⟨fun w => by simp [isAgg, run_underlying Try.underlying47], fun w => by kernel_rfl⟩
instance : KSz Try.prog 47 2 := ⟨fun w => by kernel_rfl⟩
instance : KZ Try.prog 47 (.agg #[.pointer none, .slice none 0 0]) [.pointer none, .slice none 0 0] := ⟨fun w => by kernel_rfl, rfl⟩
instance : KRow Try.prog 47 2 32 (.agg #[.pointer none, .slice none 0 0]) := ⟨info_parts (by kernel_rfl), rfl, by decide⟩
instance : KFld Try.prog 47 0 0 := ⟨fun w a => by kernel_rfl⟩
instance : KFld Try.prog 47 1 1 := ⟨fun w a => by kernel_rfl⟩
instance : KNG Try.prog 48 := ⟨by kernel_rfl⟩
instance : KBld Try.prog 48 [.pointer none, .slice none 0 0] [(0, 1), (1, 1)] := ⟨_, .agg #[.pointer none, .slice none 0 0], Try.underlying48, fun w => by kernel_rfl, rfl, fun w => by kernel_rfl⟩
instance : KAgg Try.prog 48 2 := ⟨fun w => by simp [isAgg, run_underlying Try.underlying48], fun w => by kernel_rfl⟩
instance : KSz Try.prog 48 2 := ⟨fun w => by kernel_rfl⟩
instance : KZ Try.prog 48 (.agg #[.pointer none, .slice none 0 0]) [.pointer none, .slice none 0 0] := ⟨fun w => by kernel_rfl, rfl⟩
instance : KRow Try.prog 48 2 32 (.agg #[.pointer none, .slice none 0 0]) := ⟨info_parts (by kernel_rfl), rfl, by decide⟩
instance : KFld Try.prog 48 0 0 := ⟨fun w a => by kernel_rfl⟩
instance : KFld Try.prog 48 1 1 := ⟨fun w a => by kernel_rfl⟩
instance : KOne Try.prog 49 := ⟨fun w => by simp [isAgg, run_underlying Try.underlying49]⟩
instance : KSz Try.prog 49 1 := ⟨fun w => by kernel_rfl⟩
instance : KZ Try.prog 49 (.nilFunc) [.nilFunc] := ⟨fun w => by kernel_rfl, rfl⟩
instance : KRow Try.prog 49 1 8 (.nilFunc) := ⟨info_parts (by kernel_rfl), rfl, by decide⟩
instance : KOne Try.prog 52 := ⟨fun w => by simp [isAgg, run_underlying Try.underlying52]⟩
instance : KSz Try.prog 52 1 := ⟨fun w => by kernel_rfl⟩
instance : KZ Try.prog 52 (.nilFunc) [.nilFunc] := ⟨fun w => by kernel_rfl, rfl⟩
instance : KRow Try.prog 52 1 8 (.nilFunc) := ⟨info_parts (by kernel_rfl), rfl, by decide⟩
instance : KOne Try.prog 53 := ⟨fun w => by simp [isAgg, run_underlying Try.underlying53]⟩
instance : KSz Try.prog 53 1 := ⟨fun w => by kernel_rfl⟩
instance : KZ Try.prog 53 (.nilFunc) [.nilFunc] := ⟨fun w => by kernel_rfl, rfl⟩
instance : KRow Try.prog 53 1 8 (.nilFunc) := ⟨info_parts (by kernel_rfl), rfl, by decide⟩
instance : KOne Try.prog 54 := ⟨fun w => by simp [isAgg, run_underlying Try.underlying54]⟩
instance : KSz Try.prog 54 1 := ⟨fun w => by kernel_rfl⟩
instance : KZ Try.prog 54 (.nilFunc) [.nilFunc] := ⟨fun w => by kernel_rfl, rfl⟩
instance : KRow Try.prog 54 1 8 (.nilFunc) := ⟨info_parts (by kernel_rfl), rfl, by decide⟩
instance : KOne Try.prog 55 := ⟨fun w => by simp [isAgg, run_underlying Try.underlying55]⟩
instance : KSz Try.prog 55 1 := ⟨fun w => by kernel_rfl⟩
instance : KZ Try.prog 55 (.nilFunc) [.nilFunc] := ⟨fun w => by kernel_rfl, rfl⟩
instance : KRow Try.prog 55 1 8 (.nilFunc) := ⟨info_parts (by kernel_rfl), rfl, by decide⟩
instance : KOne Try.prog 56 := ⟨fun w => by simp [isAgg, run_underlying Try.underlying56]⟩
instance : KSz Try.prog 56 1 := ⟨fun w => by kernel_rfl⟩
instance : KZ Try.prog 56 (.nilFunc) [.nilFunc] := ⟨fun w => by kernel_rfl, rfl⟩
instance : KRow Try.prog 56 1 8 (.nilFunc) := ⟨info_parts (by kernel_rfl), rfl, by decide⟩
instance : KOne Try.prog 57 := ⟨fun w => by simp [isAgg, run_underlying Try.underlying57]⟩
instance : KSz Try.prog 57 1 := ⟨fun w => by kernel_rfl⟩
instance : KZ Try.prog 57 (.pointer none) [.pointer none] := ⟨fun w => by kernel_rfl, rfl⟩
instance : KRow Try.prog 57 1 8 (.pointer none) := ⟨info_parts (by kernel_rfl), rfl, by decide⟩
instance : KOne Try.prog 58 := ⟨fun w => by simp [isAgg, run_underlying Try.underlying58]⟩
instance : KSz Try.prog 58 1 := ⟨fun w => by kernel_rfl⟩
instance : KZ Try.prog 58 (.nilFunc) [.nilFunc] := ⟨fun w => by kernel_rfl, rfl⟩
instance : KRow Try.prog 58 1 8 (.nilFunc) := ⟨info_parts (by kernel_rfl), rfl, by decide⟩
instance : KOne Try.prog 59 := ⟨fun w => by simp [isAgg, run_underlying Try.underlying59]⟩
instance : KSz Try.prog 59 1 := ⟨fun w => by kernel_rfl⟩
instance : KZ Try.prog 59 (.nilFunc) [.nilFunc] := ⟨fun w => by kernel_rfl, rfl⟩
instance : KRow Try.prog 59 1 8 (.nilFunc) := ⟨info_parts (by kernel_rfl), rfl, by decide⟩
instance : KOne Try.prog 60 := ⟨fun w => by simp [isAgg, run_underlying Try.underlying60]⟩
instance : KSz Try.prog 60 1 := ⟨fun w => by kernel_rfl⟩
instance : KZ Try.prog 60 (.nilFunc) [.nilFunc] := ⟨fun w => by kernel_rfl, rfl⟩
instance : KRow Try.prog 60 1 8 (.nilFunc) := ⟨info_parts (by kernel_rfl), rfl, by decide⟩
instance : KOne Try.prog 61 := ⟨fun w => by simp [isAgg, run_underlying Try.underlying61]⟩
instance : KSz Try.prog 61 1 := ⟨fun w => by kernel_rfl⟩
instance : KZ Try.prog 61 (.nilFunc) [.nilFunc] := ⟨fun w => by kernel_rfl, rfl⟩
instance : KRow Try.prog 61 1 8 (.nilFunc) := ⟨info_parts (by kernel_rfl), rfl, by decide⟩
instance : KOne Try.prog 62 := ⟨fun w => by simp [isAgg, run_underlying Try.underlying62]⟩
instance : KSz Try.prog 62 1 := ⟨fun w => by kernel_rfl⟩
instance : KZ Try.prog 62 (.nilFunc) [.nilFunc] := ⟨fun w => by kernel_rfl, rfl⟩
instance : KRow Try.prog 62 1 8 (.nilFunc) := ⟨info_parts (by kernel_rfl), rfl, by decide⟩
instance : KOne Try.prog 63 := ⟨fun w => by simp [isAgg, run_underlying Try.underlying63]⟩
instance : KSz Try.prog 63 1 := ⟨fun w => by kernel_rfl⟩
instance : KZ Try.prog 63 (.nilFunc) [.nilFunc] := ⟨fun w => by kernel_rfl, rfl⟩
instance : KRow Try.prog 63 1 8 (.nilFunc) := ⟨info_parts (by kernel_rfl), rfl, by decide⟩
instance : KOne Try.prog 64 := ⟨fun w => by simp [isAgg, run_underlying Try.underlying64]⟩
instance : KSz Try.prog 64 1 := ⟨fun w => by kernel_rfl⟩
instance : KZ Try.prog 64 (.nilFunc) [.nilFunc] := ⟨fun w => by kernel_rfl, rfl⟩
instance : KRow Try.prog 64 1 8 (.nilFunc) := ⟨info_parts (by kernel_rfl), rfl, by decide⟩
instance : KOne Try.prog 65 := ⟨fun w => by simp [isAgg, run_underlying Try.underlying65]⟩
instance : KSz Try.prog 65 1 := ⟨fun w => by kernel_rfl⟩
instance : KZ Try.prog 65 (.pointer none) [.pointer none] := ⟨fun w => by kernel_rfl, rfl⟩
instance : KRow Try.prog 65 1 8 (.pointer none) := ⟨info_parts (by kernel_rfl), rfl, by decide⟩
instance : KNG Try.prog 66 := ⟨by kernel_rfl⟩
instance : KBld Try.prog 66 [.slice none 0 0, .int .i64 0] [(0, 1), (1, 1)] := ⟨_, .agg #[.slice none 0 0, .int .i64 0], Try.underlying66, fun w => by kernel_rfl, rfl, fun w => by kernel_rfl⟩
instance : KAgg Try.prog 66 2 := ⟨fun w => by simp [isAgg, run_underlying Try.underlying66], fun w => by kernel_rfl⟩
instance : KSz Try.prog 66 2 := ⟨fun w => by kernel_rfl⟩
instance : KZ Try.prog 66 (.agg #[.slice none 0 0, .int .i64 0]) [.slice none 0 0, .int .i64 0] := ⟨fun w => by kernel_rfl, rfl⟩
instance : KRow Try.prog 66 2 32 (.agg #[.slice none 0 0, .int .i64 0]) := ⟨info_parts (by kernel_rfl), rfl, by decide⟩
instance : KFld Try.prog 66 0 0 := ⟨fun w a => by kernel_rfl⟩
instance : KFld Try.prog 66 1 1 := ⟨fun w a => by kernel_rfl⟩
instance : KNG Try.prog 67 := ⟨by kernel_rfl⟩
instance : KBld Try.prog 67 [.slice none 0 0, .int .i64 0] [(0, 1), (1, 1)] := ⟨_, .agg #[.slice none 0 0, .int .i64 0], Try.underlying67, fun w => by kernel_rfl, rfl, fun w => by kernel_rfl⟩
instance : KAgg Try.prog 67 2 := ⟨fun w => by simp [isAgg, run_underlying Try.underlying67], fun w => by kernel_rfl⟩
instance : KSz Try.prog 67 2 := ⟨fun w => by kernel_rfl⟩
instance : KZ Try.prog 67 (.agg #[.slice none 0 0, .int .i64 0]) [.slice none 0 0, .int .i64 0] := ⟨fun w => by kernel_rfl, rfl⟩
instance : KRow Try.prog 67 2 32 (.agg #[.slice none 0 0, .int .i64 0]) := ⟨info_parts (by kernel_rfl), rfl, by decide⟩
instance : KFld Try.prog 67 0 0 := ⟨fun w a => by kernel_rfl⟩
instance : KFld Try.prog 67 1 1 := ⟨fun w a => by kernel_rfl⟩
instance : KOne Try.prog 68 := ⟨fun w => by simp [isAgg, run_underlying Try.underlying68]⟩
instance : KSz Try.prog 68 1 := ⟨fun w => by kernel_rfl⟩
instance : KZ Try.prog 68 (.nilFunc) [.nilFunc] := ⟨fun w => by kernel_rfl, rfl⟩
instance : KRow Try.prog 68 1 8 (.nilFunc) := ⟨info_parts (by kernel_rfl), rfl, by decide⟩
instance : KOne Try.prog 69 := ⟨fun w => by simp [isAgg, run_underlying Try.underlying69]⟩
instance : KSz Try.prog 69 1 := ⟨fun w => by kernel_rfl⟩
instance : KZ Try.prog 69 (.nilFunc) [.nilFunc] := ⟨fun w => by kernel_rfl, rfl⟩
instance : KRow Try.prog 69 1 8 (.nilFunc) := ⟨info_parts (by kernel_rfl), rfl, by decide⟩
instance : KInt Try.prog 77 .u32 := ⟨Try.underlying77⟩
instance : KOne Try.prog 77 := ⟨fun w => by simp [isAgg, run_underlying Try.underlying77]⟩
instance : KSz Try.prog 77 1 := ⟨fun w => by kernel_rfl⟩
instance : KZ Try.prog 77 (.int .u32 0) [.int .u32 0] := ⟨fun w => by kernel_rfl, rfl⟩
instance : KRow Try.prog 77 1 4 (.int .u32 0) := ⟨info_parts (by kernel_rfl), rfl, by decide⟩
theorem mixed : Try.prog.follows .mixedOrders = true := by kernel_rfl
end Go.Proofs.Ytncgflkkmccadaa
