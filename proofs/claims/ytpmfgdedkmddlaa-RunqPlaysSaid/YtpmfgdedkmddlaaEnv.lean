/-
  The types of the translation, as the executor wants them, with the proof that they are as the program says. Written by genenv.py.
-/
import Derived.Test.YtpmfgdedkmddlaaRows
import Derived.Test.YtpmfgdedkmddlaaSxW
namespace Go.Proofs.Ytpmfgdedkmddlaa
open Go.Sx
@[reducible] def tyboundsError : Ty := .pair (.int .i64) (.pair (.int .i64) (.pair (.bool) (.int .u8)))
@[reducible] def tyerrorAddressString : Ty := .pair (.str) (.int .u64)
@[reducible] def tyFileAns : Ty := .pair (.int .i64) (.int .i64)
@[reducible] def tyPlan : Ty := .pair (.sl (.int .i64)) (.int .i64)
@[reducible] def tystate : Ty := .pair (.sl (.int .i64)) (.sl (.int .i64))
@[reducible] def tyRankOp : Ty := .pair (.int .i64) (.pair (.int .i64) (.int .i64))
@[reducible] def tyFileOp : Ty := .pair (.int .i64) (.pair (.int .i64) (.pair (.int .i64) (.pair (.int .i64) (.pair (.int .i64) (.pair (.int .i64) (.int .i64))))))
@[reducible] def tyopen : Ty := .pair (.int .i64) (.pair (.int .i64) (.pair (.int .i64) (.int .i64)))
@[reducible] def tyRunOp : Ty := .pair (.int .i64) (.pair (.int .i64) (.int .i64))
@[reducible] def tyone : Ty := .pair (.int .i64) (.int .i64)
/-- func() -/
def ti1 : TI := ⟨1, 8, .scalar (.func #[] #[] false), [.con .nilFunc], none⟩
theorem ti1_ok : TIok Try.prog 1 ti1 := TIok.mk1 (by kernel_rfl) (by kernel_rfl) (by kernel_rfl) (.inr rfl) (⟨Try.underlying1, trivial⟩) (trivial)
/-- int64 -/
def ti2 : TI := ⟨1, 8, .scalar (.int .i64), [.d (.int .i64) (0 : Int)], some (.int .i64)⟩
theorem ti2_ok : TIok Try.prog 2 ti2 := TIok.mk1 (by kernel_rfl) (by kernel_rfl) (by kernel_rfl) (.inr rfl) (⟨Try.underlying2, trivial⟩) (⟨by kernel_rfl, by kernel_rfl, by kernel_rfl, by kernel_rfl⟩)
/-- int -/
def ti3 : TI := ⟨1, 8, .scalar (.int .i64), [.d (.int .i64) (0 : Int)], some (.int .i64)⟩
theorem ti3_ok : TIok Try.prog 3 ti3 := TIok.mk1 (by kernel_rfl) (by kernel_rfl) (by kernel_rfl) (.inr rfl) (⟨Try.underlying3, trivial⟩) (⟨by kernel_rfl, by kernel_rfl, by kernel_rfl, by kernel_rfl⟩)
/-- bool -/
def ti4 : TI := ⟨1, 1, .scalar .bool, [.lit false], some (.bool)⟩
theorem ti4_ok : TIok Try.prog 4 ti4 := TIok.mk1 (by kernel_rfl) (by kernel_rfl) (by kernel_rfl) (.inr rfl) (⟨Try.underlying4, trivial⟩) (⟨by kernel_rfl, by kernel_rfl, by kernel_rfl, by kernel_rfl⟩)
/-- uint8 -/
def ti5 : TI := ⟨1, 1, .scalar (.int .u8), [.d (.int .u8) (0 : Int)], some (.int .u8)⟩
theorem ti5_ok : TIok Try.prog 5 ti5 := TIok.mk1 (by kernel_rfl) (by kernel_rfl) (by kernel_rfl) (.inr rfl) (⟨Try.underlying5, trivial⟩) (⟨by kernel_rfl, by kernel_rfl, by kernel_rfl, by kernel_rfl⟩)
/-- abi.BoundsErrorCode -/
def ti6 : TI := ⟨1, 1, .scalar (.int .u8), [.d (.int .u8) (0 : Int)], some (.int .u8)⟩
theorem ti6_ok : TIok Try.prog 6 ti6 := TIok.mk1 (by kernel_rfl) (by kernel_rfl) (by kernel_rfl) (.inr rfl) (⟨Try.underlying6, trivial⟩) (⟨by kernel_rfl, by kernel_rfl, by kernel_rfl, by kernel_rfl⟩)
/-- struct { x int64; y int; signed bool; code abi.BoundsErrorCode } -/
def ti7 : TI := ⟨4, 24, .struct [(0, 2), (1, 3), (2, 4), (3, 6)], [.d (.int .i64) (0 : Int), .d (.int .i64) (0 : Int), .lit false, .d (.int .u8) (0 : Int)], some (.pair (.int .i64) (.pair (.int .i64) (.pair (.bool) (.int .u8))))⟩
theorem ti7_ok : TIok Try.prog 7 ti7 := TIok.mk1 (by kernel_rfl) (by kernel_rfl) (by kernel_rfl) (.inl rfl) (⟨_, Try.underlying7, by kernel_rfl⟩) (⟨by kernel_rfl, by kernel_rfl, by kernel_rfl, by kernel_rfl⟩)
/-- runtime.boundsError -/
def ti8 : TI := ⟨4, 24, .struct [(0, 2), (1, 3), (2, 4), (3, 6)], [.d (.int .i64) (0 : Int), .d (.int .i64) (0 : Int), .lit false, .d (.int .u8) (0 : Int)], some (.pair (.int .i64) (.pair (.int .i64) (.pair (.bool) (.int .u8))))⟩
theorem ti8_ok : TIok Try.prog 8 ti8 := TIok.mk1 (by kernel_rfl) (by kernel_rfl) (by kernel_rfl) (.inl rfl) (⟨_, Try.underlying8, by kernel_rfl⟩) (⟨by kernel_rfl, by kernel_rfl, by kernel_rfl, by kernel_rfl⟩)
/-- string -/
def ti9 : TI := ⟨1, 16, .scalar .string, [.d .str ([] : List Int)], some (.str)⟩
theorem ti9_ok : TIok Try.prog 9 ti9 := TIok.mk1 (by kernel_rfl) (by kernel_rfl) (by kernel_rfl) (.inr rfl) (⟨Try.underlying9, trivial⟩) (⟨by kernel_rfl, by kernel_rfl, by kernel_rfl, by kernel_rfl⟩)
/-- runtime.errorString -/
def ti10 : TI := ⟨1, 16, .scalar .string, [.d .str ([] : List Int)], some (.str)⟩
theorem ti10_ok : TIok Try.prog 10 ti10 := TIok.mk1 (by kernel_rfl) (by kernel_rfl) (by kernel_rfl) (.inr rfl) (⟨Try.underlying10, trivial⟩) (⟨by kernel_rfl, by kernel_rfl, by kernel_rfl, by kernel_rfl⟩)
/-- runtime.plainError -/
def ti11 : TI := ⟨1, 16, .scalar .string, [.d .str ([] : List Int)], some (.str)⟩
theorem ti11_ok : TIok Try.prog 11 ti11 := TIok.mk1 (by kernel_rfl) (by kernel_rfl) (by kernel_rfl) (.inr rfl) (⟨Try.underlying11, trivial⟩) (⟨by kernel_rfl, by kernel_rfl, by kernel_rfl, by kernel_rfl⟩)
/-- uintptr -/
def ti12 : TI := ⟨1, 8, .scalar (.int .u64), [.d (.int .u64) (0 : Int)], some (.int .u64)⟩
theorem ti12_ok : TIok Try.prog 12 ti12 := TIok.mk1 (by kernel_rfl) (by kernel_rfl) (by kernel_rfl) (.inr rfl) (⟨Try.underlying12, trivial⟩) (⟨by kernel_rfl, by kernel_rfl, by kernel_rfl, by kernel_rfl⟩)
/-- struct { msg string; addr uintptr } -/
def ti13 : TI := ⟨2, 24, .struct [(0, 9), (1, 12)], [.d .str ([] : List Int), .d (.int .u64) (0 : Int)], some (.pair (.str) (.int .u64))⟩
theorem ti13_ok : TIok Try.prog 13 ti13 := TIok.mk1 (by kernel_rfl) (by kernel_rfl) (by kernel_rfl) (.inl rfl) (⟨_, Try.underlying13, by kernel_rfl⟩) (⟨by kernel_rfl, by kernel_rfl, by kernel_rfl, by kernel_rfl⟩)
/-- runtime.errorAddressString -/
def ti14 : TI := ⟨2, 24, .struct [(0, 9), (1, 12)], [.d .str ([] : List Int), .d (.int .u64) (0 : Int)], some (.pair (.str) (.int .u64))⟩
theorem ti14_ok : TIok Try.prog 14 ti14 := TIok.mk1 (by kernel_rfl) (by kernel_rfl) (by kernel_rfl) (.inl rfl) (⟨_, Try.underlying14, by kernel_rfl⟩) (⟨by kernel_rfl, by kernel_rfl, by kernel_rfl, by kernel_rfl⟩)
/-- *runtime.TypeAssertionError -/
def ti15 : TI := ⟨1, 8, .scalar (.pointer 132), [.con (.pointer none)], none⟩
theorem ti15_ok : TIok Try.prog 15 ti15 := TIok.mk1 (by kernel_rfl) (by kernel_rfl) (by kernel_rfl) (.inr rfl) (⟨Try.underlying15, trivial⟩) (trivial)
/-- *runtime.PanicNilError -/
def ti16 : TI := ⟨1, 8, .scalar (.pointer 135), [.con (.pointer none)], none⟩
theorem ti16_ok : TIok Try.prog 16 ti16 := TIok.mk1 (by kernel_rfl) (by kernel_rfl) (by kernel_rfl) (.inr rfl) (⟨Try.underlying16, trivial⟩) (trivial)
/-- *abi.Type -/
def ti17 : TI := ⟨1, 8, .scalar (.pointer 144), [.con (.pointer none)], none⟩
theorem ti17_ok : TIok Try.prog 17 ti17 := TIok.mk1 (by kernel_rfl) (by kernel_rfl) (by kernel_rfl) (.inr rfl) (⟨Try.underlying17, trivial⟩) (trivial)
/-- struct { typ *abi.Type } -/
def ti18 : TI := ⟨1, 8, .struct [(0, 17)], [.con (.pointer none)], none⟩
theorem ti18_ok : TIok Try.prog 18 ti18 := TIok.mk1 (by kernel_rfl) (by kernel_rfl) (by kernel_rfl) (.inl rfl) (⟨_, Try.underlying18, by kernel_rfl⟩) (trivial)
/-- maps.unhashableTypeError -/
def ti19 : TI := ⟨1, 8, .struct [(0, 17)], [.con (.pointer none)], none⟩
theorem ti19_ok : TIok Try.prog 19 ti19 := TIok.mk1 (by kernel_rfl) (by kernel_rfl) (by kernel_rfl) (.inl rfl) (⟨_, Try.underlying19, by kernel_rfl⟩) (trivial)
/-- int32 -/
def ti21 : TI := ⟨1, 4, .scalar (.int .i32), [.d (.int .i32) (0 : Int)], some (.int .i32)⟩
theorem ti21_ok : TIok Try.prog 21 ti21 := TIok.mk1 (by kernel_rfl) (by kernel_rfl) (by kernel_rfl) (.inr rfl) (⟨Try.underlying21, trivial⟩) (⟨by kernel_rfl, by kernel_rfl, by kernel_rfl, by kernel_rfl⟩)
/-- []api.RankOp -/
def ti22 : TI := ⟨1, 24, .slice 62, [.con (.slice none 0 0)], some (.sl (.pair (.int .i64) (.pair (.int .i64) (.int .i64))))⟩
theorem ti22_ok : TIok Try.prog 22 ti22 := TIok.mk1 (by kernel_rfl) (by kernel_rfl) (by kernel_rfl) (.inr rfl) (Try.underlying22) (⟨by kernel_rfl, by kernel_rfl, by kernel_rfl, by kernel_rfl⟩)
/-- []api.Errno -/
def ti23 : TI := ⟨1, 24, .slice 25, [.con (.slice none 0 0)], some (.sl (.int .i64))⟩
theorem ti23_ok : TIok Try.prog 23 ti23 := TIok.mk1 (by kernel_rfl) (by kernel_rfl) (by kernel_rfl) (.inr rfl) (Try.underlying23) (⟨by kernel_rfl, by kernel_rfl, by kernel_rfl, by kernel_rfl⟩)
/-- []int -/
def ti24 : TI := ⟨1, 24, .slice 3, [.con (.slice none 0 0)], some (.sl (.int .i64))⟩
theorem ti24_ok : TIok Try.prog 24 ti24 := TIok.mk1 (by kernel_rfl) (by kernel_rfl) (by kernel_rfl) (.inr rfl) (Try.underlying24) (⟨by kernel_rfl, by kernel_rfl, by kernel_rfl, by kernel_rfl⟩)
/-- api.Errno -/
def ti25 : TI := ⟨1, 8, .scalar (.int .i64), [.d (.int .i64) (0 : Int)], some (.int .i64)⟩
theorem ti25_ok : TIok Try.prog 25 ti25 := TIok.mk1 (by kernel_rfl) (by kernel_rfl) (by kernel_rfl) (.inr rfl) (⟨Try.underlying25, trivial⟩) (⟨by kernel_rfl, by kernel_rfl, by kernel_rfl, by kernel_rfl⟩)
/-- func(int, int, bool, []api.RankOp) ([]api.Errno, []int, []int, api.Errno) -/
def ti27 : TI := ⟨1, 8, .scalar (.func #[3, 3, 4, 22] #[23, 24, 24, 25] false), [.con .nilFunc], none⟩
theorem ti27_ok : TIok Try.prog 27 ti27 := TIok.mk1 (by kernel_rfl) (by kernel_rfl) (by kernel_rfl) (.inr rfl) (⟨Try.underlying27, trivial⟩) (trivial)
/-- func([]api.Errno, []api.Errno) bool -/
def ti28 : TI := ⟨1, 8, .scalar (.func #[23, 23] #[4] false), [.con .nilFunc], none⟩
theorem ti28_ok : TIok Try.prog 28 ti28 := TIok.mk1 (by kernel_rfl) (by kernel_rfl) (by kernel_rfl) (.inr rfl) (⟨Try.underlying28, trivial⟩) (trivial)
/-- func([]int, []int) bool -/
def ti29 : TI := ⟨1, 8, .scalar (.func #[24, 24] #[4] false), [.con .nilFunc], none⟩
theorem ti29_ok : TIok Try.prog 29 ti29 := TIok.mk1 (by kernel_rfl) (by kernel_rfl) (by kernel_rfl) (.inr rfl) (⟨Try.underlying29, trivial⟩) (trivial)
/-- func(int, int, bool, []api.RankOp) bool -/
def ti30 : TI := ⟨1, 8, .scalar (.func #[3, 3, 4, 22] #[4] false), [.con .nilFunc], none⟩
theorem ti30_ok : TIok Try.prog 30 ti30 := TIok.mk1 (by kernel_rfl) (by kernel_rfl) (by kernel_rfl) (.inr rfl) (⟨Try.underlying30, trivial⟩) (trivial)
/-- []api.FileOp -/
def ti31 : TI := ⟨1, 24, .slice 77, [.con (.slice none 0 0)], some (.sl (.pair (.int .i64) (.pair (.int .i64) (.pair (.int .i64) (.pair (.int .i64) (.pair (.int .i64) (.pair (.int .i64) (.int .i64))))))))⟩
theorem ti31_ok : TIok Try.prog 31 ti31 := TIok.mk1 (by kernel_rfl) (by kernel_rfl) (by kernel_rfl) (.inr rfl) (Try.underlying31) (⟨by kernel_rfl, by kernel_rfl, by kernel_rfl, by kernel_rfl⟩)
/-- []api.FileAns -/
def ti32 : TI := ⟨1, 24, .slice 39, [.con (.slice none 0 0)], some (.sl (.pair (.int .i64) (.int .i64)))⟩
theorem ti32_ok : TIok Try.prog 32 ti32 := TIok.mk1 (by kernel_rfl) (by kernel_rfl) (by kernel_rfl) (.inr rfl) (Try.underlying32) (⟨by kernel_rfl, by kernel_rfl, by kernel_rfl, by kernel_rfl⟩)
/-- [16]int -/
def ti33 : TI := ⟨16, 128, .arr 16 3, [.d (.arr 16 (.int .i64)) (List.replicate 16 (Ty.zero (.int .i64)))], some (.arr 16 (.int .i64))⟩
theorem ti33_ok : TIok Try.prog 33 ti33 := TIok.mk1 (by kernel_rfl) (by kernel_rfl) (by kernel_rfl) (.inl rfl) (Try.underlying33) (⟨by kernel_rfl, by kernel_rfl, by kernel_rfl, by kernel_rfl⟩)
/-- [4][16]int -/
def ti34 : TI := ⟨64, 512, .arr 4 33, [.d (.arr 4 (.arr 16 (.int .i64))) (List.replicate 4 (Ty.zero (.arr 16 (.int .i64))))], some (.arr 4 (.arr 16 (.int .i64)))⟩
theorem ti34_ok : TIok Try.prog 34 ti34 := TIok.mk1 (by kernel_rfl) (by kernel_rfl) (by kernel_rfl) (.inl rfl) (Try.underlying34) (⟨by kernel_rfl, by kernel_rfl, by kernel_rfl, by kernel_rfl⟩)
/-- func([]api.FileOp) ([]api.FileAns, [4][16]int) -/
def ti36 : TI := ⟨1, 8, .scalar (.func #[31] #[32, 34] false), [.con .nilFunc], none⟩
theorem ti36_ok : TIok Try.prog 36 ti36 := TIok.mk1 (by kernel_rfl) (by kernel_rfl) (by kernel_rfl) (.inr rfl) (⟨Try.underlying36, trivial⟩) (trivial)
/-- func([]api.FileAns, []api.FileAns) bool -/
def ti37 : TI := ⟨1, 8, .scalar (.func #[32, 32] #[4] false), [.con .nilFunc], none⟩
theorem ti37_ok : TIok Try.prog 37 ti37 := TIok.mk1 (by kernel_rfl) (by kernel_rfl) (by kernel_rfl) (.inr rfl) (⟨Try.underlying37, trivial⟩) (trivial)
/-- struct { Err api.Errno; Value int } -/
def ti38 : TI := ⟨2, 16, .struct [(0, 25), (1, 3)], [.d (.int .i64) (0 : Int), .d (.int .i64) (0 : Int)], some (.pair (.int .i64) (.int .i64))⟩
theorem ti38_ok : TIok Try.prog 38 ti38 := TIok.mk1 (by kernel_rfl) (by kernel_rfl) (by kernel_rfl) (.inl rfl) (⟨_, Try.underlying38, by kernel_rfl⟩) (⟨by kernel_rfl, by kernel_rfl, by kernel_rfl, by kernel_rfl⟩)
/-- api.FileAns -/
def ti39 : TI := ⟨2, 16, .struct [(0, 25), (1, 3)], [.d (.int .i64) (0 : Int), .d (.int .i64) (0 : Int)], some (.pair (.int .i64) (.int .i64))⟩
theorem ti39_ok : TIok Try.prog 39 ti39 := TIok.mk1 (by kernel_rfl) (by kernel_rfl) (by kernel_rfl) (.inl rfl) (⟨_, Try.underlying39, by kernel_rfl⟩) (⟨by kernel_rfl, by kernel_rfl, by kernel_rfl, by kernel_rfl⟩)
/-- func([]api.FileOp) bool -/
def ti40 : TI := ⟨1, 8, .scalar (.func #[31] #[4] false), [.con .nilFunc], none⟩
theorem ti40_ok : TIok Try.prog 40 ti40 := TIok.mk1 (by kernel_rfl) (by kernel_rfl) (by kernel_rfl) (.inr rfl) (⟨Try.underlying40, trivial⟩) (trivial)
/-- []api.RunOp -/
def ti41 : TI := ⟨1, 24, .slice 89, [.con (.slice none 0 0)], some (.sl (.pair (.int .i64) (.pair (.int .i64) (.int .i64))))⟩
theorem ti41_ok : TIok Try.prog 41 ti41 := TIok.mk1 (by kernel_rfl) (by kernel_rfl) (by kernel_rfl) (.inr rfl) (Try.underlying41) (⟨by kernel_rfl, by kernel_rfl, by kernel_rfl, by kernel_rfl⟩)
/-- func([]api.RunOp) ([]api.Errno, []int, []int) -/
def ti43 : TI := ⟨1, 8, .scalar (.func #[41] #[23, 24, 24] false), [.con .nilFunc], none⟩
theorem ti43_ok : TIok Try.prog 43 ti43 := TIok.mk1 (by kernel_rfl) (by kernel_rfl) (by kernel_rfl) (.inr rfl) (⟨Try.underlying43, trivial⟩) (trivial)
/-- func([]api.RunOp) bool -/
def ti44 : TI := ⟨1, 8, .scalar (.func #[41] #[4] false), [.con .nilFunc], none⟩
theorem ti44_ok : TIok Try.prog 44 ti44 := TIok.mk1 (by kernel_rfl) (by kernel_rfl) (by kernel_rfl) (.inr rfl) (⟨Try.underlying44, trivial⟩) (trivial)
/-- struct { Core []int; Most int } -/
def ti45 : TI := ⟨2, 32, .struct [(0, 24), (1, 3)], [.con (.slice none 0 0), .d (.int .i64) (0 : Int)], some (.pair (.sl (.int .i64)) (.int .i64))⟩
theorem ti45_ok : TIok Try.prog 45 ti45 := TIok.mk1 (by kernel_rfl) (by kernel_rfl) (by kernel_rfl) (.inl rfl) (⟨_, Try.underlying45, by kernel_rfl⟩) (⟨by kernel_rfl, by kernel_rfl, by kernel_rfl, by kernel_rfl⟩)
/-- api.Plan -/
def ti46 : TI := ⟨2, 32, .struct [(0, 24), (1, 3)], [.con (.slice none 0 0), .d (.int .i64) (0 : Int)], some (.pair (.sl (.int .i64)) (.int .i64))⟩
theorem ti46_ok : TIok Try.prog 46 ti46 := TIok.mk1 (by kernel_rfl) (by kernel_rfl) (by kernel_rfl) (.inl rfl) (⟨_, Try.underlying46, by kernel_rfl⟩) (⟨by kernel_rfl, by kernel_rfl, by kernel_rfl, by kernel_rfl⟩)
/-- func([]int, int) (api.Plan, api.Errno) -/
def ti48 : TI := ⟨1, 8, .scalar (.func #[24, 3] #[46, 25] false), [.con .nilFunc], none⟩
theorem ti48_ok : TIok Try.prog 48 ti48 := TIok.mk1 (by kernel_rfl) (by kernel_rfl) (by kernel_rfl) (.inr rfl) (⟨Try.underlying48, trivial⟩) (trivial)
/-- func([]int, int) api.Errno -/
def ti49 : TI := ⟨1, 8, .scalar (.func #[24, 3] #[25] false), [.con .nilFunc], none⟩
theorem ti49_ok : TIok Try.prog 49 ti49 := TIok.mk1 (by kernel_rfl) (by kernel_rfl) (by kernel_rfl) (.inr rfl) (⟨Try.underlying49, trivial⟩) (trivial)
/-- func(api.Plan, api.Plan) bool -/
def ti50 : TI := ⟨1, 8, .scalar (.func #[46, 46] #[4] false), [.con .nilFunc], none⟩
theorem ti50_ok : TIok Try.prog 50 ti50 := TIok.mk1 (by kernel_rfl) (by kernel_rfl) (by kernel_rfl) (.inr rfl) (⟨Try.underlying50, trivial⟩) (trivial)
/-- func([]int, int, []int) api.Plan -/
def ti51 : TI := ⟨1, 8, .scalar (.func #[24, 3, 24] #[46] false), [.con .nilFunc], none⟩
theorem ti51_ok : TIok Try.prog 51 ti51 := TIok.mk1 (by kernel_rfl) (by kernel_rfl) (by kernel_rfl) (.inr rfl) (⟨Try.underlying51, trivial⟩) (trivial)
/-- func([]int, bool) []int -/
def ti52 : TI := ⟨1, 8, .scalar (.func #[24, 4] #[24] false), [.con .nilFunc], none⟩
theorem ti52_ok : TIok Try.prog 52 ti52 := TIok.mk1 (by kernel_rfl) (by kernel_rfl) (by kernel_rfl) (.inr rfl) (⟨Try.underlying52, trivial⟩) (trivial)
/-- func([]int, int) bool -/
def ti53 : TI := ⟨1, 8, .scalar (.func #[24, 3] #[4] false), [.con .nilFunc], none⟩
theorem ti53_ok : TIok Try.prog 53 ti53 := TIok.mk1 (by kernel_rfl) (by kernel_rfl) (by kernel_rfl) (.inr rfl) (⟨Try.underlying53, trivial⟩) (trivial)
/-- func([]int, int) (int, api.Errno) -/
def ti55 : TI := ⟨1, 8, .scalar (.func #[24, 3] #[3, 25] false), [.con .nilFunc], none⟩
theorem ti55_ok : TIok Try.prog 55 ti55 := TIok.mk1 (by kernel_rfl) (by kernel_rfl) (by kernel_rfl) (.inr rfl) (⟨Try.underlying55, trivial⟩) (trivial)
/-- func([]int, int) int -/
def ti56 : TI := ⟨1, 8, .scalar (.func #[24, 3] #[3] false), [.con .nilFunc], none⟩
theorem ti56_ok : TIok Try.prog 56 ti56 := TIok.mk1 (by kernel_rfl) (by kernel_rfl) (by kernel_rfl) (.inr rfl) (⟨Try.underlying56, trivial⟩) (trivial)
/-- *rank.state -/
def ti57 : TI := ⟨1, 8, .scalar (.pointer 60), [.con (.pointer none)], none⟩
theorem ti57_ok : TIok Try.prog 57 ti57 := TIok.mk1 (by kernel_rfl) (by kernel_rfl) (by kernel_rfl) (.inr rfl) (⟨Try.underlying57, trivial⟩) (trivial)
/-- func([]int, int) []int -/
def ti58 : TI := ⟨1, 8, .scalar (.func #[24, 3] #[24] false), [.con .nilFunc], none⟩
theorem ti58_ok : TIok Try.prog 58 ti58 := TIok.mk1 (by kernel_rfl) (by kernel_rfl) (by kernel_rfl) (.inr rfl) (⟨Try.underlying58, trivial⟩) (trivial)
/-- struct { holder []int; waits []int } -/
def ti59 : TI := ⟨2, 48, .struct [(0, 24), (1, 24)], [.con (.slice none 0 0), .con (.slice none 0 0)], some (.pair (.sl (.int .i64)) (.sl (.int .i64)))⟩
theorem ti59_ok : TIok Try.prog 59 ti59 := TIok.mk1 (by kernel_rfl) (by kernel_rfl) (by kernel_rfl) (.inl rfl) (⟨_, Try.underlying59, by kernel_rfl⟩) (⟨by kernel_rfl, by kernel_rfl, by kernel_rfl, by kernel_rfl⟩)
/-- rank.state -/
def ti60 : TI := ⟨2, 48, .struct [(0, 24), (1, 24)], [.con (.slice none 0 0), .con (.slice none 0 0)], some (.pair (.sl (.int .i64)) (.sl (.int .i64)))⟩
theorem ti60_ok : TIok Try.prog 60 ti60 := TIok.mk1 (by kernel_rfl) (by kernel_rfl) (by kernel_rfl) (.inl rfl) (⟨_, Try.underlying60, by kernel_rfl⟩) (⟨by kernel_rfl, by kernel_rfl, by kernel_rfl, by kernel_rfl⟩)
/-- struct { Kind int; Thread int; Lock int } -/
def ti61 : TI := ⟨3, 24, .struct [(0, 3), (1, 3), (2, 3)], [.d (.int .i64) (0 : Int), .d (.int .i64) (0 : Int), .d (.int .i64) (0 : Int)], some (.pair (.int .i64) (.pair (.int .i64) (.int .i64)))⟩
theorem ti61_ok : TIok Try.prog 61 ti61 := TIok.mk1 (by kernel_rfl) (by kernel_rfl) (by kernel_rfl) (.inl rfl) (⟨_, Try.underlying61, by kernel_rfl⟩) (⟨by kernel_rfl, by kernel_rfl, by kernel_rfl, by kernel_rfl⟩)
/-- api.RankOp -/
def ti62 : TI := ⟨3, 24, .struct [(0, 3), (1, 3), (2, 3)], [.d (.int .i64) (0 : Int), .d (.int .i64) (0 : Int), .d (.int .i64) (0 : Int)], some (.pair (.int .i64) (.pair (.int .i64) (.int .i64)))⟩
theorem ti62_ok : TIok Try.prog 62 ti62 := TIok.mk1 (by kernel_rfl) (by kernel_rfl) (by kernel_rfl) (.inl rfl) (⟨_, Try.underlying62, by kernel_rfl⟩) (⟨by kernel_rfl, by kernel_rfl, by kernel_rfl, by kernel_rfl⟩)
/-- func(api.RankOp, bool) api.Errno -/
def ti63 : TI := ⟨1, 8, .scalar (.func #[62, 4] #[25] false), [.con .nilFunc], none⟩
theorem ti63_ok : TIok Try.prog 63 ti63 := TIok.mk1 (by kernel_rfl) (by kernel_rfl) (by kernel_rfl) (.inr rfl) (⟨Try.underlying63, trivial⟩) (trivial)
/-- map[int]int -/
def ti64 : TI := ⟨1, 8, .scalar (.map 3 3), [.con (.map none)], none⟩
theorem ti64_ok : TIok Try.prog 64 ti64 := TIok.mk1 (by kernel_rfl) (by kernel_rfl) (by kernel_rfl) (.inr rfl) (⟨Try.underlying64, trivial⟩) (trivial)
/-- func(api.RankOp) api.Errno -/
def ti66 : TI := ⟨1, 8, .scalar (.func #[62] #[25] false), [.con .nilFunc], none⟩
theorem ti66_ok : TIok Try.prog 66 ti66 := TIok.mk1 (by kernel_rfl) (by kernel_rfl) (by kernel_rfl) (.inr rfl) (⟨Try.underlying66, trivial⟩) (trivial)
/-- func(map[int]int, int) []int -/
def ti67 : TI := ⟨1, 8, .scalar (.func #[64, 3] #[24] false), [.con .nilFunc], none⟩
theorem ti67_ok : TIok Try.prog 67 ti67 := TIok.mk1 (by kernel_rfl) (by kernel_rfl) (by kernel_rfl) (.inr rfl) (⟨Try.underlying67, trivial⟩) (trivial)
/-- *files.state -/
def ti68 : TI := ⟨1, 8, .scalar (.pointer 72), [.con (.pointer none)], none⟩
theorem ti68_ok : TIok Try.prog 68 ti68 := TIok.mk1 (by kernel_rfl) (by kernel_rfl) (by kernel_rfl) (.inr rfl) (⟨Try.underlying68, trivial⟩) (trivial)
/-- *files.table -/
def ti69 : TI := ⟨1, 8, .scalar (.pointer 75), [.d (.ref 0) (-1 : Int)], some (.ref 0)⟩
theorem ti69_ok : TIok Try.prog 69 ti69 := TIok.mk1 (by kernel_rfl) (by kernel_rfl) (by kernel_rfl) (.inr rfl) (⟨Try.underlying69, trivial⟩) (⟨by kernel_rfl, by kernel_rfl, by kernel_rfl, by kernel_rfl⟩)
/-- [4]*files.table -/
def ti70 : TI := ⟨4, 32, .arr 4 69, [.d (.arr 4 (.ref 0)) (List.replicate 4 (Ty.zero (.ref 0)))], some (.arr 4 (.ref 0))⟩
theorem ti70_ok : TIok Try.prog 70 ti70 := TIok.mk1 (by kernel_rfl) (by kernel_rfl) (by kernel_rfl) (.inl rfl) (Try.underlying70) (⟨by kernel_rfl, by kernel_rfl, by kernel_rfl, by kernel_rfl⟩)
/-- struct { procs [4]*files.table } -/
def ti71 : TI := ⟨4, 32, .struct [(0, 70)], [.d (.arr 4 (.ref 0)) (List.replicate 4 (Ty.zero (.ref 0)))], none⟩
theorem ti71_ok : TIok Try.prog 71 ti71 := TIok.mk1 (by kernel_rfl) (by kernel_rfl) (by kernel_rfl) (.inl rfl) (⟨_, Try.underlying71, by kernel_rfl⟩) (trivial)
/-- files.state -/
def ti72 : TI := ⟨4, 32, .struct [(0, 70)], [.d (.arr 4 (.ref 0)) (List.replicate 4 (Ty.zero (.ref 0)))], none⟩
theorem ti72_ok : TIok Try.prog 72 ti72 := TIok.mk1 (by kernel_rfl) (by kernel_rfl) (by kernel_rfl) (.inl rfl) (⟨_, Try.underlying72, by kernel_rfl⟩) (trivial)
/-- *files.open -/
def ti73 : TI := ⟨1, 8, .scalar (.pointer 80), [.d (.ref 1) (-1 : Int)], some (.ref 1)⟩
theorem ti73_ok : TIok Try.prog 73 ti73 := TIok.mk1 (by kernel_rfl) (by kernel_rfl) (by kernel_rfl) (.inr rfl) (⟨Try.underlying73, trivial⟩) (⟨by kernel_rfl, by kernel_rfl, by kernel_rfl, by kernel_rfl⟩)
/-- [16]*files.open -/
def ti74 : TI := ⟨16, 128, .arr 16 73, [.d (.arr 16 (.ref 1)) (List.replicate 16 (Ty.zero (.ref 1)))], some (.arr 16 (.ref 1))⟩
theorem ti74_ok : TIok Try.prog 74 ti74 := TIok.mk1 (by kernel_rfl) (by kernel_rfl) (by kernel_rfl) (.inl rfl) (Try.underlying74) (⟨by kernel_rfl, by kernel_rfl, by kernel_rfl, by kernel_rfl⟩)
/-- files.table -/
def ti75 : TI := ⟨16, 128, .arr 16 73, [.d (.arr 16 (.ref 1)) (List.replicate 16 (Ty.zero (.ref 1)))], some (.arr 16 (.ref 1))⟩
theorem ti75_ok : TIok Try.prog 75 ti75 := TIok.mk1 (by kernel_rfl) (by kernel_rfl) (by kernel_rfl) (.inl rfl) (Try.underlying75) (⟨by kernel_rfl, by kernel_rfl, by kernel_rfl, by kernel_rfl⟩)
/-- struct { Kind int; Proc int; Name int; Size int; Fd int; To int; Most int } -/
def ti76 : TI := ⟨7, 56, .struct [(0, 3), (1, 3), (2, 3), (3, 3), (4, 3), (5, 3), (6, 3)], [.d (.int .i64) (0 : Int), .d (.int .i64) (0 : Int), .d (.int .i64) (0 : Int), .d (.int .i64) (0 : Int), .d (.int .i64) (0 : Int), .d (.int .i64) (0 : Int), .d (.int .i64) (0 : Int)], some (.pair (.int .i64) (.pair (.int .i64) (.pair (.int .i64) (.pair (.int .i64) (.pair (.int .i64) (.pair (.int .i64) (.int .i64)))))))⟩
theorem ti76_ok : TIok Try.prog 76 ti76 := TIok.mk1 (by kernel_rfl) (by kernel_rfl) (by kernel_rfl) (.inl rfl) (⟨_, Try.underlying76, by kernel_rfl⟩) (⟨by kernel_rfl, by kernel_rfl, by kernel_rfl, by kernel_rfl⟩)
/-- api.FileOp -/
def ti77 : TI := ⟨7, 56, .struct [(0, 3), (1, 3), (2, 3), (3, 3), (4, 3), (5, 3), (6, 3)], [.d (.int .i64) (0 : Int), .d (.int .i64) (0 : Int), .d (.int .i64) (0 : Int), .d (.int .i64) (0 : Int), .d (.int .i64) (0 : Int), .d (.int .i64) (0 : Int), .d (.int .i64) (0 : Int)], some (.pair (.int .i64) (.pair (.int .i64) (.pair (.int .i64) (.pair (.int .i64) (.pair (.int .i64) (.pair (.int .i64) (.int .i64)))))))⟩
theorem ti77_ok : TIok Try.prog 77 ti77 := TIok.mk1 (by kernel_rfl) (by kernel_rfl) (by kernel_rfl) (.inl rfl) (⟨_, Try.underlying77, by kernel_rfl⟩) (⟨by kernel_rfl, by kernel_rfl, by kernel_rfl, by kernel_rfl⟩)
/-- func(api.FileOp) api.FileAns -/
def ti78 : TI := ⟨1, 8, .scalar (.func #[77] #[39] false), [.con .nilFunc], none⟩
theorem ti78_ok : TIok Try.prog 78 ti78 := TIok.mk1 (by kernel_rfl) (by kernel_rfl) (by kernel_rfl) (.inr rfl) (⟨Try.underlying78, trivial⟩) (trivial)
/-- struct { name int; size int; at int; refs int } -/
def ti79 : TI := ⟨4, 32, .struct [(0, 3), (1, 3), (2, 3), (3, 3)], [.d (.int .i64) (0 : Int), .d (.int .i64) (0 : Int), .d (.int .i64) (0 : Int), .d (.int .i64) (0 : Int)], some (.pair (.int .i64) (.pair (.int .i64) (.pair (.int .i64) (.int .i64))))⟩
theorem ti79_ok : TIok Try.prog 79 ti79 := TIok.mk1 (by kernel_rfl) (by kernel_rfl) (by kernel_rfl) (.inl rfl) (⟨_, Try.underlying79, by kernel_rfl⟩) (⟨by kernel_rfl, by kernel_rfl, by kernel_rfl, by kernel_rfl⟩)
/-- files.open -/
def ti80 : TI := ⟨4, 32, .struct [(0, 3), (1, 3), (2, 3), (3, 3)], [.d (.int .i64) (0 : Int), .d (.int .i64) (0 : Int), .d (.int .i64) (0 : Int), .d (.int .i64) (0 : Int)], some (.pair (.int .i64) (.pair (.int .i64) (.pair (.int .i64) (.int .i64))))⟩
theorem ti80_ok : TIok Try.prog 80 ti80 := TIok.mk1 (by kernel_rfl) (by kernel_rfl) (by kernel_rfl) (.inl rfl) (⟨_, Try.underlying80, by kernel_rfl⟩) (⟨by kernel_rfl, by kernel_rfl, by kernel_rfl, by kernel_rfl⟩)
/-- [4]bool -/
def ti81 : TI := ⟨4, 4, .arr 4 4, [.d (.arr 4 (.bool)) (List.replicate 4 (Ty.zero (.bool)))], some (.arr 4 (.bool))⟩
theorem ti81_ok : TIok Try.prog 81 ti81 := TIok.mk1 (by kernel_rfl) (by kernel_rfl) (by kernel_rfl) (.inl rfl) (Try.underlying81) (⟨by kernel_rfl, by kernel_rfl, by kernel_rfl, by kernel_rfl⟩)
/-- func(int) int -/
def ti82 : TI := ⟨1, 8, .scalar (.func #[3] #[3] false), [.con .nilFunc], none⟩
theorem ti82_ok : TIok Try.prog 82 ti82 := TIok.mk1 (by kernel_rfl) (by kernel_rfl) (by kernel_rfl) (.inr rfl) (⟨Try.underlying82, trivial⟩) (trivial)
/-- *runq.queue -/
def ti83 : TI := ⟨1, 8, .scalar (.pointer 87), [.con (.pointer none)], none⟩
theorem ti83_ok : TIok Try.prog 83 ti83 := TIok.mk1 (by kernel_rfl) (by kernel_rfl) (by kernel_rfl) (.inr rfl) (⟨Try.underlying83, trivial⟩) (trivial)
/-- uint32 -/
def ti84 : TI := ⟨1, 4, .scalar (.int .u32), [.d (.int .u32) (0 : Int)], some (.int .u32)⟩
theorem ti84_ok : TIok Try.prog 84 ti84 := TIok.mk1 (by kernel_rfl) (by kernel_rfl) (by kernel_rfl) (.inr rfl) (⟨Try.underlying84, trivial⟩) (⟨by kernel_rfl, by kernel_rfl, by kernel_rfl, by kernel_rfl⟩)
/-- [32][]int -/
def ti85 : TI := ⟨32, 768, .arr 32 24, [.con (.slice none 0 0), .con (.slice none 0 0), .con (.slice none 0 0), .con (.slice none 0 0), .con (.slice none 0 0), .con (.slice none 0 0), .con (.slice none 0 0), .con (.slice none 0 0), .con (.slice none 0 0), .con (.slice none 0 0), .con (.slice none 0 0), .con (.slice none 0 0), .con (.slice none 0 0), .con (.slice none 0 0), .con (.slice none 0 0), .con (.slice none 0 0), .con (.slice none 0 0), .con (.slice none 0 0), .con (.slice none 0 0), .con (.slice none 0 0), .con (.slice none 0 0), .con (.slice none 0 0), .con (.slice none 0 0), .con (.slice none 0 0), .con (.slice none 0 0), .con (.slice none 0 0), .con (.slice none 0 0), .con (.slice none 0 0), .con (.slice none 0 0), .con (.slice none 0 0), .con (.slice none 0 0), .con (.slice none 0 0)], some (.arr 32 (.sl (.int .i64)))⟩
theorem ti85_ok : TIok Try.prog 85 ti85 := TIok.mk1 (by kernel_rfl) (by kernel_rfl) (by kernel_rfl) (.inl rfl) (Try.underlying85) (⟨by kernel_rfl, by kernel_rfl, by kernel_rfl, by kernel_rfl⟩)
/-- struct { some uint32; lists [32][]int; at map[int]int } -/
def ti86 : TI := ⟨34, 784, .struct [(0, 84), (1, 85), (33, 64)], [.d (.int .u32) (0 : Int), .con (.slice none 0 0), .con (.slice none 0 0), .con (.slice none 0 0), .con (.slice none 0 0), .con (.slice none 0 0), .con (.slice none 0 0), .con (.slice none 0 0), .con (.slice none 0 0), .con (.slice none 0 0), .con (.slice none 0 0), .con (.slice none 0 0), .con (.slice none 0 0), .con (.slice none 0 0), .con (.slice none 0 0), .con (.slice none 0 0), .con (.slice none 0 0), .con (.slice none 0 0), .con (.slice none 0 0), .con (.slice none 0 0), .con (.slice none 0 0), .con (.slice none 0 0), .con (.slice none 0 0), .con (.slice none 0 0), .con (.slice none 0 0), .con (.slice none 0 0), .con (.slice none 0 0), .con (.slice none 0 0), .con (.slice none 0 0), .con (.slice none 0 0), .con (.slice none 0 0), .con (.slice none 0 0), .con (.slice none 0 0), .con (.map none)], none⟩
theorem ti86_ok : TIok Try.prog 86 ti86 := TIok.mk1 (by kernel_rfl) (by kernel_rfl) (by kernel_rfl) (.inl rfl) (⟨_, Try.underlying86, by kernel_rfl⟩) (trivial)
/-- runq.queue -/
def ti87 : TI := ⟨34, 784, .struct [(0, 84), (1, 85), (33, 64)], [.d (.int .u32) (0 : Int), .con (.slice none 0 0), .con (.slice none 0 0), .con (.slice none 0 0), .con (.slice none 0 0), .con (.slice none 0 0), .con (.slice none 0 0), .con (.slice none 0 0), .con (.slice none 0 0), .con (.slice none 0 0), .con (.slice none 0 0), .con (.slice none 0 0), .con (.slice none 0 0), .con (.slice none 0 0), .con (.slice none 0 0), .con (.slice none 0 0), .con (.slice none 0 0), .con (.slice none 0 0), .con (.slice none 0 0), .con (.slice none 0 0), .con (.slice none 0 0), .con (.slice none 0 0), .con (.slice none 0 0), .con (.slice none 0 0), .con (.slice none 0 0), .con (.slice none 0 0), .con (.slice none 0 0), .con (.slice none 0 0), .con (.slice none 0 0), .con (.slice none 0 0), .con (.slice none 0 0), .con (.slice none 0 0), .con (.slice none 0 0), .con (.map none)], none⟩
theorem ti87_ok : TIok Try.prog 87 ti87 := TIok.mk1 (by kernel_rfl) (by kernel_rfl) (by kernel_rfl) (.inl rfl) (⟨_, Try.underlying87, by kernel_rfl⟩) (trivial)
/-- struct { Kind int; Id int; Level int } -/
def ti88 : TI := ⟨3, 24, .struct [(0, 3), (1, 3), (2, 3)], [.d (.int .i64) (0 : Int), .d (.int .i64) (0 : Int), .d (.int .i64) (0 : Int)], some (.pair (.int .i64) (.pair (.int .i64) (.int .i64)))⟩
theorem ti88_ok : TIok Try.prog 88 ti88 := TIok.mk1 (by kernel_rfl) (by kernel_rfl) (by kernel_rfl) (.inl rfl) (⟨_, Try.underlying88, by kernel_rfl⟩) (⟨by kernel_rfl, by kernel_rfl, by kernel_rfl, by kernel_rfl⟩)
/-- api.RunOp -/
def ti89 : TI := ⟨3, 24, .struct [(0, 3), (1, 3), (2, 3)], [.d (.int .i64) (0 : Int), .d (.int .i64) (0 : Int), .d (.int .i64) (0 : Int)], some (.pair (.int .i64) (.pair (.int .i64) (.int .i64)))⟩
theorem ti89_ok : TIok Try.prog 89 ti89 := TIok.mk1 (by kernel_rfl) (by kernel_rfl) (by kernel_rfl) (.inl rfl) (⟨_, Try.underlying89, by kernel_rfl⟩) (⟨by kernel_rfl, by kernel_rfl, by kernel_rfl, by kernel_rfl⟩)
/-- func(api.RunOp) (int, api.Errno) -/
def ti90 : TI := ⟨1, 8, .scalar (.func #[89] #[3, 25] false), [.con .nilFunc], none⟩
theorem ti90_ok : TIok Try.prog 90 ti90 := TIok.mk1 (by kernel_rfl) (by kernel_rfl) (by kernel_rfl) (.inr rfl) (⟨Try.underlying90, trivial⟩) (trivial)
/-- []corebellref.one -/
def ti91 : TI := ⟨1, 24, .slice 94, [.con (.slice none 0 0)], some (.sl (.pair (.int .i64) (.int .i64)))⟩
theorem ti91_ok : TIok Try.prog 91 ti91 := TIok.mk1 (by kernel_rfl) (by kernel_rfl) (by kernel_rfl) (.inr rfl) (Try.underlying91) (⟨by kernel_rfl, by kernel_rfl, by kernel_rfl, by kernel_rfl⟩)
/-- func([]corebellref.one, func(corebellref.one) bool) int -/
def ti92 : TI := ⟨1, 8, .scalar (.func #[91, 95] #[3] false), [.con .nilFunc], none⟩
theorem ti92_ok : TIok Try.prog 92 ti92 := TIok.mk1 (by kernel_rfl) (by kernel_rfl) (by kernel_rfl) (.inr rfl) (⟨Try.underlying92, trivial⟩) (trivial)
/-- struct { id int; level int } -/
def ti93 : TI := ⟨2, 16, .struct [(0, 3), (1, 3)], [.d (.int .i64) (0 : Int), .d (.int .i64) (0 : Int)], some (.pair (.int .i64) (.int .i64))⟩
theorem ti93_ok : TIok Try.prog 93 ti93 := TIok.mk1 (by kernel_rfl) (by kernel_rfl) (by kernel_rfl) (.inl rfl) (⟨_, Try.underlying93, by kernel_rfl⟩) (⟨by kernel_rfl, by kernel_rfl, by kernel_rfl, by kernel_rfl⟩)
/-- corebellref.one -/
def ti94 : TI := ⟨2, 16, .struct [(0, 3), (1, 3)], [.d (.int .i64) (0 : Int), .d (.int .i64) (0 : Int)], some (.pair (.int .i64) (.int .i64))⟩
theorem ti94_ok : TIok Try.prog 94 ti94 := TIok.mk1 (by kernel_rfl) (by kernel_rfl) (by kernel_rfl) (.inl rfl) (⟨_, Try.underlying94, by kernel_rfl⟩) (⟨by kernel_rfl, by kernel_rfl, by kernel_rfl, by kernel_rfl⟩)
/-- func(corebellref.one) bool -/
def ti95 : TI := ⟨1, 8, .scalar (.func #[94] #[4] false), [.con .nilFunc], none⟩
theorem ti95_ok : TIok Try.prog 95 ti95 := TIok.mk1 (by kernel_rfl) (by kernel_rfl) (by kernel_rfl) (.inr rfl) (⟨Try.underlying95, trivial⟩) (trivial)
/-- func([]corebellref.one, int, ...corebellref.one) []corebellref.one -/
def ti96 : TI := ⟨1, 8, .scalar (.func #[91, 3, 91] #[91] true), [.con .nilFunc], none⟩
theorem ti96_ok : TIok Try.prog 96 ti96 := TIok.mk1 (by kernel_rfl) (by kernel_rfl) (by kernel_rfl) (.inr rfl) (⟨Try.underlying96, trivial⟩) (trivial)
/-- func([]corebellref.one, int, int) []corebellref.one -/
def ti97 : TI := ⟨1, 8, .scalar (.func #[91, 3, 3] #[91] false), [.con .nilFunc], none⟩
theorem ti97_ok : TIok Try.prog 97 ti97 := TIok.mk1 (by kernel_rfl) (by kernel_rfl) (by kernel_rfl) (.inr rfl) (⟨Try.underlying97, trivial⟩) (trivial)
/-- func([]corebellref.one) []corebellref.one -/
def ti98 : TI := ⟨1, 8, .scalar (.func #[91] #[91] false), [.con .nilFunc], none⟩
theorem ti98_ok : TIok Try.prog 98 ti98 := TIok.mk1 (by kernel_rfl) (by kernel_rfl) (by kernel_rfl) (.inr rfl) (⟨Try.underlying98, trivial⟩) (trivial)
/-- func(int) []int -/
def ti99 : TI := ⟨1, 8, .scalar (.func #[3] #[24] false), [.con .nilFunc], none⟩
theorem ti99_ok : TIok Try.prog 99 ti99 := TIok.mk1 (by kernel_rfl) (by kernel_rfl) (by kernel_rfl) (.inr rfl) (⟨Try.underlying99, trivial⟩) (trivial)
/-- func([]int, func(int, int) int) -/
def ti100 : TI := ⟨1, 8, .scalar (.func #[24, 101] #[] false), [.con .nilFunc], none⟩
theorem ti100_ok : TIok Try.prog 100 ti100 := TIok.mk1 (by kernel_rfl) (by kernel_rfl) (by kernel_rfl) (.inr rfl) (⟨Try.underlying100, trivial⟩) (trivial)
/-- func(int, int) int -/
def ti101 : TI := ⟨1, 8, .scalar (.func #[3, 3] #[3] false), [.con .nilFunc], none⟩
theorem ti101_ok : TIok Try.prog 101 ti101 := TIok.mk1 (by kernel_rfl) (by kernel_rfl) (by kernel_rfl) (.inr rfl) (⟨Try.underlying101, trivial⟩) (trivial)
/-- func([]int, func(int) bool) bool -/
def ti102 : TI := ⟨1, 8, .scalar (.func #[24, 103] #[4] false), [.con .nilFunc], none⟩
theorem ti102_ok : TIok Try.prog 102 ti102 := TIok.mk1 (by kernel_rfl) (by kernel_rfl) (by kernel_rfl) (.inr rfl) (⟨Try.underlying102, trivial⟩) (trivial)
/-- func(int) bool -/
def ti103 : TI := ⟨1, 8, .scalar (.func #[3] #[4] false), [.con .nilFunc], none⟩
theorem ti103_ok : TIok Try.prog 103 ti103 := TIok.mk1 (by kernel_rfl) (by kernel_rfl) (by kernel_rfl) (.inr rfl) (⟨Try.underlying103, trivial⟩) (trivial)
/-- func(int) -/
def ti104 : TI := ⟨1, 8, .scalar (.func #[3] #[] false), [.con .nilFunc], none⟩
theorem ti104_ok : TIok Try.prog 104 ti104 := TIok.mk1 (by kernel_rfl) (by kernel_rfl) (by kernel_rfl) (.inr rfl) (⟨Try.underlying104, trivial⟩) (trivial)
/-- func([]int) int -/
def ti105 : TI := ⟨1, 8, .scalar (.func #[24] #[3] false), [.con .nilFunc], none⟩
theorem ti105_ok : TIok Try.prog 105 ti105 := TIok.mk1 (by kernel_rfl) (by kernel_rfl) (by kernel_rfl) (.inr rfl) (⟨Try.underlying105, trivial⟩) (trivial)
/-- uint -/
def ti106 : TI := ⟨1, 8, .scalar (.int .u64), [.d (.int .u64) (0 : Int)], some (.int .u64)⟩
theorem ti106_ok : TIok Try.prog 106 ti106 := TIok.mk1 (by kernel_rfl) (by kernel_rfl) (by kernel_rfl) (.inr rfl) (⟨Try.underlying106, trivial⟩) (⟨by kernel_rfl, by kernel_rfl, by kernel_rfl, by kernel_rfl⟩)
/-- func(uint, uint) (uint, uint) -/
def ti108 : TI := ⟨1, 8, .scalar (.func #[106, 106] #[106, 106] false), [.con .nilFunc], none⟩
theorem ti108_ok : TIok Try.prog 108 ti108 := TIok.mk1 (by kernel_rfl) (by kernel_rfl) (by kernel_rfl) (.inr rfl) (⟨Try.underlying108, trivial⟩) (trivial)
/-- func(api.Errno) api.FileAns -/
def ti109 : TI := ⟨1, 8, .scalar (.func #[25] #[39] false), [.con .nilFunc], none⟩
theorem ti109_ok : TIok Try.prog 109 ti109 := TIok.mk1 (by kernel_rfl) (by kernel_rfl) (by kernel_rfl) (.inr rfl) (⟨Try.underlying109, trivial⟩) (trivial)
/-- func() (int, bool) -/
def ti110 : TI := ⟨1, 8, .scalar (.func #[] #[3, 4] false), [.con .nilFunc], none⟩
theorem ti110_ok : TIok Try.prog 110 ti110 := TIok.mk1 (by kernel_rfl) (by kernel_rfl) (by kernel_rfl) (.inr rfl) (⟨Try.underlying110, trivial⟩) (trivial)
/-- func(int, *files.open) -/
def ti111 : TI := ⟨1, 8, .scalar (.func #[3, 73] #[] false), [.con .nilFunc], none⟩
theorem ti111_ok : TIok Try.prog 111 ti111 := TIok.mk1 (by kernel_rfl) (by kernel_rfl) (by kernel_rfl) (.inr rfl) (⟨Try.underlying111, trivial⟩) (trivial)
/-- func(int, int, bool) -/
def ti112 : TI := ⟨1, 8, .scalar (.func #[3, 3, 4] #[] false), [.con .nilFunc], none⟩
theorem ti112_ok : TIok Try.prog 112 ti112 := TIok.mk1 (by kernel_rfl) (by kernel_rfl) (by kernel_rfl) (.inr rfl) (⟨Try.underlying112, trivial⟩) (trivial)
/-- func(uint32) int -/
def ti113 : TI := ⟨1, 8, .scalar (.func #[84] #[3] false), [.con .nilFunc], none⟩
theorem ti113_ok : TIok Try.prog 113 ti113 := TIok.mk1 (by kernel_rfl) (by kernel_rfl) (by kernel_rfl) (.inr rfl) (⟨Try.underlying113, trivial⟩) (trivial)
/-- func([]corebellref.one, []corebellref.one) bool -/
def ti114 : TI := ⟨1, 8, .scalar (.func #[91, 91] #[4] false), [.con .nilFunc], none⟩
theorem ti114_ok : TIok Try.prog 114 ti114 := TIok.mk1 (by kernel_rfl) (by kernel_rfl) (by kernel_rfl) (.inr rfl) (⟨Try.underlying114, trivial⟩) (trivial)
/-- func([]corebellref.one, int) -/
def ti115 : TI := ⟨1, 8, .scalar (.func #[91, 3] #[] false), [.con .nilFunc], none⟩
theorem ti115_ok : TIok Try.prog 115 ti115 := TIok.mk1 (by kernel_rfl) (by kernel_rfl) (by kernel_rfl) (.inr rfl) (⟨Try.underlying115, trivial⟩) (trivial)
/-- func([]int, int, func(int, int) int) -/
def ti116 : TI := ⟨1, 8, .scalar (.func #[24, 3, 101] #[] false), [.con .nilFunc], none⟩
theorem ti116_ok : TIok Try.prog 116 ti116 := TIok.mk1 (by kernel_rfl) (by kernel_rfl) (by kernel_rfl) (.inr rfl) (⟨Try.underlying116, trivial⟩) (trivial)
/-- func([]int, func(int) bool) int -/
def ti117 : TI := ⟨1, 8, .scalar (.func #[24, 103] #[3] false), [.con .nilFunc], none⟩
theorem ti117_ok : TIok Try.prog 117 ti117 := TIok.mk1 (by kernel_rfl) (by kernel_rfl) (by kernel_rfl) (.inr rfl) (⟨Try.underlying117, trivial⟩) (trivial)
/-- func(uint32, uint32) (uint32, uint32) -/
def ti119 : TI := ⟨1, 8, .scalar (.func #[84, 84] #[84, 84] false), [.con .nilFunc], none⟩
theorem ti119_ok : TIok Try.prog 119 ti119 := TIok.mk1 (by kernel_rfl) (by kernel_rfl) (by kernel_rfl) (.inr rfl) (⟨Try.underlying119, trivial⟩) (trivial)
/-- uint64 -/
def ti120 : TI := ⟨1, 8, .scalar (.int .u64), [.d (.int .u64) (0 : Int)], some (.int .u64)⟩
theorem ti120_ok : TIok Try.prog 120 ti120 := TIok.mk1 (by kernel_rfl) (by kernel_rfl) (by kernel_rfl) (.inr rfl) (⟨Try.underlying120, trivial⟩) (⟨by kernel_rfl, by kernel_rfl, by kernel_rfl, by kernel_rfl⟩)
/-- func(uint64, uint64) (uint64, uint64) -/
def ti122 : TI := ⟨1, 8, .scalar (.func #[120, 120] #[120, 120] false), [.con .nilFunc], none⟩
theorem ti122_ok : TIok Try.prog 122 ti122 := TIok.mk1 (by kernel_rfl) (by kernel_rfl) (by kernel_rfl) (.inr rfl) (⟨Try.underlying122, trivial⟩) (trivial)
/-- func([]int, int, ...int) []int -/
def ti123 : TI := ⟨1, 8, .scalar (.func #[24, 3, 24] #[24] true), [.con .nilFunc], none⟩
theorem ti123_ok : TIok Try.prog 123 ti123 := TIok.mk1 (by kernel_rfl) (by kernel_rfl) (by kernel_rfl) (.inr rfl) (⟨Try.underlying123, trivial⟩) (trivial)
/-- func([]int, int, int) []int -/
def ti124 : TI := ⟨1, 8, .scalar (.func #[24, 3, 3] #[24] false), [.con .nilFunc], none⟩
theorem ti124_ok : TIok Try.prog 124 ti124 := TIok.mk1 (by kernel_rfl) (by kernel_rfl) (by kernel_rfl) (.inr rfl) (⟨Try.underlying124, trivial⟩) (trivial)
/-- func([]int, int, int, func(int, int) int) -/
def ti125 : TI := ⟨1, 8, .scalar (.func #[24, 3, 3, 101] #[] false), [.con .nilFunc], none⟩
theorem ti125_ok : TIok Try.prog 125 ti125 := TIok.mk1 (by kernel_rfl) (by kernel_rfl) (by kernel_rfl) (.inr rfl) (⟨Try.underlying125, trivial⟩) (trivial)
/-- func([]int, int, int, int, func(int, int) int) -/
def ti126 : TI := ⟨1, 8, .scalar (.func #[24, 3, 3, 3, 101] #[] false), [.con .nilFunc], none⟩
theorem ti126_ok : TIok Try.prog 126 ti126 := TIok.mk1 (by kernel_rfl) (by kernel_rfl) (by kernel_rfl) (.inr rfl) (⟨Try.underlying126, trivial⟩) (trivial)
/-- func([]int, int) -/
def ti127 : TI := ⟨1, 8, .scalar (.func #[24, 3] #[] false), [.con .nilFunc], none⟩
theorem ti127_ok : TIok Try.prog 127 ti127 := TIok.mk1 (by kernel_rfl) (by kernel_rfl) (by kernel_rfl) (.inr rfl) (⟨Try.underlying127, trivial⟩) (trivial)
/-- func([]corebellref.one) -/
def ti128 : TI := ⟨1, 8, .scalar (.func #[91] #[] false), [.con .nilFunc], none⟩
theorem ti128_ok : TIok Try.prog 128 ti128 := TIok.mk1 (by kernel_rfl) (by kernel_rfl) (by kernel_rfl) (.inr rfl) (⟨Try.underlying128, trivial⟩) (trivial)
/-- func([]int) -/
def ti129 : TI := ⟨1, 8, .scalar (.func #[24] #[] false), [.con .nilFunc], none⟩
theorem ti129_ok : TIok Try.prog 129 ti129 := TIok.mk1 (by kernel_rfl) (by kernel_rfl) (by kernel_rfl) (.inr rfl) (⟨Try.underlying129, trivial⟩) (trivial)
/-- func() string -/
def ti130 : TI := ⟨1, 8, .scalar (.func #[] #[9] false), [.con .nilFunc], none⟩
theorem ti130_ok : TIok Try.prog 130 ti130 := TIok.mk1 (by kernel_rfl) (by kernel_rfl) (by kernel_rfl) (.inr rfl) (⟨Try.underlying130, trivial⟩) (trivial)
/-- struct { _interface *abi.Type; concrete *abi.Type; asserted *abi.Type; missingMethod string } -/
def ti131 : TI := ⟨4, 40, .struct [(0, 17), (1, 17), (2, 17), (3, 9)], [.con (.pointer none), .con (.pointer none), .con (.pointer none), .d .str ([] : List Int)], none⟩
theorem ti131_ok : TIok Try.prog 131 ti131 := TIok.mk1 (by kernel_rfl) (by kernel_rfl) (by kernel_rfl) (.inl rfl) (⟨_, Try.underlying131, by kernel_rfl⟩) (trivial)
/-- runtime.TypeAssertionError -/
def ti132 : TI := ⟨4, 40, .struct [(0, 17), (1, 17), (2, 17), (3, 9)], [.con (.pointer none), .con (.pointer none), .con (.pointer none), .d .str ([] : List Int)], none⟩
theorem ti132_ok : TIok Try.prog 132 ti132 := TIok.mk1 (by kernel_rfl) (by kernel_rfl) (by kernel_rfl) (.inl rfl) (⟨_, Try.underlying132, by kernel_rfl⟩) (trivial)
/-- func() int -/
def ti136 : TI := ⟨1, 8, .scalar (.func #[] #[3] false), [.con .nilFunc], none⟩
theorem ti136_ok : TIok Try.prog 136 ti136 := TIok.mk1 (by kernel_rfl) (by kernel_rfl) (by kernel_rfl) (.inr rfl) (⟨Try.underlying136, trivial⟩) (trivial)
/-- abi.TFlag -/
def ti137 : TI := ⟨1, 1, .scalar (.int .u8), [.d (.int .u8) (0 : Int)], some (.int .u8)⟩
theorem ti137_ok : TIok Try.prog 137 ti137 := TIok.mk1 (by kernel_rfl) (by kernel_rfl) (by kernel_rfl) (.inr rfl) (⟨Try.underlying137, trivial⟩) (⟨by kernel_rfl, by kernel_rfl, by kernel_rfl, by kernel_rfl⟩)
/-- abi.Kind -/
def ti138 : TI := ⟨1, 1, .scalar (.int .u8), [.d (.int .u8) (0 : Int)], some (.int .u8)⟩
theorem ti138_ok : TIok Try.prog 138 ti138 := TIok.mk1 (by kernel_rfl) (by kernel_rfl) (by kernel_rfl) (.inr rfl) (⟨Try.underlying138, trivial⟩) (⟨by kernel_rfl, by kernel_rfl, by kernel_rfl, by kernel_rfl⟩)
/-- func(unsafe.Pointer, unsafe.Pointer) bool -/
def ti139 : TI := ⟨1, 8, .scalar (.func #[145, 145] #[4] false), [.con .nilFunc], none⟩
theorem ti139_ok : TIok Try.prog 139 ti139 := TIok.mk1 (by kernel_rfl) (by kernel_rfl) (by kernel_rfl) (.inr rfl) (⟨Try.underlying139, trivial⟩) (trivial)
/-- *uint8 -/
def ti140 : TI := ⟨1, 8, .scalar (.pointer 5), [.con (.pointer none)], none⟩
theorem ti140_ok : TIok Try.prog 140 ti140 := TIok.mk1 (by kernel_rfl) (by kernel_rfl) (by kernel_rfl) (.inr rfl) (⟨Try.underlying140, trivial⟩) (trivial)
/-- abi.NameOff -/
def ti141 : TI := ⟨1, 4, .scalar (.int .i32), [.d (.int .i32) (0 : Int)], some (.int .i32)⟩
theorem ti141_ok : TIok Try.prog 141 ti141 := TIok.mk1 (by kernel_rfl) (by kernel_rfl) (by kernel_rfl) (.inr rfl) (⟨Try.underlying141, trivial⟩) (⟨by kernel_rfl, by kernel_rfl, by kernel_rfl, by kernel_rfl⟩)
/-- abi.TypeOff -/
def ti142 : TI := ⟨1, 4, .scalar (.int .i32), [.d (.int .i32) (0 : Int)], some (.int .i32)⟩
theorem ti142_ok : TIok Try.prog 142 ti142 := TIok.mk1 (by kernel_rfl) (by kernel_rfl) (by kernel_rfl) (.inr rfl) (⟨Try.underlying142, trivial⟩) (⟨by kernel_rfl, by kernel_rfl, by kernel_rfl, by kernel_rfl⟩)
/-- struct { Size_ uintptr; PtrBytes uintptr; Hash uint32; TFlag abi.TFlag; Align_ uint8; FieldAlign_ uint8; Kind_ abi.Kind; Equal func(unsafe.Pointer, unsafe.Pointer) bool; GCData *uint8; Str abi.NameOff; PtrToThis abi.TypeOff } -/
def ti143 : TI := ⟨11, 48, .struct [(0, 12), (1, 12), (2, 84), (3, 137), (4, 5), (5, 5), (6, 138), (7, 139), (8, 140), (9, 141), (10, 142)], [.d (.int .u64) (0 : Int), .d (.int .u64) (0 : Int), .d (.int .u32) (0 : Int), .d (.int .u8) (0 : Int), .d (.int .u8) (0 : Int), .d (.int .u8) (0 : Int), .d (.int .u8) (0 : Int), .con .nilFunc, .con (.pointer none), .d (.int .i32) (0 : Int), .d (.int .i32) (0 : Int)], none⟩
theorem ti143_ok : TIok Try.prog 143 ti143 := TIok.mk1 (by kernel_rfl) (by kernel_rfl) (by kernel_rfl) (.inl rfl) (⟨_, Try.underlying143, by kernel_rfl⟩) (trivial)
/-- abi.Type -/
def ti144 : TI := ⟨11, 48, .struct [(0, 12), (1, 12), (2, 84), (3, 137), (4, 5), (5, 5), (6, 138), (7, 139), (8, 140), (9, 141), (10, 142)], [.d (.int .u64) (0 : Int), .d (.int .u64) (0 : Int), .d (.int .u32) (0 : Int), .d (.int .u8) (0 : Int), .d (.int .u8) (0 : Int), .d (.int .u8) (0 : Int), .d (.int .u8) (0 : Int), .con .nilFunc, .con (.pointer none), .d (.int .i32) (0 : Int), .d (.int .i32) (0 : Int)], none⟩
theorem ti144_ok : TIok Try.prog 144 ti144 := TIok.mk1 (by kernel_rfl) (by kernel_rfl) (by kernel_rfl) (.inl rfl) (⟨_, Try.underlying144, by kernel_rfl⟩) (trivial)
theorem eq33_ok : EqTy Try.prog 33 (.arr 16 (.int .i64)) := ⟨(Exists.intro 3 (And.intro Try.underlying33 (And.intro (by kernel_rfl) (And.intro (by kernel_rfl) Try.underlying3)))), rfl, rfl, by kernel_rfl, by kernel_rfl⟩
theorem eq34_ok : EqTy Try.prog 34 (.arr 4 (.arr 16 (.int .i64))) := ⟨(Exists.intro 33 (And.intro Try.underlying34 (And.intro (by kernel_rfl) (And.intro (by kernel_rfl) (Exists.intro 3 (And.intro Try.underlying33 (And.intro (by kernel_rfl) (And.intro (by kernel_rfl) Try.underlying3)))))))), rfl, rfl, by kernel_rfl, by kernel_rfl⟩
theorem eq39_ok : EqTy Try.prog 39 (.pair (.int .i64) (.int .i64)) := ⟨(Exists.intro _ (And.intro Try.underlying39 (And.intro (by kernel_rfl) (And.intro (by kernel_rfl) (And.intro (by kernel_rfl) (And.intro Try.underlying25 (And.intro (by kernel_rfl) (And.intro (by kernel_rfl) Try.underlying3)))))))), rfl, rfl, by kernel_rfl, by kernel_rfl⟩
theorem eq62_ok : EqTy Try.prog 62 (.pair (.int .i64) (.pair (.int .i64) (.int .i64))) := ⟨(Exists.intro _ (And.intro Try.underlying62 (And.intro (by kernel_rfl) (And.intro (by kernel_rfl) (And.intro (by kernel_rfl) (And.intro Try.underlying3 (And.intro (by kernel_rfl) (And.intro (by kernel_rfl) (And.intro Try.underlying3 (And.intro (by kernel_rfl) (And.intro (by kernel_rfl) Try.underlying3))))))))))), rfl, rfl, by kernel_rfl, by kernel_rfl⟩
theorem eq77_ok : EqTy Try.prog 77 (.pair (.int .i64) (.pair (.int .i64) (.pair (.int .i64) (.pair (.int .i64) (.pair (.int .i64) (.pair (.int .i64) (.int .i64))))))) := ⟨(Exists.intro _ (And.intro Try.underlying77 (And.intro (by kernel_rfl) (And.intro (by kernel_rfl) (And.intro (by kernel_rfl) (And.intro Try.underlying3 (And.intro (by kernel_rfl) (And.intro (by kernel_rfl) (And.intro Try.underlying3 (And.intro (by kernel_rfl) (And.intro (by kernel_rfl) (And.intro Try.underlying3 (And.intro (by kernel_rfl) (And.intro (by kernel_rfl) (And.intro Try.underlying3 (And.intro (by kernel_rfl) (And.intro (by kernel_rfl) (And.intro Try.underlying3 (And.intro (by kernel_rfl) (And.intro (by kernel_rfl) (And.intro Try.underlying3 (And.intro (by kernel_rfl) (And.intro (by kernel_rfl) Try.underlying3))))))))))))))))))))))), rfl, rfl, by kernel_rfl, by kernel_rfl⟩
theorem eq80_ok : EqTy Try.prog 80 (.pair (.int .i64) (.pair (.int .i64) (.pair (.int .i64) (.int .i64)))) := ⟨(Exists.intro _ (And.intro Try.underlying80 (And.intro (by kernel_rfl) (And.intro (by kernel_rfl) (And.intro (by kernel_rfl) (And.intro Try.underlying3 (And.intro (by kernel_rfl) (And.intro (by kernel_rfl) (And.intro Try.underlying3 (And.intro (by kernel_rfl) (And.intro (by kernel_rfl) (And.intro Try.underlying3 (And.intro (by kernel_rfl) (And.intro (by kernel_rfl) Try.underlying3)))))))))))))), rfl, rfl, by kernel_rfl, by kernel_rfl⟩
theorem eq81_ok : EqTy Try.prog 81 (.arr 4 (.bool)) := ⟨(Exists.intro 4 (And.intro Try.underlying81 (And.intro (by kernel_rfl) (And.intro (by kernel_rfl) Try.underlying4)))), rfl, rfl, by kernel_rfl, by kernel_rfl⟩
theorem eq89_ok : EqTy Try.prog 89 (.pair (.int .i64) (.pair (.int .i64) (.int .i64))) := ⟨(Exists.intro _ (And.intro Try.underlying89 (And.intro (by kernel_rfl) (And.intro (by kernel_rfl) (And.intro (by kernel_rfl) (And.intro Try.underlying3 (And.intro (by kernel_rfl) (And.intro (by kernel_rfl) (And.intro Try.underlying3 (And.intro (by kernel_rfl) (And.intro (by kernel_rfl) Try.underlying3))))))))))), rfl, rfl, by kernel_rfl, by kernel_rfl⟩
theorem eq94_ok : EqTy Try.prog 94 (.pair (.int .i64) (.int .i64)) := ⟨(Exists.intro _ (And.intro Try.underlying94 (And.intro (by kernel_rfl) (And.intro (by kernel_rfl) (And.intro (by kernel_rfl) (And.intro Try.underlying3 (And.intro (by kernel_rfl) (And.intro (by kernel_rfl) Try.underlying3)))))))), rfl, rfl, by kernel_rfl, by kernel_rfl⟩
def env : Env := { tys := [(1, ti1), (2, ti2), (3, ti3), (4, ti4), (5, ti5), (6, ti6), (7, ti7), (8, ti8), (9, ti9), (10, ti10), (11, ti11), (12, ti12), (13, ti13), (14, ti14), (15, ti15), (16, ti16), (17, ti17), (18, ti18), (19, ti19), (21, ti21), (22, ti22), (23, ti23), (24, ti24), (25, ti25), (27, ti27), (28, ti28), (29, ti29), (30, ti30), (31, ti31), (32, ti32), (33, ti33), (34, ti34), (36, ti36), (37, ti37), (38, ti38), (39, ti39), (40, ti40), (41, ti41), (43, ti43), (44, ti44), (45, ti45), (46, ti46), (48, ti48), (49, ti49), (50, ti50), (51, ti51), (52, ti52), (53, ti53), (55, ti55), (56, ti56), (57, ti57), (58, ti58), (59, ti59), (60, ti60), (61, ti61), (62, ti62), (63, ti63), (64, ti64), (66, ti66), (67, ti67), (68, ti68), (69, ti69), (70, ti70), (71, ti71), (72, ti72), (73, ti73), (74, ti74), (75, ti75), (76, ti76), (77, ti77), (78, ti78), (79, ti79), (80, ti80), (81, ti81), (82, ti82), (83, ti83), (84, ti84), (85, ti85), (86, ti86), (87, ti87), (88, ti88), (89, ti89), (90, ti90), (91, ti91), (92, ti92), (93, ti93), (94, ti94), (95, ti95), (96, ti96), (97, ti97), (98, ti98), (99, ti99), (100, ti100), (101, ti101), (102, ti102), (103, ti103), (104, ti104), (105, ti105), (106, ti106), (108, ti108), (109, ti109), (110, ti110), (111, ti111), (112, ti112), (113, ti113), (114, ti114), (115, ti115), (116, ti116), (117, ti117), (119, ti119), (120, ti120), (122, ti122), (123, ti123), (124, ti124), (125, ti125), (126, ti126), (127, ti127), (128, ti128), (129, ti129), (130, ti130), (131, ti131), (132, ti132), (136, ti136), (137, ti137), (138, ti138), (139, ti139), (140, ti140), (141, ti141), (142, ti142), (143, ti143), (144, ti144)], eqs := [(33, .arr 16 (.int .i64)), (34, .arr 4 (.arr 16 (.int .i64))), (39, .pair (.int .i64) (.int .i64)), (62, .pair (.int .i64) (.pair (.int .i64) (.int .i64))), (77, .pair (.int .i64) (.pair (.int .i64) (.pair (.int .i64) (.pair (.int .i64) (.pair (.int .i64) (.pair (.int .i64) (.int .i64))))))), (80, .pair (.int .i64) (.pair (.int .i64) (.pair (.int .i64) (.int .i64)))), (81, .arr 4 (.bool)), (89, .pair (.int .i64) (.pair (.int .i64) (.int .i64))), (94, .pair (.int .i64) (.int .i64))] }
theorem env_ok : EnvOk Try.prog env := envOk_of_all (E := env) ⟨ti1_ok, ⟨ti2_ok, ⟨ti3_ok, ⟨ti4_ok, ⟨ti5_ok, ⟨ti6_ok, ⟨ti7_ok, ⟨ti8_ok, ⟨ti9_ok, ⟨ti10_ok, ⟨ti11_ok, ⟨ti12_ok, ⟨ti13_ok, ⟨ti14_ok, ⟨ti15_ok, ⟨ti16_ok, ⟨ti17_ok, ⟨ti18_ok, ⟨ti19_ok, ⟨ti21_ok, ⟨ti22_ok, ⟨ti23_ok, ⟨ti24_ok, ⟨ti25_ok, ⟨ti27_ok, ⟨ti28_ok, ⟨ti29_ok, ⟨ti30_ok, ⟨ti31_ok, ⟨ti32_ok, ⟨ti33_ok, ⟨ti34_ok, ⟨ti36_ok, ⟨ti37_ok, ⟨ti38_ok, ⟨ti39_ok, ⟨ti40_ok, ⟨ti41_ok, ⟨ti43_ok, ⟨ti44_ok, ⟨ti45_ok, ⟨ti46_ok, ⟨ti48_ok, ⟨ti49_ok, ⟨ti50_ok, ⟨ti51_ok, ⟨ti52_ok, ⟨ti53_ok, ⟨ti55_ok, ⟨ti56_ok, ⟨ti57_ok, ⟨ti58_ok, ⟨ti59_ok, ⟨ti60_ok, ⟨ti61_ok, ⟨ti62_ok, ⟨ti63_ok, ⟨ti64_ok, ⟨ti66_ok, ⟨ti67_ok, ⟨ti68_ok, ⟨ti69_ok, ⟨ti70_ok, ⟨ti71_ok, ⟨ti72_ok, ⟨ti73_ok, ⟨ti74_ok, ⟨ti75_ok, ⟨ti76_ok, ⟨ti77_ok, ⟨ti78_ok, ⟨ti79_ok, ⟨ti80_ok, ⟨ti81_ok, ⟨ti82_ok, ⟨ti83_ok, ⟨ti84_ok, ⟨ti85_ok, ⟨ti86_ok, ⟨ti87_ok, ⟨ti88_ok, ⟨ti89_ok, ⟨ti90_ok, ⟨ti91_ok, ⟨ti92_ok, ⟨ti93_ok, ⟨ti94_ok, ⟨ti95_ok, ⟨ti96_ok, ⟨ti97_ok, ⟨ti98_ok, ⟨ti99_ok, ⟨ti100_ok, ⟨ti101_ok, ⟨ti102_ok, ⟨ti103_ok, ⟨ti104_ok, ⟨ti105_ok, ⟨ti106_ok, ⟨ti108_ok, ⟨ti109_ok, ⟨ti110_ok, ⟨ti111_ok, ⟨ti112_ok, ⟨ti113_ok, ⟨ti114_ok, ⟨ti115_ok, ⟨ti116_ok, ⟨ti117_ok, ⟨ti119_ok, ⟨ti120_ok, ⟨ti122_ok, ⟨ti123_ok, ⟨ti124_ok, ⟨ti125_ok, ⟨ti126_ok, ⟨ti127_ok, ⟨ti128_ok, ⟨ti129_ok, ⟨ti130_ok, ⟨ti131_ok, ⟨ti132_ok, ⟨ti136_ok, ⟨ti137_ok, ⟨ti138_ok, ⟨ti139_ok, ⟨ti140_ok, ⟨ti141_ok, ⟨ti142_ok, ⟨ti143_ok, ⟨ti144_ok, trivial⟩⟩⟩⟩⟩⟩⟩⟩⟩⟩⟩⟩⟩⟩⟩⟩⟩⟩⟩⟩⟩⟩⟩⟩⟩⟩⟩⟩⟩⟩⟩⟩⟩⟩⟩⟩⟩⟩⟩⟩⟩⟩⟩⟩⟩⟩⟩⟩⟩⟩⟩⟩⟩⟩⟩⟩⟩⟩⟩⟩⟩⟩⟩⟩⟩⟩⟩⟩⟩⟩⟩⟩⟩⟩⟩⟩⟩⟩⟩⟩⟩⟩⟩⟩⟩⟩⟩⟩⟩⟩⟩⟩⟩⟩⟩⟩⟩⟩⟩⟩⟩⟩⟩⟩⟩⟩⟩⟩⟩⟩⟩⟩⟩⟩⟩⟩⟩⟩⟩⟩⟩⟩⟩⟩⟩⟩⟩⟩⟩⟩⟩ ⟨eq33_ok, ⟨eq34_ok, ⟨eq39_ok, ⟨eq62_ok, ⟨eq77_ok, ⟨eq80_ok, ⟨eq81_ok, ⟨eq89_ok, ⟨eq94_ok, trivial⟩⟩⟩⟩⟩⟩⟩⟩⟩
end Go.Proofs.Ytpmfgdedkmddlaa
