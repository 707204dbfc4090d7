/-
  The types of the translation, as the executor wants them, with the proof that they are as the program says. Written by genenv.py.
-/
import Derived.Test.YtlkhpbjjimjhbaaRows
import Derived.Test.YtlkhpbjjimjhbaaSxW
namespace Go.Proofs.Ytlkhpbjjimjhbaa
open Go.Sx
@[reducible] def tyboundsError : Ty := .pair (.int .i64) (.pair (.int .i64) (.pair (.bool) (.int .u8)))
@[reducible] def tyerrorAddressString : Ty := .pair (.str) (.int .u64)
@[reducible] def tyTty : Ty := .pair (.sl (.sl (.int .u8))) (.sl (.int .u8))
@[reducible] def tyFileAns : Ty := .pair (.int .i64) (.int .i64)
@[reducible] def tyRate : Ty := .pair (.int .i64) (.int .i64)
@[reducible] def tyPlan : Ty := .pair (.sl (.int .i64)) (.int .i64)
@[reducible] def tyqueue : Ty := .pair (.sl (.int .i64)) (.pair (.int .i64) (.sl (.int .i64)))
@[reducible] def tyWorkOp : Ty := .pair (.int .i64) (.int .i64)
@[reducible] def tyFileOp : Ty := .pair (.int .i64) (.pair (.int .i64) (.pair (.int .i64) (.pair (.int .i64) (.pair (.int .i64) (.pair (.int .i64) (.int .i64))))))
@[reducible] def tyopen : Ty := .pair (.int .i64) (.pair (.int .i64) (.pair (.int .i64) (.int .i64)))
@[reducible] def tystate : Ty := .pair (.sl (.int .i64)) (.sl (.int .i64))
@[reducible] def tyRankOp : Ty := .pair (.int .i64) (.pair (.int .i64) (.int .i64))
@[reducible] def tyWaitOp : Ty := .pair (.int .i64) (.int .i64)
@[reducible] def tyowaits : Ty := .pair (.int .i64) (.int .i64)
@[reducible] def tyRunOp : Ty := .pair (.int .i64) (.pair (.int .i64) (.int .i64))
@[reducible] def tyone : Ty := .pair (.int .i64) (.int .i64)
/-- int64 -/
def ti2 : TI := ⟨1, 8, .scalar (.int .i64), [.d (.int .i64) (0 : Int)], some (.int .i64)⟩
theorem ti2_ok : TIok Try.prog 2 ti2 := TIok.mk1 (by kernel_rfl) (by kernel_rfl) (by kernel_rfl) (.inr rfl) (⟨Try.underlying2, trivial⟩) (⟨by kernel_rfl, by kernel_rfl, by kernel_rfl, by kernel_rfl⟩)
/-- int -/
def ti3 : TI := ⟨1, 8, .scalar (.int .i64), [.d (.int .i64) (0 : Int)], some (.int .i64)⟩
theorem ti3_ok : TIok Try.prog 3 ti3 := TIok.mk1 (by kernel_rfl) (by kernel_rfl) (by kernel_rfl) (.inr rfl) (⟨Try.underlying3, trivial⟩) (⟨by kernel_rfl, by kernel_rfl, by kernel_rfl, by kernel_rfl⟩)
/-- bool -/
def ti4 : TI := ⟨1, 1, .scalar .bool, [.lit false], some (.bool)⟩
theorem ti4_ok : TIok Try.prog 4 ti4 := TIok.mk1 (by kernel_rfl) (by kernel_rfl) (by kernel_rfl) (.inr rfl) (⟨Try.underlying4, trivial⟩) (⟨by kernel_rfl, by kernel_rfl, by kernel_rfl, by kernel_rfl⟩)
/-- uint8 -/
def ti5 : TI := ⟨1, 1, .scalar (.int .u8), [.d (.int .u8) (0 : Int)], some (.int .u8)⟩
theorem ti5_ok : TIok Try.prog 5 ti5 := TIok.mk1 (by kernel_rfl) (by kernel_rfl) (by kernel_rfl) (.inr rfl) (⟨Try.underlying5, trivial⟩) (⟨by kernel_rfl, by kernel_rfl, by kernel_rfl, by kernel_rfl⟩)
/-- abi.BoundsErrorCode -/
def ti6 : TI := ⟨1, 1, .scalar (.int .u8), [.d (.int .u8) (0 : Int)], some (.int .u8)⟩
theorem ti6_ok : TIok Try.prog 6 ti6 := TIok.mk1 (by kernel_rfl) (by kernel_rfl) (by kernel_rfl) (.inr rfl) (⟨Try.underlying6, trivial⟩) (⟨by kernel_rfl, by kernel_rfl, by kernel_rfl, by kernel_rfl⟩)
/-- struct { x int64; y int; signed bool; code abi.BoundsErrorCode } -/
def ti7 : TI := ⟨4, 24, .struct [(0, 2), (1, 3), (2, 4), (3, 6)], [.d (.int .i64) (0 : Int), .d (.int .i64) (0 : Int), .lit false, .d (.int .u8) (0 : Int)], some (.pair (.int .i64) (.pair (.int .i64) (.pair (.bool) (.int .u8))))⟩
theorem ti7_ok : TIok Try.prog 7 ti7 := TIok.mk1 (by kernel_rfl) (by kernel_rfl) (by kernel_rfl) (.inl rfl) (⟨_, Try.underlying7, by kernel_rfl⟩) (⟨by kernel_rfl, by kernel_rfl, by kernel_rfl, by kernel_rfl⟩)
/-- runtime.boundsError -/
def ti8 : TI := ⟨4, 24, .struct [(0, 2), (1, 3), (2, 4), (3, 6)], [.d (.int .i64) (0 : Int), .d (.int .i64) (0 : Int), .lit false, .d (.int .u8) (0 : Int)], some (.pair (.int .i64) (.pair (.int .i64) (.pair (.bool) (.int .u8))))⟩
theorem ti8_ok : TIok Try.prog 8 ti8 := TIok.mk1 (by kernel_rfl) (by kernel_rfl) (by kernel_rfl) (.inl rfl) (⟨_, Try.underlying8, by kernel_rfl⟩) (⟨by kernel_rfl, by kernel_rfl, by kernel_rfl, by kernel_rfl⟩)
/-- string -/
def ti9 : TI := ⟨1, 16, .scalar .string, [.d .str ([] : List Int)], some (.str)⟩
theorem ti9_ok : TIok Try.prog 9 ti9 := TIok.mk1 (by kernel_rfl) (by kernel_rfl) (by kernel_rfl) (.inr rfl) (⟨Try.underlying9, trivial⟩) (⟨by kernel_rfl, by kernel_rfl, by kernel_rfl, by kernel_rfl⟩)
/-- runtime.errorString -/
def ti10 : TI := ⟨1, 16, .scalar .string, [.d .str ([] : List Int)], some (.str)⟩
theorem ti10_ok : TIok Try.prog 10 ti10 := TIok.mk1 (by kernel_rfl) (by kernel_rfl) (by kernel_rfl) (.inr rfl) (⟨Try.underlying10, trivial⟩) (⟨by kernel_rfl, by kernel_rfl, by kernel_rfl, by kernel_rfl⟩)
/-- runtime.plainError -/
def ti11 : TI := ⟨1, 16, .scalar .string, [.d .str ([] : List Int)], some (.str)⟩
theorem ti11_ok : TIok Try.prog 11 ti11 := TIok.mk1 (by kernel_rfl) (by kernel_rfl) (by kernel_rfl) (.inr rfl) (⟨Try.underlying11, trivial⟩) (⟨by kernel_rfl, by kernel_rfl, by kernel_rfl, by kernel_rfl⟩)
/-- uintptr -/
def ti12 : TI := ⟨1, 8, .scalar (.int .u64), [.d (.int .u64) (0 : Int)], some (.int .u64)⟩
theorem ti12_ok : TIok Try.prog 12 ti12 := TIok.mk1 (by kernel_rfl) (by kernel_rfl) (by kernel_rfl) (.inr rfl) (⟨Try.underlying12, trivial⟩) (⟨by kernel_rfl, by kernel_rfl, by kernel_rfl, by kernel_rfl⟩)
/-- struct { msg string; addr uintptr } -/
def ti13 : TI := ⟨2, 24, .struct [(0, 9), (1, 12)], [.d .str ([] : List Int), .d (.int .u64) (0 : Int)], some (.pair (.str) (.int .u64))⟩
theorem ti13_ok : TIok Try.prog 13 ti13 := TIok.mk1 (by kernel_rfl) (by kernel_rfl) (by kernel_rfl) (.inl rfl) (⟨_, Try.underlying13, by kernel_rfl⟩) (⟨by kernel_rfl, by kernel_rfl, by kernel_rfl, by kernel_rfl⟩)
/-- runtime.errorAddressString -/
def ti14 : TI := ⟨2, 24, .struct [(0, 9), (1, 12)], [.d .str ([] : List Int), .d (.int .u64) (0 : Int)], some (.pair (.str) (.int .u64))⟩
theorem ti14_ok : TIok Try.prog 14 ti14 := TIok.mk1 (by kernel_rfl) (by kernel_rfl) (by kernel_rfl) (.inl rfl) (⟨_, Try.underlying14, by kernel_rfl⟩) (⟨by kernel_rfl, by kernel_rfl, by kernel_rfl, by kernel_rfl⟩)
/-- *runtime.TypeAssertionError -/
def ti15 : TI := ⟨1, 8, .scalar (.pointer 195), [.con (.pointer none)], none⟩
theorem ti15_ok : TIok Try.prog 15 ti15 := TIok.mk1 (by kernel_rfl) (by kernel_rfl) (by kernel_rfl) (.inr rfl) (⟨Try.underlying15, trivial⟩) (trivial)
/-- *runtime.PanicNilError -/
def ti16 : TI := ⟨1, 8, .scalar (.pointer 198), [.con (.pointer none)], none⟩
theorem ti16_ok : TIok Try.prog 16 ti16 := TIok.mk1 (by kernel_rfl) (by kernel_rfl) (by kernel_rfl) (.inr rfl) (⟨Try.underlying16, trivial⟩) (trivial)
/-- *abi.Type -/
def ti17 : TI := ⟨1, 8, .scalar (.pointer 207), [.con (.pointer none)], none⟩
theorem ti17_ok : TIok Try.prog 17 ti17 := TIok.mk1 (by kernel_rfl) (by kernel_rfl) (by kernel_rfl) (.inr rfl) (⟨Try.underlying17, trivial⟩) (trivial)
/-- struct { typ *abi.Type } -/
def ti18 : TI := ⟨1, 8, .struct [(0, 17)], [.con (.pointer none)], none⟩
theorem ti18_ok : TIok Try.prog 18 ti18 := TIok.mk1 (by kernel_rfl) (by kernel_rfl) (by kernel_rfl) (.inl rfl) (⟨_, Try.underlying18, by kernel_rfl⟩) (trivial)
/-- maps.unhashableTypeError -/
def ti19 : TI := ⟨1, 8, .struct [(0, 17)], [.con (.pointer none)], none⟩
theorem ti19_ok : TIok Try.prog 19 ti19 := TIok.mk1 (by kernel_rfl) (by kernel_rfl) (by kernel_rfl) (.inl rfl) (⟨_, Try.underlying19, by kernel_rfl⟩) (trivial)
/-- int32 -/
def ti21 : TI := ⟨1, 4, .scalar (.int .i32), [.d (.int .i32) (0 : Int)], some (.int .i32)⟩
theorem ti21_ok : TIok Try.prog 21 ti21 := TIok.mk1 (by kernel_rfl) (by kernel_rfl) (by kernel_rfl) (.inr rfl) (⟨Try.underlying21, trivial⟩) (⟨by kernel_rfl, by kernel_rfl, by kernel_rfl, by kernel_rfl⟩)
/-- []uint8 -/
def ti22 : TI := ⟨1, 24, .slice 5, [.con (.slice none 0 0)], some (.sl (.int .u8))⟩
theorem ti22_ok : TIok Try.prog 22 ti22 := TIok.mk1 (by kernel_rfl) (by kernel_rfl) (by kernel_rfl) (.inr rfl) (Try.underlying22) (⟨by kernel_rfl, by kernel_rfl, by kernel_rfl, by kernel_rfl⟩)
/-- [][]uint8 -/
def ti24 : TI := ⟨1, 24, .slice 22, [.con (.slice none 0 0)], some (.sl (.sl (.int .u8)))⟩
theorem ti24_ok : TIok Try.prog 24 ti24 := TIok.mk1 (by kernel_rfl) (by kernel_rfl) (by kernel_rfl) (.inr rfl) (Try.underlying24) (⟨by kernel_rfl, by kernel_rfl, by kernel_rfl, by kernel_rfl⟩)
/-- struct { Lines [][]uint8; Edit []uint8 } -/
def ti25 : TI := ⟨2, 48, .struct [(0, 24), (1, 22)], [.con (.slice none 0 0), .con (.slice none 0 0)], some (.pair (.sl (.sl (.int .u8))) (.sl (.int .u8)))⟩
theorem ti25_ok : TIok Try.prog 25 ti25 := TIok.mk1 (by kernel_rfl) (by kernel_rfl) (by kernel_rfl) (.inl rfl) (⟨_, Try.underlying25, by kernel_rfl⟩) (⟨by kernel_rfl, by kernel_rfl, by kernel_rfl, by kernel_rfl⟩)
/-- api.Tty -/
def ti26 : TI := ⟨2, 48, .struct [(0, 24), (1, 22)], [.con (.slice none 0 0), .con (.slice none 0 0)], some (.pair (.sl (.sl (.int .u8))) (.sl (.int .u8)))⟩
theorem ti26_ok : TIok Try.prog 26 ti26 := TIok.mk1 (by kernel_rfl) (by kernel_rfl) (by kernel_rfl) (.inl rfl) (⟨_, Try.underlying26, by kernel_rfl⟩) (⟨by kernel_rfl, by kernel_rfl, by kernel_rfl, by kernel_rfl⟩)
/-- []api.WorkOp -/
def ti29 : TI := ⟨1, 24, .slice 88, [.con (.slice none 0 0)], some (.sl (.pair (.int .i64) (.int .i64)))⟩
theorem ti29_ok : TIok Try.prog 29 ti29 := TIok.mk1 (by kernel_rfl) (by kernel_rfl) (by kernel_rfl) (.inr rfl) (Try.underlying29) (⟨by kernel_rfl, by kernel_rfl, by kernel_rfl, by kernel_rfl⟩)
/-- []api.Errno -/
def ti30 : TI := ⟨1, 24, .slice 32, [.con (.slice none 0 0)], some (.sl (.int .i64))⟩
theorem ti30_ok : TIok Try.prog 30 ti30 := TIok.mk1 (by kernel_rfl) (by kernel_rfl) (by kernel_rfl) (.inr rfl) (Try.underlying30) (⟨by kernel_rfl, by kernel_rfl, by kernel_rfl, by kernel_rfl⟩)
/-- []int -/
def ti31 : TI := ⟨1, 24, .slice 3, [.con (.slice none 0 0)], some (.sl (.int .i64))⟩
theorem ti31_ok : TIok Try.prog 31 ti31 := TIok.mk1 (by kernel_rfl) (by kernel_rfl) (by kernel_rfl) (.inr rfl) (Try.underlying31) (⟨by kernel_rfl, by kernel_rfl, by kernel_rfl, by kernel_rfl⟩)
/-- api.Errno -/
def ti32 : TI := ⟨1, 8, .scalar (.int .i64), [.d (.int .i64) (0 : Int)], some (.int .i64)⟩
theorem ti32_ok : TIok Try.prog 32 ti32 := TIok.mk1 (by kernel_rfl) (by kernel_rfl) (by kernel_rfl) (.inr rfl) (⟨Try.underlying32, trivial⟩) (⟨by kernel_rfl, by kernel_rfl, by kernel_rfl, by kernel_rfl⟩)
/-- []api.FileOp -/
def ti44 : TI := ⟨1, 24, .slice 109, [.con (.slice none 0 0)], some (.sl (.pair (.int .i64) (.pair (.int .i64) (.pair (.int .i64) (.pair (.int .i64) (.pair (.int .i64) (.pair (.int .i64) (.int .i64))))))))⟩
theorem ti44_ok : TIok Try.prog 44 ti44 := TIok.mk1 (by kernel_rfl) (by kernel_rfl) (by kernel_rfl) (.inr rfl) (Try.underlying44) (⟨by kernel_rfl, by kernel_rfl, by kernel_rfl, by kernel_rfl⟩)
/-- []api.FileAns -/
def ti45 : TI := ⟨1, 24, .slice 52, [.con (.slice none 0 0)], some (.sl (.pair (.int .i64) (.int .i64)))⟩
theorem ti45_ok : TIok Try.prog 45 ti45 := TIok.mk1 (by kernel_rfl) (by kernel_rfl) (by kernel_rfl) (.inr rfl) (Try.underlying45) (⟨by kernel_rfl, by kernel_rfl, by kernel_rfl, by kernel_rfl⟩)
/-- [16]int -/
def ti46 : TI := ⟨16, 128, .arr 16 3, [.d (.arr 16 (.int .i64)) (List.replicate 16 (Ty.zero (.int .i64)))], some (.arr 16 (.int .i64))⟩
theorem ti46_ok : TIok Try.prog 46 ti46 := TIok.mk1 (by kernel_rfl) (by kernel_rfl) (by kernel_rfl) (.inl rfl) (Try.underlying46) (⟨by kernel_rfl, by kernel_rfl, by kernel_rfl, by kernel_rfl⟩)
/-- [4][16]int -/
def ti47 : TI := ⟨64, 512, .arr 4 46, [.d (.arr 4 (.arr 16 (.int .i64))) (List.replicate 4 (Ty.zero (.arr 16 (.int .i64))))], some (.arr 4 (.arr 16 (.int .i64)))⟩
theorem ti47_ok : TIok Try.prog 47 ti47 := TIok.mk1 (by kernel_rfl) (by kernel_rfl) (by kernel_rfl) (.inl rfl) (Try.underlying47) (⟨by kernel_rfl, by kernel_rfl, by kernel_rfl, by kernel_rfl⟩)
/-- struct { Err api.Errno; Value int } -/
def ti51 : TI := ⟨2, 16, .struct [(0, 32), (1, 3)], [.d (.int .i64) (0 : Int), .d (.int .i64) (0 : Int)], some (.pair (.int .i64) (.int .i64))⟩
theorem ti51_ok : TIok Try.prog 51 ti51 := TIok.mk1 (by kernel_rfl) (by kernel_rfl) (by kernel_rfl) (.inl rfl) (⟨_, Try.underlying51, by kernel_rfl⟩) (⟨by kernel_rfl, by kernel_rfl, by kernel_rfl, by kernel_rfl⟩)
/-- api.FileAns -/
def ti52 : TI := ⟨2, 16, .struct [(0, 32), (1, 3)], [.d (.int .i64) (0 : Int), .d (.int .i64) (0 : Int)], some (.pair (.int .i64) (.int .i64))⟩
theorem ti52_ok : TIok Try.prog 52 ti52 := TIok.mk1 (by kernel_rfl) (by kernel_rfl) (by kernel_rfl) (.inl rfl) (⟨_, Try.underlying52, by kernel_rfl⟩) (⟨by kernel_rfl, by kernel_rfl, by kernel_rfl, by kernel_rfl⟩)
/-- []api.RankOp -/
def ti54 : TI := ⟨1, 24, .slice 120, [.con (.slice none 0 0)], some (.sl (.pair (.int .i64) (.pair (.int .i64) (.int .i64))))⟩
theorem ti54_ok : TIok Try.prog 54 ti54 := TIok.mk1 (by kernel_rfl) (by kernel_rfl) (by kernel_rfl) (.inr rfl) (Try.underlying54) (⟨by kernel_rfl, by kernel_rfl, by kernel_rfl, by kernel_rfl⟩)
/-- []api.WaitOp -/
def ti58 : TI := ⟨1, 24, .slice 131, [.con (.slice none 0 0)], some (.sl (.pair (.int .i64) (.int .i64)))⟩
theorem ti58_ok : TIok Try.prog 58 ti58 := TIok.mk1 (by kernel_rfl) (by kernel_rfl) (by kernel_rfl) (.inr rfl) (Try.underlying58) (⟨by kernel_rfl, by kernel_rfl, by kernel_rfl, by kernel_rfl⟩)
/-- struct { Num int; Den int } -/
def ti62 : TI := ⟨2, 16, .struct [(0, 3), (1, 3)], [.d (.int .i64) (0 : Int), .d (.int .i64) (0 : Int)], some (.pair (.int .i64) (.int .i64))⟩
theorem ti62_ok : TIok Try.prog 62 ti62 := TIok.mk1 (by kernel_rfl) (by kernel_rfl) (by kernel_rfl) (.inl rfl) (⟨_, Try.underlying62, by kernel_rfl⟩) (⟨by kernel_rfl, by kernel_rfl, by kernel_rfl, by kernel_rfl⟩)
/-- api.Rate -/
def ti63 : TI := ⟨2, 16, .struct [(0, 3), (1, 3)], [.d (.int .i64) (0 : Int), .d (.int .i64) (0 : Int)], some (.pair (.int .i64) (.int .i64))⟩
theorem ti63_ok : TIok Try.prog 63 ti63 := TIok.mk1 (by kernel_rfl) (by kernel_rfl) (by kernel_rfl) (.inl rfl) (⟨_, Try.underlying63, by kernel_rfl⟩) (⟨by kernel_rfl, by kernel_rfl, by kernel_rfl, by kernel_rfl⟩)
/-- struct { Core []int; Most int } -/
def ti71 : TI := ⟨2, 32, .struct [(0, 31), (1, 3)], [.con (.slice none 0 0), .d (.int .i64) (0 : Int)], some (.pair (.sl (.int .i64)) (.int .i64))⟩
theorem ti71_ok : TIok Try.prog 71 ti71 := TIok.mk1 (by kernel_rfl) (by kernel_rfl) (by kernel_rfl) (.inl rfl) (⟨_, Try.underlying71, by kernel_rfl⟩) (⟨by kernel_rfl, by kernel_rfl, by kernel_rfl, by kernel_rfl⟩)
/-- api.Plan -/
def ti72 : TI := ⟨2, 32, .struct [(0, 31), (1, 3)], [.con (.slice none 0 0), .d (.int .i64) (0 : Int)], some (.pair (.sl (.int .i64)) (.int .i64))⟩
theorem ti72_ok : TIok Try.prog 72 ti72 := TIok.mk1 (by kernel_rfl) (by kernel_rfl) (by kernel_rfl) (.inl rfl) (⟨_, Try.underlying72, by kernel_rfl⟩) (⟨by kernel_rfl, by kernel_rfl, by kernel_rfl, by kernel_rfl⟩)
/-- []api.RunOp -/
def ti80 : TI := ⟨1, 24, .slice 152, [.con (.slice none 0 0)], some (.sl (.pair (.int .i64) (.pair (.int .i64) (.int .i64))))⟩
theorem ti80_ok : TIok Try.prog 80 ti80 := TIok.mk1 (by kernel_rfl) (by kernel_rfl) (by kernel_rfl) (.inr rfl) (Try.underlying80) (⟨by kernel_rfl, by kernel_rfl, by kernel_rfl, by kernel_rfl⟩)
/-- *work.queue -/
def ti84 : TI := ⟨1, 8, .scalar (.pointer 86), [.con (.pointer none)], none⟩
theorem ti84_ok : TIok Try.prog 84 ti84 := TIok.mk1 (by kernel_rfl) (by kernel_rfl) (by kernel_rfl) (.inr rfl) (⟨Try.underlying84, trivial⟩) (trivial)
/-- struct { waits []int; begun int; done []int } -/
def ti85 : TI := ⟨3, 56, .struct [(0, 31), (1, 3), (2, 31)], [.con (.slice none 0 0), .d (.int .i64) (0 : Int), .con (.slice none 0 0)], some (.pair (.sl (.int .i64)) (.pair (.int .i64) (.sl (.int .i64))))⟩
theorem ti85_ok : TIok Try.prog 85 ti85 := TIok.mk1 (by kernel_rfl) (by kernel_rfl) (by kernel_rfl) (.inl rfl) (⟨_, Try.underlying85, by kernel_rfl⟩) (⟨by kernel_rfl, by kernel_rfl, by kernel_rfl, by kernel_rfl⟩)
/-- work.queue -/
def ti86 : TI := ⟨3, 56, .struct [(0, 31), (1, 3), (2, 31)], [.con (.slice none 0 0), .d (.int .i64) (0 : Int), .con (.slice none 0 0)], some (.pair (.sl (.int .i64)) (.pair (.int .i64) (.sl (.int .i64))))⟩
theorem ti86_ok : TIok Try.prog 86 ti86 := TIok.mk1 (by kernel_rfl) (by kernel_rfl) (by kernel_rfl) (.inl rfl) (⟨_, Try.underlying86, by kernel_rfl⟩) (⟨by kernel_rfl, by kernel_rfl, by kernel_rfl, by kernel_rfl⟩)
/-- struct { Kind int; Item int } -/
def ti87 : TI := ⟨2, 16, .struct [(0, 3), (1, 3)], [.d (.int .i64) (0 : Int), .d (.int .i64) (0 : Int)], some (.pair (.int .i64) (.int .i64))⟩
theorem ti87_ok : TIok Try.prog 87 ti87 := TIok.mk1 (by kernel_rfl) (by kernel_rfl) (by kernel_rfl) (.inl rfl) (⟨_, Try.underlying87, by kernel_rfl⟩) (⟨by kernel_rfl, by kernel_rfl, by kernel_rfl, by kernel_rfl⟩)
/-- api.WorkOp -/
def ti88 : TI := ⟨2, 16, .struct [(0, 3), (1, 3)], [.d (.int .i64) (0 : Int), .d (.int .i64) (0 : Int)], some (.pair (.int .i64) (.int .i64))⟩
theorem ti88_ok : TIok Try.prog 88 ti88 := TIok.mk1 (by kernel_rfl) (by kernel_rfl) (by kernel_rfl) (.inl rfl) (⟨_, Try.underlying88, by kernel_rfl⟩) (⟨by kernel_rfl, by kernel_rfl, by kernel_rfl, by kernel_rfl⟩)
/-- *api.Tty -/
def ti93 : TI := ⟨1, 8, .scalar (.pointer 26), [.con (.pointer none)], none⟩
theorem ti93_ok : TIok Try.prog 93 ti93 := TIok.mk1 (by kernel_rfl) (by kernel_rfl) (by kernel_rfl) (.inr rfl) (⟨Try.underlying93, trivial⟩) (trivial)
/-- *files.state -/
def ti100 : TI := ⟨1, 8, .scalar (.pointer 104), [.con (.pointer none)], none⟩
theorem ti100_ok : TIok Try.prog 100 ti100 := TIok.mk1 (by kernel_rfl) (by kernel_rfl) (by kernel_rfl) (.inr rfl) (⟨Try.underlying100, trivial⟩) (trivial)
/-- *files.table -/
def ti101 : TI := ⟨1, 8, .scalar (.pointer 107), [.con (.pointer none)], none⟩
theorem ti101_ok : TIok Try.prog 101 ti101 := TIok.mk1 (by kernel_rfl) (by kernel_rfl) (by kernel_rfl) (.inr rfl) (⟨Try.underlying101, trivial⟩) (trivial)
/-- [4]*files.table -/
def ti102 : TI := ⟨4, 32, .arr 4 101, [.con (.pointer none), .con (.pointer none), .con (.pointer none), .con (.pointer none)], none⟩
theorem ti102_ok : TIok Try.prog 102 ti102 := TIok.mk1 (by kernel_rfl) (by kernel_rfl) (by kernel_rfl) (.inl rfl) (Try.underlying102) (trivial)
/-- struct { procs [4]*files.table } -/
def ti103 : TI := ⟨4, 32, .struct [(0, 102)], [.con (.pointer none), .con (.pointer none), .con (.pointer none), .con (.pointer none)], none⟩
theorem ti103_ok : TIok Try.prog 103 ti103 := TIok.mk1 (by kernel_rfl) (by kernel_rfl) (by kernel_rfl) (.inl rfl) (⟨_, Try.underlying103, by kernel_rfl⟩) (trivial)
/-- files.state -/
def ti104 : TI := ⟨4, 32, .struct [(0, 102)], [.con (.pointer none), .con (.pointer none), .con (.pointer none), .con (.pointer none)], none⟩
theorem ti104_ok : TIok Try.prog 104 ti104 := TIok.mk1 (by kernel_rfl) (by kernel_rfl) (by kernel_rfl) (.inl rfl) (⟨_, Try.underlying104, by kernel_rfl⟩) (trivial)
/-- *files.open -/
def ti105 : TI := ⟨1, 8, .scalar (.pointer 112), [.con (.pointer none)], none⟩
theorem ti105_ok : TIok Try.prog 105 ti105 := TIok.mk1 (by kernel_rfl) (by kernel_rfl) (by kernel_rfl) (.inr rfl) (⟨Try.underlying105, trivial⟩) (trivial)
/-- [16]*files.open -/
def ti106 : TI := ⟨16, 128, .arr 16 105, [.con (.pointer none), .con (.pointer none), .con (.pointer none), .con (.pointer none), .con (.pointer none), .con (.pointer none), .con (.pointer none), .con (.pointer none), .con (.pointer none), .con (.pointer none), .con (.pointer none), .con (.pointer none), .con (.pointer none), .con (.pointer none), .con (.pointer none), .con (.pointer none)], none⟩
theorem ti106_ok : TIok Try.prog 106 ti106 := TIok.mk1 (by kernel_rfl) (by kernel_rfl) (by kernel_rfl) (.inl rfl) (Try.underlying106) (trivial)
/-- files.table -/
def ti107 : TI := ⟨16, 128, .arr 16 105, [.con (.pointer none), .con (.pointer none), .con (.pointer none), .con (.pointer none), .con (.pointer none), .con (.pointer none), .con (.pointer none), .con (.pointer none), .con (.pointer none), .con (.pointer none), .con (.pointer none), .con (.pointer none), .con (.pointer none), .con (.pointer none), .con (.pointer none), .con (.pointer none)], none⟩
theorem ti107_ok : TIok Try.prog 107 ti107 := TIok.mk1 (by kernel_rfl) (by kernel_rfl) (by kernel_rfl) (.inl rfl) (Try.underlying107) (trivial)
/-- struct { Kind int; Proc int; Name int; Size int; Fd int; To int; Most int } -/
def ti108 : TI := ⟨7, 56, .struct [(0, 3), (1, 3), (2, 3), (3, 3), (4, 3), (5, 3), (6, 3)], [.d (.int .i64) (0 : Int), .d (.int .i64) (0 : Int), .d (.int .i64) (0 : Int), .d (.int .i64) (0 : Int), .d (.int .i64) (0 : Int), .d (.int .i64) (0 : Int), .d (.int .i64) (0 : Int)], some (.pair (.int .i64) (.pair (.int .i64) (.pair (.int .i64) (.pair (.int .i64) (.pair (.int .i64) (.pair (.int .i64) (.int .i64)))))))⟩
theorem ti108_ok : TIok Try.prog 108 ti108 := TIok.mk1 (by kernel_rfl) (by kernel_rfl) (by kernel_rfl) (.inl rfl) (⟨_, Try.underlying108, by kernel_rfl⟩) (⟨by kernel_rfl, by kernel_rfl, by kernel_rfl, by kernel_rfl⟩)
/-- api.FileOp -/
def ti109 : TI := ⟨7, 56, .struct [(0, 3), (1, 3), (2, 3), (3, 3), (4, 3), (5, 3), (6, 3)], [.d (.int .i64) (0 : Int), .d (.int .i64) (0 : Int), .d (.int .i64) (0 : Int), .d (.int .i64) (0 : Int), .d (.int .i64) (0 : Int), .d (.int .i64) (0 : Int), .d (.int .i64) (0 : Int)], some (.pair (.int .i64) (.pair (.int .i64) (.pair (.int .i64) (.pair (.int .i64) (.pair (.int .i64) (.pair (.int .i64) (.int .i64)))))))⟩
theorem ti109_ok : TIok Try.prog 109 ti109 := TIok.mk1 (by kernel_rfl) (by kernel_rfl) (by kernel_rfl) (.inl rfl) (⟨_, Try.underlying109, by kernel_rfl⟩) (⟨by kernel_rfl, by kernel_rfl, by kernel_rfl, by kernel_rfl⟩)
/-- struct { name int; size int; at int; refs int } -/
def ti111 : TI := ⟨4, 32, .struct [(0, 3), (1, 3), (2, 3), (3, 3)], [.d (.int .i64) (0 : Int), .d (.int .i64) (0 : Int), .d (.int .i64) (0 : Int), .d (.int .i64) (0 : Int)], some (.pair (.int .i64) (.pair (.int .i64) (.pair (.int .i64) (.int .i64))))⟩
theorem ti111_ok : TIok Try.prog 111 ti111 := TIok.mk1 (by kernel_rfl) (by kernel_rfl) (by kernel_rfl) (.inl rfl) (⟨_, Try.underlying111, by kernel_rfl⟩) (⟨by kernel_rfl, by kernel_rfl, by kernel_rfl, by kernel_rfl⟩)
/-- files.open -/
def ti112 : TI := ⟨4, 32, .struct [(0, 3), (1, 3), (2, 3), (3, 3)], [.d (.int .i64) (0 : Int), .d (.int .i64) (0 : Int), .d (.int .i64) (0 : Int), .d (.int .i64) (0 : Int)], some (.pair (.int .i64) (.pair (.int .i64) (.pair (.int .i64) (.int .i64))))⟩
theorem ti112_ok : TIok Try.prog 112 ti112 := TIok.mk1 (by kernel_rfl) (by kernel_rfl) (by kernel_rfl) (.inl rfl) (⟨_, Try.underlying112, by kernel_rfl⟩) (⟨by kernel_rfl, by kernel_rfl, by kernel_rfl, by kernel_rfl⟩)
/-- [4]bool -/
def ti113 : TI := ⟨4, 4, .arr 4 4, [.d (.arr 4 (.bool)) (List.replicate 4 (Ty.zero (.bool)))], some (.arr 4 (.bool))⟩
theorem ti113_ok : TIok Try.prog 113 ti113 := TIok.mk1 (by kernel_rfl) (by kernel_rfl) (by kernel_rfl) (.inl rfl) (Try.underlying113) (⟨by kernel_rfl, by kernel_rfl, by kernel_rfl, by kernel_rfl⟩)
/-- *rank.state -/
def ti115 : TI := ⟨1, 8, .scalar (.pointer 118), [.con (.pointer none)], none⟩
theorem ti115_ok : TIok Try.prog 115 ti115 := TIok.mk1 (by kernel_rfl) (by kernel_rfl) (by kernel_rfl) (.inr rfl) (⟨Try.underlying115, trivial⟩) (trivial)
/-- struct { holder []int; waits []int } -/
def ti117 : TI := ⟨2, 48, .struct [(0, 31), (1, 31)], [.con (.slice none 0 0), .con (.slice none 0 0)], some (.pair (.sl (.int .i64)) (.sl (.int .i64)))⟩
theorem ti117_ok : TIok Try.prog 117 ti117 := TIok.mk1 (by kernel_rfl) (by kernel_rfl) (by kernel_rfl) (.inl rfl) (⟨_, Try.underlying117, by kernel_rfl⟩) (⟨by kernel_rfl, by kernel_rfl, by kernel_rfl, by kernel_rfl⟩)
/-- rank.state -/
def ti118 : TI := ⟨2, 48, .struct [(0, 31), (1, 31)], [.con (.slice none 0 0), .con (.slice none 0 0)], some (.pair (.sl (.int .i64)) (.sl (.int .i64)))⟩
theorem ti118_ok : TIok Try.prog 118 ti118 := TIok.mk1 (by kernel_rfl) (by kernel_rfl) (by kernel_rfl) (.inl rfl) (⟨_, Try.underlying118, by kernel_rfl⟩) (⟨by kernel_rfl, by kernel_rfl, by kernel_rfl, by kernel_rfl⟩)
/-- struct { Kind int; Thread int; Lock int } -/
def ti119 : TI := ⟨3, 24, .struct [(0, 3), (1, 3), (2, 3)], [.d (.int .i64) (0 : Int), .d (.int .i64) (0 : Int), .d (.int .i64) (0 : Int)], some (.pair (.int .i64) (.pair (.int .i64) (.int .i64)))⟩
theorem ti119_ok : TIok Try.prog 119 ti119 := TIok.mk1 (by kernel_rfl) (by kernel_rfl) (by kernel_rfl) (.inl rfl) (⟨_, Try.underlying119, by kernel_rfl⟩) (⟨by kernel_rfl, by kernel_rfl, by kernel_rfl, by kernel_rfl⟩)
/-- api.RankOp -/
def ti120 : TI := ⟨3, 24, .struct [(0, 3), (1, 3), (2, 3)], [.d (.int .i64) (0 : Int), .d (.int .i64) (0 : Int), .d (.int .i64) (0 : Int)], some (.pair (.int .i64) (.pair (.int .i64) (.int .i64)))⟩
theorem ti120_ok : TIok Try.prog 120 ti120 := TIok.mk1 (by kernel_rfl) (by kernel_rfl) (by kernel_rfl) (.inl rfl) (⟨_, Try.underlying120, by kernel_rfl⟩) (⟨by kernel_rfl, by kernel_rfl, by kernel_rfl, by kernel_rfl⟩)
/-- map[int]int -/
def ti122 : TI := ⟨1, 8, .scalar (.map 3 3), [.con (.map none)], none⟩
theorem ti122_ok : TIok Try.prog 122 ti122 := TIok.mk1 (by kernel_rfl) (by kernel_rfl) (by kernel_rfl) (.inr rfl) (⟨Try.underlying122, trivial⟩) (trivial)
/-- *wait.queue -/
def ti126 : TI := ⟨1, 8, .scalar (.pointer 129), [.con (.pointer none)], none⟩
theorem ti126_ok : TIok Try.prog 126 ti126 := TIok.mk1 (by kernel_rfl) (by kernel_rfl) (by kernel_rfl) (.inr rfl) (⟨Try.underlying126, trivial⟩) (trivial)
/-- map[int]bool -/
def ti127 : TI := ⟨1, 8, .scalar (.map 3 4), [.con (.map none)], none⟩
theorem ti127_ok : TIok Try.prog 127 ti127 := TIok.mk1 (by kernel_rfl) (by kernel_rfl) (by kernel_rfl) (.inr rfl) (⟨Try.underlying127, trivial⟩) (trivial)
/-- struct { things int; line []int; woken map[int]bool; sleeps map[int]bool; got []int } -/
def ti128 : TI := ⟨5, 72, .struct [(0, 3), (1, 31), (2, 127), (3, 127), (4, 31)], [.d (.int .i64) (0 : Int), .con (.slice none 0 0), .con (.map none), .con (.map none), .con (.slice none 0 0)], none⟩
theorem ti128_ok : TIok Try.prog 128 ti128 := TIok.mk1 (by kernel_rfl) (by kernel_rfl) (by kernel_rfl) (.inl rfl) (⟨_, Try.underlying128, by kernel_rfl⟩) (trivial)
/-- wait.queue -/
def ti129 : TI := ⟨5, 72, .struct [(0, 3), (1, 31), (2, 127), (3, 127), (4, 31)], [.d (.int .i64) (0 : Int), .con (.slice none 0 0), .con (.map none), .con (.map none), .con (.slice none 0 0)], none⟩
theorem ti129_ok : TIok Try.prog 129 ti129 := TIok.mk1 (by kernel_rfl) (by kernel_rfl) (by kernel_rfl) (.inl rfl) (⟨_, Try.underlying129, by kernel_rfl⟩) (trivial)
/-- struct { Kind int; Thread int } -/
def ti130 : TI := ⟨2, 16, .struct [(0, 3), (1, 3)], [.d (.int .i64) (0 : Int), .d (.int .i64) (0 : Int)], some (.pair (.int .i64) (.int .i64))⟩
theorem ti130_ok : TIok Try.prog 130 ti130 := TIok.mk1 (by kernel_rfl) (by kernel_rfl) (by kernel_rfl) (.inl rfl) (⟨_, Try.underlying130, by kernel_rfl⟩) (⟨by kernel_rfl, by kernel_rfl, by kernel_rfl, by kernel_rfl⟩)
/-- api.WaitOp -/
def ti131 : TI := ⟨2, 16, .struct [(0, 3), (1, 3)], [.d (.int .i64) (0 : Int), .d (.int .i64) (0 : Int)], some (.pair (.int .i64) (.int .i64))⟩
theorem ti131_ok : TIok Try.prog 131 ti131 := TIok.mk1 (by kernel_rfl) (by kernel_rfl) (by kernel_rfl) (.inl rfl) (⟨_, Try.underlying131, by kernel_rfl⟩) (⟨by kernel_rfl, by kernel_rfl, by kernel_rfl, by kernel_rfl⟩)
/-- []corebellref.owaits -/
def ti135 : TI := ⟨1, 24, .slice 137, [.con (.slice none 0 0)], some (.sl (.pair (.int .i64) (.int .i64)))⟩
theorem ti135_ok : TIok Try.prog 135 ti135 := TIok.mk1 (by kernel_rfl) (by kernel_rfl) (by kernel_rfl) (.inr rfl) (Try.underlying135) (⟨by kernel_rfl, by kernel_rfl, by kernel_rfl, by kernel_rfl⟩)
/-- struct { thread int; state int } -/
def ti136 : TI := ⟨2, 16, .struct [(0, 3), (1, 3)], [.d (.int .i64) (0 : Int), .d (.int .i64) (0 : Int)], some (.pair (.int .i64) (.int .i64))⟩
theorem ti136_ok : TIok Try.prog 136 ti136 := TIok.mk1 (by kernel_rfl) (by kernel_rfl) (by kernel_rfl) (.inl rfl) (⟨_, Try.underlying136, by kernel_rfl⟩) (⟨by kernel_rfl, by kernel_rfl, by kernel_rfl, by kernel_rfl⟩)
/-- corebellref.owaits -/
def ti137 : TI := ⟨2, 16, .struct [(0, 3), (1, 3)], [.d (.int .i64) (0 : Int), .d (.int .i64) (0 : Int)], some (.pair (.int .i64) (.int .i64))⟩
theorem ti137_ok : TIok Try.prog 137 ti137 := TIok.mk1 (by kernel_rfl) (by kernel_rfl) (by kernel_rfl) (.inl rfl) (⟨_, Try.underlying137, by kernel_rfl⟩) (⟨by kernel_rfl, by kernel_rfl, by kernel_rfl, by kernel_rfl⟩)
/-- uint64 -/
def ti139 : TI := ⟨1, 8, .scalar (.int .u64), [.d (.int .u64) (0 : Int)], some (.int .u64)⟩
theorem ti139_ok : TIok Try.prog 139 ti139 := TIok.mk1 (by kernel_rfl) (by kernel_rfl) (by kernel_rfl) (.inr rfl) (⟨Try.underlying139, trivial⟩) (⟨by kernel_rfl, by kernel_rfl, by kernel_rfl, by kernel_rfl⟩)
/-- *runq.queue -/
def ti146 : TI := ⟨1, 8, .scalar (.pointer 150), [.con (.pointer none)], none⟩
theorem ti146_ok : TIok Try.prog 146 ti146 := TIok.mk1 (by kernel_rfl) (by kernel_rfl) (by kernel_rfl) (.inr rfl) (⟨Try.underlying146, trivial⟩) (trivial)
/-- uint32 -/
def ti147 : TI := ⟨1, 4, .scalar (.int .u32), [.d (.int .u32) (0 : Int)], some (.int .u32)⟩
theorem ti147_ok : TIok Try.prog 147 ti147 := TIok.mk1 (by kernel_rfl) (by kernel_rfl) (by kernel_rfl) (.inr rfl) (⟨Try.underlying147, trivial⟩) (⟨by kernel_rfl, by kernel_rfl, by kernel_rfl, by kernel_rfl⟩)
/-- [32][]int -/
def ti148 : TI := ⟨32, 768, .arr 32 31, [.d (.arr 32 (.sl (.int .i64))) (List.replicate 32 (Ty.zero (.sl (.int .i64))))], some (.arr 32 (.sl (.int .i64)))⟩
theorem ti148_ok : TIok Try.prog 148 ti148 := TIok.mk1 (by kernel_rfl) (by kernel_rfl) (by kernel_rfl) (.inl rfl) (Try.underlying148) (⟨by kernel_rfl, by kernel_rfl, by kernel_rfl, by kernel_rfl⟩)
/-- struct { some uint32; lists [32][]int; at map[int]int } -/
def ti149 : TI := ⟨34, 784, .struct [(0, 147), (1, 148), (33, 122)], [.d (.int .u32) (0 : Int), .d (.arr 32 (.sl (.int .i64))) (List.replicate 32 (Ty.zero (.sl (.int .i64)))), .con (.map none)], none⟩
theorem ti149_ok : TIok Try.prog 149 ti149 := TIok.mk1 (by kernel_rfl) (by kernel_rfl) (by kernel_rfl) (.inl rfl) (⟨_, Try.underlying149, by kernel_rfl⟩) (trivial)
/-- runq.queue -/
def ti150 : TI := ⟨34, 784, .struct [(0, 147), (1, 148), (33, 122)], [.d (.int .u32) (0 : Int), .d (.arr 32 (.sl (.int .i64))) (List.replicate 32 (Ty.zero (.sl (.int .i64)))), .con (.map none)], none⟩
theorem ti150_ok : TIok Try.prog 150 ti150 := TIok.mk1 (by kernel_rfl) (by kernel_rfl) (by kernel_rfl) (.inl rfl) (⟨_, Try.underlying150, by kernel_rfl⟩) (trivial)
/-- struct { Kind int; Id int; Level int } -/
def ti151 : TI := ⟨3, 24, .struct [(0, 3), (1, 3), (2, 3)], [.d (.int .i64) (0 : Int), .d (.int .i64) (0 : Int), .d (.int .i64) (0 : Int)], some (.pair (.int .i64) (.pair (.int .i64) (.int .i64)))⟩
theorem ti151_ok : TIok Try.prog 151 ti151 := TIok.mk1 (by kernel_rfl) (by kernel_rfl) (by kernel_rfl) (.inl rfl) (⟨_, Try.underlying151, by kernel_rfl⟩) (⟨by kernel_rfl, by kernel_rfl, by kernel_rfl, by kernel_rfl⟩)
/-- api.RunOp -/
def ti152 : TI := ⟨3, 24, .struct [(0, 3), (1, 3), (2, 3)], [.d (.int .i64) (0 : Int), .d (.int .i64) (0 : Int), .d (.int .i64) (0 : Int)], some (.pair (.int .i64) (.pair (.int .i64) (.int .i64)))⟩
theorem ti152_ok : TIok Try.prog 152 ti152 := TIok.mk1 (by kernel_rfl) (by kernel_rfl) (by kernel_rfl) (.inl rfl) (⟨_, Try.underlying152, by kernel_rfl⟩) (⟨by kernel_rfl, by kernel_rfl, by kernel_rfl, by kernel_rfl⟩)
/-- []corebellref.one -/
def ti154 : TI := ⟨1, 24, .slice 157, [.con (.slice none 0 0)], some (.sl (.pair (.int .i64) (.int .i64)))⟩
theorem ti154_ok : TIok Try.prog 154 ti154 := TIok.mk1 (by kernel_rfl) (by kernel_rfl) (by kernel_rfl) (.inr rfl) (Try.underlying154) (⟨by kernel_rfl, by kernel_rfl, by kernel_rfl, by kernel_rfl⟩)
/-- struct { id int; level int } -/
def ti156 : TI := ⟨2, 16, .struct [(0, 3), (1, 3)], [.d (.int .i64) (0 : Int), .d (.int .i64) (0 : Int)], some (.pair (.int .i64) (.int .i64))⟩
theorem ti156_ok : TIok Try.prog 156 ti156 := TIok.mk1 (by kernel_rfl) (by kernel_rfl) (by kernel_rfl) (.inl rfl) (⟨_, Try.underlying156, by kernel_rfl⟩) (⟨by kernel_rfl, by kernel_rfl, by kernel_rfl, by kernel_rfl⟩)
/-- corebellref.one -/
def ti157 : TI := ⟨2, 16, .struct [(0, 3), (1, 3)], [.d (.int .i64) (0 : Int), .d (.int .i64) (0 : Int)], some (.pair (.int .i64) (.int .i64))⟩
theorem ti157_ok : TIok Try.prog 157 ti157 := TIok.mk1 (by kernel_rfl) (by kernel_rfl) (by kernel_rfl) (.inl rfl) (⟨_, Try.underlying157, by kernel_rfl⟩) (⟨by kernel_rfl, by kernel_rfl, by kernel_rfl, by kernel_rfl⟩)
/-- uint -/
def ti170 : TI := ⟨1, 8, .scalar (.int .u64), [.d (.int .u64) (0 : Int)], some (.int .u64)⟩
theorem ti170_ok : TIok Try.prog 170 ti170 := TIok.mk1 (by kernel_rfl) (by kernel_rfl) (by kernel_rfl) (.inr rfl) (⟨Try.underlying170, trivial⟩) (⟨by kernel_rfl, by kernel_rfl, by kernel_rfl, by kernel_rfl⟩)
/-- *errors.errorString -/
def ti192 : TI := ⟨1, 8, .scalar (.pointer 209), [.con (.pointer none)], none⟩
theorem ti192_ok : TIok Try.prog 192 ti192 := TIok.mk1 (by kernel_rfl) (by kernel_rfl) (by kernel_rfl) (.inr rfl) (⟨Try.underlying192, trivial⟩) (trivial)
/-- struct { _interface *abi.Type; concrete *abi.Type; asserted *abi.Type; missingMethod string } -/
def ti194 : TI := ⟨4, 40, .struct [(0, 17), (1, 17), (2, 17), (3, 9)], [.con (.pointer none), .con (.pointer none), .con (.pointer none), .d .str ([] : List Int)], none⟩
theorem ti194_ok : TIok Try.prog 194 ti194 := TIok.mk1 (by kernel_rfl) (by kernel_rfl) (by kernel_rfl) (.inl rfl) (⟨_, Try.underlying194, by kernel_rfl⟩) (trivial)
/-- runtime.TypeAssertionError -/
def ti195 : TI := ⟨4, 40, .struct [(0, 17), (1, 17), (2, 17), (3, 9)], [.con (.pointer none), .con (.pointer none), .con (.pointer none), .d .str ([] : List Int)], none⟩
theorem ti195_ok : TIok Try.prog 195 ti195 := TIok.mk1 (by kernel_rfl) (by kernel_rfl) (by kernel_rfl) (.inl rfl) (⟨_, Try.underlying195, by kernel_rfl⟩) (trivial)
/-- abi.TFlag -/
def ti200 : TI := ⟨1, 1, .scalar (.int .u8), [.d (.int .u8) (0 : Int)], some (.int .u8)⟩
theorem ti200_ok : TIok Try.prog 200 ti200 := TIok.mk1 (by kernel_rfl) (by kernel_rfl) (by kernel_rfl) (.inr rfl) (⟨Try.underlying200, trivial⟩) (⟨by kernel_rfl, by kernel_rfl, by kernel_rfl, by kernel_rfl⟩)
/-- abi.Kind -/
def ti201 : TI := ⟨1, 1, .scalar (.int .u8), [.d (.int .u8) (0 : Int)], some (.int .u8)⟩
theorem ti201_ok : TIok Try.prog 201 ti201 := TIok.mk1 (by kernel_rfl) (by kernel_rfl) (by kernel_rfl) (.inr rfl) (⟨Try.underlying201, trivial⟩) (⟨by kernel_rfl, by kernel_rfl, by kernel_rfl, by kernel_rfl⟩)
/-- *uint8 -/
def ti203 : TI := ⟨1, 8, .scalar (.pointer 5), [.con (.pointer none)], none⟩
theorem ti203_ok : TIok Try.prog 203 ti203 := TIok.mk1 (by kernel_rfl) (by kernel_rfl) (by kernel_rfl) (.inr rfl) (⟨Try.underlying203, trivial⟩) (trivial)
/-- abi.NameOff -/
def ti204 : TI := ⟨1, 4, .scalar (.int .i32), [.d (.int .i32) (0 : Int)], some (.int .i32)⟩
theorem ti204_ok : TIok Try.prog 204 ti204 := TIok.mk1 (by kernel_rfl) (by kernel_rfl) (by kernel_rfl) (.inr rfl) (⟨Try.underlying204, trivial⟩) (⟨by kernel_rfl, by kernel_rfl, by kernel_rfl, by kernel_rfl⟩)
/-- abi.TypeOff -/
def ti205 : TI := ⟨1, 4, .scalar (.int .i32), [.d (.int .i32) (0 : Int)], some (.int .i32)⟩
theorem ti205_ok : TIok Try.prog 205 ti205 := TIok.mk1 (by kernel_rfl) (by kernel_rfl) (by kernel_rfl) (.inr rfl) (⟨Try.underlying205, trivial⟩) (⟨by kernel_rfl, by kernel_rfl, by kernel_rfl, by kernel_rfl⟩)
/-- struct { s string } -/
def ti208 : TI := ⟨1, 16, .struct [(0, 9)], [.d .str ([] : List Int)], none⟩
theorem ti208_ok : TIok Try.prog 208 ti208 := TIok.mk1 (by kernel_rfl) (by kernel_rfl) (by kernel_rfl) (.inl rfl) (⟨_, Try.underlying208, by kernel_rfl⟩) (trivial)
/-- errors.errorString -/
def ti209 : TI := ⟨1, 16, .struct [(0, 9)], [.d .str ([] : List Int)], none⟩
theorem ti209_ok : TIok Try.prog 209 ti209 := TIok.mk1 (by kernel_rfl) (by kernel_rfl) (by kernel_rfl) (.inl rfl) (⟨_, Try.underlying209, by kernel_rfl⟩) (trivial)
theorem eq46_ok : EqTy Try.prog 46 (.arr 16 (.int .i64)) := ⟨(Exists.intro 3 (And.intro Try.underlying46 (And.intro (by kernel_rfl) (And.intro (by kernel_rfl) Try.underlying3)))), rfl, rfl, by kernel_rfl, by kernel_rfl⟩
theorem eq47_ok : EqTy Try.prog 47 (.arr 4 (.arr 16 (.int .i64))) := ⟨(Exists.intro 46 (And.intro Try.underlying47 (And.intro (by kernel_rfl) (And.intro (by kernel_rfl) (Exists.intro 3 (And.intro Try.underlying46 (And.intro (by kernel_rfl) (And.intro (by kernel_rfl) Try.underlying3)))))))), rfl, rfl, by kernel_rfl, by kernel_rfl⟩
theorem eq52_ok : EqTy Try.prog 52 (.pair (.int .i64) (.int .i64)) := ⟨(Exists.intro _ (And.intro Try.underlying52 (And.intro (by kernel_rfl) (And.intro (by kernel_rfl) (And.intro (by kernel_rfl) (And.intro Try.underlying32 (And.intro (by kernel_rfl) (And.intro (by kernel_rfl) Try.underlying3)))))))), rfl, rfl, by kernel_rfl, by kernel_rfl⟩
theorem eq63_ok : EqTy Try.prog 63 (.pair (.int .i64) (.int .i64)) := ⟨(Exists.intro _ (And.intro Try.underlying63 (And.intro (by kernel_rfl) (And.intro (by kernel_rfl) (And.intro (by kernel_rfl) (And.intro Try.underlying3 (And.intro (by kernel_rfl) (And.intro (by kernel_rfl) Try.underlying3)))))))), rfl, rfl, by kernel_rfl, by kernel_rfl⟩
theorem eq88_ok : EqTy Try.prog 88 (.pair (.int .i64) (.int .i64)) := ⟨(Exists.intro _ (And.intro Try.underlying88 (And.intro (by kernel_rfl) (And.intro (by kernel_rfl) (And.intro (by kernel_rfl) (And.intro Try.underlying3 (And.intro (by kernel_rfl) (And.intro (by kernel_rfl) Try.underlying3)))))))), rfl, rfl, by kernel_rfl, by kernel_rfl⟩
theorem eq109_ok : EqTy Try.prog 109 (.pair (.int .i64) (.pair (.int .i64) (.pair (.int .i64) (.pair (.int .i64) (.pair (.int .i64) (.pair (.int .i64) (.int .i64))))))) := ⟨(Exists.intro _ (And.intro Try.underlying109 (And.intro (by kernel_rfl) (And.intro (by kernel_rfl) (And.intro (by kernel_rfl) (And.intro Try.underlying3 (And.intro (by kernel_rfl) (And.intro (by kernel_rfl) (And.intro Try.underlying3 (And.intro (by kernel_rfl) (And.intro (by kernel_rfl) (And.intro Try.underlying3 (And.intro (by kernel_rfl) (And.intro (by kernel_rfl) (And.intro Try.underlying3 (And.intro (by kernel_rfl) (And.intro (by kernel_rfl) (And.intro Try.underlying3 (And.intro (by kernel_rfl) (And.intro (by kernel_rfl) (And.intro Try.underlying3 (And.intro (by kernel_rfl) (And.intro (by kernel_rfl) Try.underlying3))))))))))))))))))))))), rfl, rfl, by kernel_rfl, by kernel_rfl⟩
theorem eq112_ok : EqTy Try.prog 112 (.pair (.int .i64) (.pair (.int .i64) (.pair (.int .i64) (.int .i64)))) := ⟨(Exists.intro _ (And.intro Try.underlying112 (And.intro (by kernel_rfl) (And.intro (by kernel_rfl) (And.intro (by kernel_rfl) (And.intro Try.underlying3 (And.intro (by kernel_rfl) (And.intro (by kernel_rfl) (And.intro Try.underlying3 (And.intro (by kernel_rfl) (And.intro (by kernel_rfl) (And.intro Try.underlying3 (And.intro (by kernel_rfl) (And.intro (by kernel_rfl) Try.underlying3)))))))))))))), rfl, rfl, by kernel_rfl, by kernel_rfl⟩
theorem eq113_ok : EqTy Try.prog 113 (.arr 4 (.bool)) := ⟨(Exists.intro 4 (And.intro Try.underlying113 (And.intro (by kernel_rfl) (And.intro (by kernel_rfl) Try.underlying4)))), rfl, rfl, by kernel_rfl, by kernel_rfl⟩
theorem eq120_ok : EqTy Try.prog 120 (.pair (.int .i64) (.pair (.int .i64) (.int .i64))) := ⟨(Exists.intro _ (And.intro Try.underlying120 (And.intro (by kernel_rfl) (And.intro (by kernel_rfl) (And.intro (by kernel_rfl) (And.intro Try.underlying3 (And.intro (by kernel_rfl) (And.intro (by kernel_rfl) (And.intro Try.underlying3 (And.intro (by kernel_rfl) (And.intro (by kernel_rfl) Try.underlying3))))))))))), rfl, rfl, by kernel_rfl, by kernel_rfl⟩
theorem eq131_ok : EqTy Try.prog 131 (.pair (.int .i64) (.int .i64)) := ⟨(Exists.intro _ (And.intro Try.underlying131 (And.intro (by kernel_rfl) (And.intro (by kernel_rfl) (And.intro (by kernel_rfl) (And.intro Try.underlying3 (And.intro (by kernel_rfl) (And.intro (by kernel_rfl) Try.underlying3)))))))), rfl, rfl, by kernel_rfl, by kernel_rfl⟩
theorem eq137_ok : EqTy Try.prog 137 (.pair (.int .i64) (.int .i64)) := ⟨(Exists.intro _ (And.intro Try.underlying137 (And.intro (by kernel_rfl) (And.intro (by kernel_rfl) (And.intro (by kernel_rfl) (And.intro Try.underlying3 (And.intro (by kernel_rfl) (And.intro (by kernel_rfl) Try.underlying3)))))))), rfl, rfl, by kernel_rfl, by kernel_rfl⟩
theorem eq152_ok : EqTy Try.prog 152 (.pair (.int .i64) (.pair (.int .i64) (.int .i64))) := ⟨(Exists.intro _ (And.intro Try.underlying152 (And.intro (by kernel_rfl) (And.intro (by kernel_rfl) (And.intro (by kernel_rfl) (And.intro Try.underlying3 (And.intro (by kernel_rfl) (And.intro (by kernel_rfl) (And.intro Try.underlying3 (And.intro (by kernel_rfl) (And.intro (by kernel_rfl) Try.underlying3))))))))))), rfl, rfl, by kernel_rfl, by kernel_rfl⟩
theorem eq157_ok : EqTy Try.prog 157 (.pair (.int .i64) (.int .i64)) := ⟨(Exists.intro _ (And.intro Try.underlying157 (And.intro (by kernel_rfl) (And.intro (by kernel_rfl) (And.intro (by kernel_rfl) (And.intro Try.underlying3 (And.intro (by kernel_rfl) (And.intro (by kernel_rfl) Try.underlying3)))))))), rfl, rfl, by kernel_rfl, by kernel_rfl⟩
def env : Env := { tys := [(2, ti2), (3, ti3), (4, ti4), (5, ti5), (6, ti6), (7, ti7), (8, ti8), (9, ti9), (10, ti10), (11, ti11), (12, ti12), (13, ti13), (14, ti14), (15, ti15), (16, ti16), (17, ti17), (18, ti18), (19, ti19), (21, ti21), (22, ti22), (24, ti24), (25, ti25), (26, ti26), (29, ti29), (30, ti30), (31, ti31), (32, ti32), (44, ti44), (45, ti45), (46, ti46), (47, ti47), (51, ti51), (52, ti52), (54, ti54), (58, ti58), (62, ti62), (63, ti63), (71, ti71), (72, ti72), (80, ti80), (84, ti84), (85, ti85), (86, ti86), (87, ti87), (88, ti88), (93, ti93), (100, ti100), (101, ti101), (102, ti102), (103, ti103), (104, ti104), (105, ti105), (106, ti106), (107, ti107), (108, ti108), (109, ti109), (111, ti111), (112, ti112), (113, ti113), (115, ti115), (117, ti117), (118, ti118), (119, ti119), (120, ti120), (122, ti122), (126, ti126), (127, ti127), (128, ti128), (129, ti129), (130, ti130), (131, ti131), (135, ti135), (136, ti136), (137, ti137), (139, ti139), (146, ti146), (147, ti147), (148, ti148), (149, ti149), (150, ti150), (151, ti151), (152, ti152), (154, ti154), (156, ti156), (157, ti157), (170, ti170), (192, ti192), (194, ti194), (195, ti195), (200, ti200), (201, ti201), (203, ti203), (204, ti204), (205, ti205), (208, ti208), (209, ti209)], eqs := [(46, .arr 16 (.int .i64)), (47, .arr 4 (.arr 16 (.int .i64))), (52, .pair (.int .i64) (.int .i64)), (63, .pair (.int .i64) (.int .i64)), (88, .pair (.int .i64) (.int .i64)), (109, .pair (.int .i64) (.pair (.int .i64) (.pair (.int .i64) (.pair (.int .i64) (.pair (.int .i64) (.pair (.int .i64) (.int .i64))))))), (112, .pair (.int .i64) (.pair (.int .i64) (.pair (.int .i64) (.int .i64)))), (113, .arr 4 (.bool)), (120, .pair (.int .i64) (.pair (.int .i64) (.int .i64))), (131, .pair (.int .i64) (.int .i64)), (137, .pair (.int .i64) (.int .i64)), (152, .pair (.int .i64) (.pair (.int .i64) (.int .i64))), (157, .pair (.int .i64) (.int .i64))] }
theorem env_ok : EnvOk Try.prog env := envOk_of_all (E := env) ⟨ti2_ok, ⟨ti3_ok, ⟨ti4_ok, ⟨ti5_ok, ⟨ti6_ok, ⟨ti7_ok, ⟨ti8_ok, ⟨ti9_ok, ⟨ti10_ok, ⟨ti11_ok, ⟨ti12_ok, ⟨ti13_ok, ⟨ti14_ok, ⟨ti15_ok, ⟨ti16_ok, ⟨ti17_ok, ⟨ti18_ok, ⟨ti19_ok, ⟨ti21_ok, ⟨ti22_ok, ⟨ti24_ok, ⟨ti25_ok, ⟨ti26_ok, ⟨ti29_ok, ⟨ti30_ok, ⟨ti31_ok, ⟨ti32_ok, ⟨ti44_ok, ⟨ti45_ok, ⟨ti46_ok, ⟨ti47_ok, ⟨ti51_ok, ⟨ti52_ok, ⟨ti54_ok, ⟨ti58_ok, ⟨ti62_ok, ⟨ti63_ok, ⟨ti71_ok, ⟨ti72_ok, ⟨ti80_ok, ⟨ti84_ok, ⟨ti85_ok, ⟨ti86_ok, ⟨ti87_ok, ⟨ti88_ok, ⟨ti93_ok, ⟨ti100_ok, ⟨ti101_ok, ⟨ti102_ok, ⟨ti103_ok, ⟨ti104_ok, ⟨ti105_ok, ⟨ti106_ok, ⟨ti107_ok, ⟨ti108_ok, ⟨ti109_ok, ⟨ti111_ok, ⟨ti112_ok, ⟨ti113_ok, ⟨ti115_ok, ⟨ti117_ok, ⟨ti118_ok, ⟨ti119_ok, ⟨ti120_ok, ⟨ti122_ok, ⟨ti126_ok, ⟨ti127_ok, ⟨ti128_ok, ⟨ti129_ok, ⟨ti130_ok, ⟨ti131_ok, ⟨ti135_ok, ⟨ti136_ok, ⟨ti137_ok, ⟨ti139_ok, ⟨ti146_ok, ⟨ti147_ok, ⟨ti148_ok, ⟨ti149_ok, ⟨ti150_ok, ⟨ti151_ok, ⟨ti152_ok, ⟨ti154_ok, ⟨ti156_ok, ⟨ti157_ok, ⟨ti170_ok, ⟨ti192_ok, ⟨ti194_ok, ⟨ti195_ok, ⟨ti200_ok, ⟨ti201_ok, ⟨ti203_ok, ⟨ti204_ok, ⟨ti205_ok, ⟨ti208_ok, ⟨ti209_ok, trivial⟩⟩⟩⟩⟩⟩⟩⟩⟩⟩⟩⟩⟩⟩⟩⟩⟩⟩⟩⟩⟩⟩⟩⟩⟩⟩⟩⟩⟩⟩⟩⟩⟩⟩⟩⟩⟩⟩⟩⟩⟩⟩⟩⟩⟩⟩⟩⟩⟩⟩⟩⟩⟩⟩⟩⟩⟩⟩⟩⟩⟩⟩⟩⟩⟩⟩⟩⟩⟩⟩⟩⟩⟩⟩⟩⟩⟩⟩⟩⟩⟩⟩⟩⟩⟩⟩⟩⟩⟩⟩⟩⟩⟩⟩⟩⟩ ⟨eq46_ok, ⟨eq47_ok, ⟨eq52_ok, ⟨eq63_ok, ⟨eq88_ok, ⟨eq109_ok, ⟨eq112_ok, ⟨eq113_ok, ⟨eq120_ok, ⟨eq131_ok, ⟨eq137_ok, ⟨eq152_ok, ⟨eq157_ok, trivial⟩⟩⟩⟩⟩⟩⟩⟩⟩⟩⟩⟩⟩
end Go.Proofs.Ytlkhpbjjimjhbaa
