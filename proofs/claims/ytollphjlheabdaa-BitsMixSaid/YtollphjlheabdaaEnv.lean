/-
  The types of the translation, as the executor wants them, with the proof that they are as the program says. Written by genenv.py.
-/
import Derived.Test.YtollphjlheabdaaRows
import Derived.Test.YtollphjlheabdaaSxW
namespace Go.Proofs.Ytollphjlheabdaa
open Go.Sx
@[reducible] def tyboundsError : Ty := .pair (.int .i64) (.pair (.int .i64) (.pair (.bool) (.int .u8)))
@[reducible] def tyerrorAddressString : Ty := .pair (.str) (.int .u64)
@[reducible] def tyRate : Ty := .pair (.int .i64) (.int .i64)
@[reducible] def tyUart : Ty := .pair (.sl (.int .u8)) (.pair (.sl (.int .u8)) (.pair (.int .i64) (.bool)))
@[reducible] def tyUartOp : Ty := .pair (.int .i64) (.int .u8)
@[reducible] def tyLock : Ty := .pair (.int .i64) (.pair (.int .i64) (.pair (.arr 8 (.int .i64)) (.arr 8 (.bool))))
@[reducible] def tyLockOp : Ty := .pair (.int .i64) (.int .i64)
@[reducible] def tyNic : Ty := .pair (.sl (.int .i64)) (.pair (.int .i64) (.pair (.int .i64) (.pair (.bool) (.pair (.bool) (.int .i64)))))
@[reducible] def tyNicOp : Ty := .pair (.int .i64) (.int .i64)
@[reducible] def tyPipe : Ty := .pair (.sl (.int .u8)) (.pair (.int .i64) (.int .i64))
@[reducible] def tyPipeOp : Ty := .pair (.int .i64) (.pair (.int .i64) (.sl (.int .u8)))
@[reducible] def tyRing : Ty := .pair (.sl (.pair (.bool) (.int .i64))) (.pair (.int .i64) (.pair (.int .i64) (.int .i64)))
@[reducible] def tyRingOp : Ty := .pair (.int .i64) (.int .i64)
@[reducible] def tyCore : Ty := .pair (.bool) (.sl (.pair (.bool) (.bool)))
@[reducible] def tyCell : Ty := .pair (.bool) (.int .i64)
@[reducible] def tyFrame : Ty := .pair (.bool) (.bool)
/-- int64 -/
def ti2 : TI := ⟨1, 8, .scalar (.int .i64), [.d (.int .i64) (0 : Int)], some (.int .i64)⟩
theorem ti2_ok : TIok Try.prog 2 ti2 := TIok.mk1 (by kernel_rfl) (by kernel_rfl) (by kernel_rfl) (.inr rfl) (⟨Try.underlying2, trivial⟩) (⟨by kernel_rfl, by kernel_rfl, by kernel_rfl, by kernel_rfl⟩)
/-- int -/
def ti3 : TI := ⟨1, 8, .scalar (.int .i64), [.d (.int .i64) (0 : Int)], some (.int .i64)⟩
theorem ti3_ok : TIok Try.prog 3 ti3 := TIok.mk1 (by kernel_rfl) (by kernel_rfl) (by kernel_rfl) (.inr rfl) (⟨Try.underlying3, trivial⟩) (⟨by kernel_rfl, by kernel_rfl, by kernel_rfl, by kernel_rfl⟩)
/-- bool -/
def ti4 : TI := ⟨1, 1, .scalar .bool, [.lit false], some (.bool)⟩
theorem ti4_ok : TIok Try.prog 4 ti4 := TIok.mk1 (by kernel_rfl) (by kernel_rfl) (by kernel_rfl) (.inr rfl) (⟨Try.underlying4, trivial⟩) (⟨by kernel_rfl, by kernel_rfl, by kernel_rfl, by kernel_rfl⟩)
/-- uint8 -/
def ti5 : TI := ⟨1, 1, .scalar (.int .u8), [.d (.int .u8) (0 : Int)], some (.int .u8)⟩
theorem ti5_ok : TIok Try.prog 5 ti5 := TIok.mk1 (by kernel_rfl) (by kernel_rfl) (by kernel_rfl) (.inr rfl) (⟨Try.underlying5, trivial⟩) (⟨by kernel_rfl, by kernel_rfl, by kernel_rfl, by kernel_rfl⟩)
/-- abi.BoundsErrorCode -/
def ti6 : TI := ⟨1, 1, .scalar (.int .u8), [.d (.int .u8) (0 : Int)], some (.int .u8)⟩
theorem ti6_ok : TIok Try.prog 6 ti6 := TIok.mk1 (by kernel_rfl) (by kernel_rfl) (by kernel_rfl) (.inr rfl) (⟨Try.underlying6, trivial⟩) (⟨by kernel_rfl, by kernel_rfl, by kernel_rfl, by kernel_rfl⟩)
/-- struct { x int64; y int; signed bool; code abi.BoundsErrorCode } -/
def ti7 : TI := ⟨4, 24, .struct [(0, 2), (1, 3), (2, 4), (3, 6)], [.d (.int .i64) (0 : Int), .d (.int .i64) (0 : Int), .lit false, .d (.int .u8) (0 : Int)], some (.pair (.int .i64) (.pair (.int .i64) (.pair (.bool) (.int .u8))))⟩
theorem ti7_ok : TIok Try.prog 7 ti7 := TIok.mk1 (by kernel_rfl) (by kernel_rfl) (by kernel_rfl) (.inl rfl) (⟨_, Try.underlying7, by kernel_rfl⟩) (⟨by kernel_rfl, by kernel_rfl, by kernel_rfl, by kernel_rfl⟩)
/-- runtime.boundsError -/
def ti8 : TI := ⟨4, 24, .struct [(0, 2), (1, 3), (2, 4), (3, 6)], [.d (.int .i64) (0 : Int), .d (.int .i64) (0 : Int), .lit false, .d (.int .u8) (0 : Int)], some (.pair (.int .i64) (.pair (.int .i64) (.pair (.bool) (.int .u8))))⟩
theorem ti8_ok : TIok Try.prog 8 ti8 := TIok.mk1 (by kernel_rfl) (by kernel_rfl) (by kernel_rfl) (.inl rfl) (⟨_, Try.underlying8, by kernel_rfl⟩) (⟨by kernel_rfl, by kernel_rfl, by kernel_rfl, by kernel_rfl⟩)
/-- string -/
def ti9 : TI := ⟨1, 16, .scalar .string, [.d .str ([] : List Int)], some (.str)⟩
theorem ti9_ok : TIok Try.prog 9 ti9 := TIok.mk1 (by kernel_rfl) (by kernel_rfl) (by kernel_rfl) (.inr rfl) (⟨Try.underlying9, trivial⟩) (⟨by kernel_rfl, by kernel_rfl, by kernel_rfl, by kernel_rfl⟩)
/-- runtime.errorString -/
def ti10 : TI := ⟨1, 16, .scalar .string, [.d .str ([] : List Int)], some (.str)⟩
theorem ti10_ok : TIok Try.prog 10 ti10 := TIok.mk1 (by kernel_rfl) (by kernel_rfl) (by kernel_rfl) (.inr rfl) (⟨Try.underlying10, trivial⟩) (⟨by kernel_rfl, by kernel_rfl, by kernel_rfl, by kernel_rfl⟩)
/-- runtime.plainError -/
def ti11 : TI := ⟨1, 16, .scalar .string, [.d .str ([] : List Int)], some (.str)⟩
theorem ti11_ok : TIok Try.prog 11 ti11 := TIok.mk1 (by kernel_rfl) (by kernel_rfl) (by kernel_rfl) (.inr rfl) (⟨Try.underlying11, trivial⟩) (⟨by kernel_rfl, by kernel_rfl, by kernel_rfl, by kernel_rfl⟩)
/-- uintptr -/
def ti12 : TI := ⟨1, 8, .scalar (.int .u64), [.d (.int .u64) (0 : Int)], some (.int .u64)⟩
theorem ti12_ok : TIok Try.prog 12 ti12 := TIok.mk1 (by kernel_rfl) (by kernel_rfl) (by kernel_rfl) (.inr rfl) (⟨Try.underlying12, trivial⟩) (⟨by kernel_rfl, by kernel_rfl, by kernel_rfl, by kernel_rfl⟩)
/-- struct { msg string; addr uintptr } -/
def ti13 : TI := ⟨2, 24, .struct [(0, 9), (1, 12)], [.d .str ([] : List Int), .d (.int .u64) (0 : Int)], some (.pair (.str) (.int .u64))⟩
theorem ti13_ok : TIok Try.prog 13 ti13 := TIok.mk1 (by kernel_rfl) (by kernel_rfl) (by kernel_rfl) (.inl rfl) (⟨_, Try.underlying13, by kernel_rfl⟩) (⟨by kernel_rfl, by kernel_rfl, by kernel_rfl, by kernel_rfl⟩)
/-- runtime.errorAddressString -/
def ti14 : TI := ⟨2, 24, .struct [(0, 9), (1, 12)], [.d .str ([] : List Int), .d (.int .u64) (0 : Int)], some (.pair (.str) (.int .u64))⟩
theorem ti14_ok : TIok Try.prog 14 ti14 := TIok.mk1 (by kernel_rfl) (by kernel_rfl) (by kernel_rfl) (.inl rfl) (⟨_, Try.underlying14, by kernel_rfl⟩) (⟨by kernel_rfl, by kernel_rfl, by kernel_rfl, by kernel_rfl⟩)
/-- *runtime.TypeAssertionError -/
def ti15 : TI := ⟨1, 8, .scalar (.pointer 147), [.con (.pointer none)], none⟩
theorem ti15_ok : TIok Try.prog 15 ti15 := TIok.mk1 (by kernel_rfl) (by kernel_rfl) (by kernel_rfl) (.inr rfl) (⟨Try.underlying15, trivial⟩) (trivial)
/-- *runtime.PanicNilError -/
def ti16 : TI := ⟨1, 8, .scalar (.pointer 150), [.con (.pointer none)], none⟩
theorem ti16_ok : TIok Try.prog 16 ti16 := TIok.mk1 (by kernel_rfl) (by kernel_rfl) (by kernel_rfl) (.inr rfl) (⟨Try.underlying16, trivial⟩) (trivial)
/-- *abi.Type -/
def ti17 : TI := ⟨1, 8, .scalar (.pointer 160), [.con (.pointer none)], none⟩
theorem ti17_ok : TIok Try.prog 17 ti17 := TIok.mk1 (by kernel_rfl) (by kernel_rfl) (by kernel_rfl) (.inr rfl) (⟨Try.underlying17, trivial⟩) (trivial)
/-- struct { typ *abi.Type } -/
def ti18 : TI := ⟨1, 8, .struct [(0, 17)], [.con (.pointer none)], none⟩
theorem ti18_ok : TIok Try.prog 18 ti18 := TIok.mk1 (by kernel_rfl) (by kernel_rfl) (by kernel_rfl) (.inl rfl) (⟨_, Try.underlying18, by kernel_rfl⟩) (trivial)
/-- maps.unhashableTypeError -/
def ti19 : TI := ⟨1, 8, .struct [(0, 17)], [.con (.pointer none)], none⟩
theorem ti19_ok : TIok Try.prog 19 ti19 := TIok.mk1 (by kernel_rfl) (by kernel_rfl) (by kernel_rfl) (.inl rfl) (⟨_, Try.underlying19, by kernel_rfl⟩) (trivial)
/-- int32 -/
def ti21 : TI := ⟨1, 4, .scalar (.int .i32), [.d (.int .i32) (0 : Int)], some (.int .i32)⟩
theorem ti21_ok : TIok Try.prog 21 ti21 := TIok.mk1 (by kernel_rfl) (by kernel_rfl) (by kernel_rfl) (.inr rfl) (⟨Try.underlying21, trivial⟩) (⟨by kernel_rfl, by kernel_rfl, by kernel_rfl, by kernel_rfl⟩)
/-- uint64 -/
def ti22 : TI := ⟨1, 8, .scalar (.int .u64), [.d (.int .u64) (0 : Int)], some (.int .u64)⟩
theorem ti22_ok : TIok Try.prog 22 ti22 := TIok.mk1 (by kernel_rfl) (by kernel_rfl) (by kernel_rfl) (.inr rfl) (⟨Try.underlying22, trivial⟩) (⟨by kernel_rfl, by kernel_rfl, by kernel_rfl, by kernel_rfl⟩)
/-- [4]uint64 -/
def ti23 : TI := ⟨4, 32, .arr 4 22, [.d (.arr 4 (.int .u64)) (List.replicate 4 (Ty.zero (.int .u64)))], some (.arr 4 (.int .u64))⟩
theorem ti23_ok : TIok Try.prog 23 ti23 := TIok.mk1 (by kernel_rfl) (by kernel_rfl) (by kernel_rfl) (.inl rfl) (Try.underlying23) (⟨by kernel_rfl, by kernel_rfl, by kernel_rfl, by kernel_rfl⟩)
/-- api.Bits -/
def ti24 : TI := ⟨4, 32, .arr 4 22, [.d (.arr 4 (.int .u64)) (List.replicate 4 (Ty.zero (.int .u64)))], some (.arr 4 (.int .u64))⟩
theorem ti24_ok : TIok Try.prog 24 ti24 := TIok.mk1 (by kernel_rfl) (by kernel_rfl) (by kernel_rfl) (.inl rfl) (Try.underlying24) (⟨by kernel_rfl, by kernel_rfl, by kernel_rfl, by kernel_rfl⟩)
/-- []int -/
def ti29 : TI := ⟨1, 24, .slice 3, [.con (.slice none 0 0)], some (.sl (.int .i64))⟩
theorem ti29_ok : TIok Try.prog 29 ti29 := TIok.mk1 (by kernel_rfl) (by kernel_rfl) (by kernel_rfl) (.inr rfl) (Try.underlying29) (⟨by kernel_rfl, by kernel_rfl, by kernel_rfl, by kernel_rfl⟩)
/-- struct { Num int; Den int } -/
def ti32 : TI := ⟨2, 16, .struct [(0, 3), (1, 3)], [.d (.int .i64) (0 : Int), .d (.int .i64) (0 : Int)], some (.pair (.int .i64) (.int .i64))⟩
theorem ti32_ok : TIok Try.prog 32 ti32 := TIok.mk1 (by kernel_rfl) (by kernel_rfl) (by kernel_rfl) (.inl rfl) (⟨_, Try.underlying32, by kernel_rfl⟩) (⟨by kernel_rfl, by kernel_rfl, by kernel_rfl, by kernel_rfl⟩)
/-- api.Rate -/
def ti33 : TI := ⟨2, 16, .struct [(0, 3), (1, 3)], [.d (.int .i64) (0 : Int), .d (.int .i64) (0 : Int)], some (.pair (.int .i64) (.int .i64))⟩
theorem ti33_ok : TIok Try.prog 33 ti33 := TIok.mk1 (by kernel_rfl) (by kernel_rfl) (by kernel_rfl) (.inl rfl) (⟨_, Try.underlying33, by kernel_rfl⟩) (⟨by kernel_rfl, by kernel_rfl, by kernel_rfl, by kernel_rfl⟩)
/-- api.Errno -/
def ti34 : TI := ⟨1, 8, .scalar (.int .i64), [.d (.int .i64) (0 : Int)], some (.int .i64)⟩
theorem ti34_ok : TIok Try.prog 34 ti34 := TIok.mk1 (by kernel_rfl) (by kernel_rfl) (by kernel_rfl) (.inr rfl) (⟨Try.underlying34, trivial⟩) (⟨by kernel_rfl, by kernel_rfl, by kernel_rfl, by kernel_rfl⟩)
/-- []uint8 -/
def ti39 : TI := ⟨1, 24, .slice 5, [.con (.slice none 0 0)], some (.sl (.int .u8))⟩
theorem ti39_ok : TIok Try.prog 39 ti39 := TIok.mk1 (by kernel_rfl) (by kernel_rfl) (by kernel_rfl) (.inr rfl) (Try.underlying39) (⟨by kernel_rfl, by kernel_rfl, by kernel_rfl, by kernel_rfl⟩)
/-- struct { In []uint8; Out []uint8; Lost int; Asks bool } -/
def ti40 : TI := ⟨4, 64, .struct [(0, 39), (1, 39), (2, 3), (3, 4)], [.con (.slice none 0 0), .con (.slice none 0 0), .d (.int .i64) (0 : Int), .lit false], some (.pair (.sl (.int .u8)) (.pair (.sl (.int .u8)) (.pair (.int .i64) (.bool))))⟩
theorem ti40_ok : TIok Try.prog 40 ti40 := TIok.mk1 (by kernel_rfl) (by kernel_rfl) (by kernel_rfl) (.inl rfl) (⟨_, Try.underlying40, by kernel_rfl⟩) (⟨by kernel_rfl, by kernel_rfl, by kernel_rfl, by kernel_rfl⟩)
/-- api.Uart -/
def ti41 : TI := ⟨4, 64, .struct [(0, 39), (1, 39), (2, 3), (3, 4)], [.con (.slice none 0 0), .con (.slice none 0 0), .d (.int .i64) (0 : Int), .lit false], some (.pair (.sl (.int .u8)) (.pair (.sl (.int .u8)) (.pair (.int .i64) (.bool))))⟩
theorem ti41_ok : TIok Try.prog 41 ti41 := TIok.mk1 (by kernel_rfl) (by kernel_rfl) (by kernel_rfl) (.inl rfl) (⟨_, Try.underlying41, by kernel_rfl⟩) (⟨by kernel_rfl, by kernel_rfl, by kernel_rfl, by kernel_rfl⟩)
/-- struct { Kind int; Byte uint8 } -/
def ti42 : TI := ⟨2, 16, .struct [(0, 3), (1, 5)], [.d (.int .i64) (0 : Int), .d (.int .u8) (0 : Int)], some (.pair (.int .i64) (.int .u8))⟩
theorem ti42_ok : TIok Try.prog 42 ti42 := TIok.mk1 (by kernel_rfl) (by kernel_rfl) (by kernel_rfl) (.inl rfl) (⟨_, Try.underlying42, by kernel_rfl⟩) (⟨by kernel_rfl, by kernel_rfl, by kernel_rfl, by kernel_rfl⟩)
/-- api.UartOp -/
def ti43 : TI := ⟨2, 16, .struct [(0, 3), (1, 5)], [.d (.int .i64) (0 : Int), .d (.int .u8) (0 : Int)], some (.pair (.int .i64) (.int .u8))⟩
theorem ti43_ok : TIok Try.prog 43 ti43 := TIok.mk1 (by kernel_rfl) (by kernel_rfl) (by kernel_rfl) (.inl rfl) (⟨_, Try.underlying43, by kernel_rfl⟩) (⟨by kernel_rfl, by kernel_rfl, by kernel_rfl, by kernel_rfl⟩)
/-- [8]int -/
def ti54 : TI := ⟨8, 64, .arr 8 3, [.d (.arr 8 (.int .i64)) (List.replicate 8 (Ty.zero (.int .i64)))], some (.arr 8 (.int .i64))⟩
theorem ti54_ok : TIok Try.prog 54 ti54 := TIok.mk1 (by kernel_rfl) (by kernel_rfl) (by kernel_rfl) (.inl rfl) (Try.underlying54) (⟨by kernel_rfl, by kernel_rfl, by kernel_rfl, by kernel_rfl⟩)
/-- [8]bool -/
def ti55 : TI := ⟨8, 8, .arr 8 4, [.d (.arr 8 (.bool)) (List.replicate 8 (Ty.zero (.bool)))], some (.arr 8 (.bool))⟩
theorem ti55_ok : TIok Try.prog 55 ti55 := TIok.mk1 (by kernel_rfl) (by kernel_rfl) (by kernel_rfl) (.inl rfl) (Try.underlying55) (⟨by kernel_rfl, by kernel_rfl, by kernel_rfl, by kernel_rfl⟩)
/-- struct { Next int; Now int; Mine [8]int; In [8]bool } -/
def ti56 : TI := ⟨18, 88, .struct [(0, 3), (1, 3), (2, 54), (10, 55)], [.d (.int .i64) (0 : Int), .d (.int .i64) (0 : Int), .d (.arr 8 (.int .i64)) (List.replicate 8 (Ty.zero (.int .i64))), .d (.arr 8 (.bool)) (List.replicate 8 (Ty.zero (.bool)))], some (.pair (.int .i64) (.pair (.int .i64) (.pair (.arr 8 (.int .i64)) (.arr 8 (.bool)))))⟩
theorem ti56_ok : TIok Try.prog 56 ti56 := TIok.mk1 (by kernel_rfl) (by kernel_rfl) (by kernel_rfl) (.inl rfl) (⟨_, Try.underlying56, by kernel_rfl⟩) (⟨by kernel_rfl, by kernel_rfl, by kernel_rfl, by kernel_rfl⟩)
/-- api.Lock -/
def ti57 : TI := ⟨18, 88, .struct [(0, 3), (1, 3), (2, 54), (10, 55)], [.d (.int .i64) (0 : Int), .d (.int .i64) (0 : Int), .d (.arr 8 (.int .i64)) (List.replicate 8 (Ty.zero (.int .i64))), .d (.arr 8 (.bool)) (List.replicate 8 (Ty.zero (.bool)))], some (.pair (.int .i64) (.pair (.int .i64) (.pair (.arr 8 (.int .i64)) (.arr 8 (.bool)))))⟩
theorem ti57_ok : TIok Try.prog 57 ti57 := TIok.mk1 (by kernel_rfl) (by kernel_rfl) (by kernel_rfl) (.inl rfl) (⟨_, Try.underlying57, by kernel_rfl⟩) (⟨by kernel_rfl, by kernel_rfl, by kernel_rfl, by kernel_rfl⟩)
/-- struct { Kind int; Core int } -/
def ti58 : TI := ⟨2, 16, .struct [(0, 3), (1, 3)], [.d (.int .i64) (0 : Int), .d (.int .i64) (0 : Int)], some (.pair (.int .i64) (.int .i64))⟩
theorem ti58_ok : TIok Try.prog 58 ti58 := TIok.mk1 (by kernel_rfl) (by kernel_rfl) (by kernel_rfl) (.inl rfl) (⟨_, Try.underlying58, by kernel_rfl⟩) (⟨by kernel_rfl, by kernel_rfl, by kernel_rfl, by kernel_rfl⟩)
/-- api.LockOp -/
def ti59 : TI := ⟨2, 16, .struct [(0, 3), (1, 3)], [.d (.int .i64) (0 : Int), .d (.int .i64) (0 : Int)], some (.pair (.int .i64) (.int .i64))⟩
theorem ti59_ok : TIok Try.prog 59 ti59 := TIok.mk1 (by kernel_rfl) (by kernel_rfl) (by kernel_rfl) (.inl rfl) (⟨_, Try.underlying59, by kernel_rfl⟩) (⟨by kernel_rfl, by kernel_rfl, by kernel_rfl, by kernel_rfl⟩)
/-- struct { Has []int; Room int; Lost int; May bool; Due bool; Asked int } -/
def ti66 : TI := ⟨6, 56, .struct [(0, 29), (1, 3), (2, 3), (3, 4), (4, 4), (5, 3)], [.con (.slice none 0 0), .d (.int .i64) (0 : Int), .d (.int .i64) (0 : Int), .lit false, .lit false, .d (.int .i64) (0 : Int)], some (.pair (.sl (.int .i64)) (.pair (.int .i64) (.pair (.int .i64) (.pair (.bool) (.pair (.bool) (.int .i64))))))⟩
theorem ti66_ok : TIok Try.prog 66 ti66 := TIok.mk1 (by kernel_rfl) (by kernel_rfl) (by kernel_rfl) (.inl rfl) (⟨_, Try.underlying66, by kernel_rfl⟩) (⟨by kernel_rfl, by kernel_rfl, by kernel_rfl, by kernel_rfl⟩)
/-- api.Nic -/
def ti67 : TI := ⟨6, 56, .struct [(0, 29), (1, 3), (2, 3), (3, 4), (4, 4), (5, 3)], [.con (.slice none 0 0), .d (.int .i64) (0 : Int), .d (.int .i64) (0 : Int), .lit false, .lit false, .d (.int .i64) (0 : Int)], some (.pair (.sl (.int .i64)) (.pair (.int .i64) (.pair (.int .i64) (.pair (.bool) (.pair (.bool) (.int .i64))))))⟩
theorem ti67_ok : TIok Try.prog 67 ti67 := TIok.mk1 (by kernel_rfl) (by kernel_rfl) (by kernel_rfl) (.inl rfl) (⟨_, Try.underlying67, by kernel_rfl⟩) (⟨by kernel_rfl, by kernel_rfl, by kernel_rfl, by kernel_rfl⟩)
/-- struct { Kind int; N int } -/
def ti68 : TI := ⟨2, 16, .struct [(0, 3), (1, 3)], [.d (.int .i64) (0 : Int), .d (.int .i64) (0 : Int)], some (.pair (.int .i64) (.int .i64))⟩
theorem ti68_ok : TIok Try.prog 68 ti68 := TIok.mk1 (by kernel_rfl) (by kernel_rfl) (by kernel_rfl) (.inl rfl) (⟨_, Try.underlying68, by kernel_rfl⟩) (⟨by kernel_rfl, by kernel_rfl, by kernel_rfl, by kernel_rfl⟩)
/-- api.NicOp -/
def ti69 : TI := ⟨2, 16, .struct [(0, 3), (1, 3)], [.d (.int .i64) (0 : Int), .d (.int .i64) (0 : Int)], some (.pair (.int .i64) (.int .i64))⟩
theorem ti69_ok : TIok Try.prog 69 ti69 := TIok.mk1 (by kernel_rfl) (by kernel_rfl) (by kernel_rfl) (.inl rfl) (⟨_, Try.underlying69, by kernel_rfl⟩) (⟨by kernel_rfl, by kernel_rfl, by kernel_rfl, by kernel_rfl⟩)
/-- struct { Has []uint8; Writers int; Readers int } -/
def ti75 : TI := ⟨3, 40, .struct [(0, 39), (1, 3), (2, 3)], [.con (.slice none 0 0), .d (.int .i64) (0 : Int), .d (.int .i64) (0 : Int)], some (.pair (.sl (.int .u8)) (.pair (.int .i64) (.int .i64)))⟩
theorem ti75_ok : TIok Try.prog 75 ti75 := TIok.mk1 (by kernel_rfl) (by kernel_rfl) (by kernel_rfl) (.inl rfl) (⟨_, Try.underlying75, by kernel_rfl⟩) (⟨by kernel_rfl, by kernel_rfl, by kernel_rfl, by kernel_rfl⟩)
/-- api.Pipe -/
def ti76 : TI := ⟨3, 40, .struct [(0, 39), (1, 3), (2, 3)], [.con (.slice none 0 0), .d (.int .i64) (0 : Int), .d (.int .i64) (0 : Int)], some (.pair (.sl (.int .u8)) (.pair (.int .i64) (.int .i64)))⟩
theorem ti76_ok : TIok Try.prog 76 ti76 := TIok.mk1 (by kernel_rfl) (by kernel_rfl) (by kernel_rfl) (.inl rfl) (⟨_, Try.underlying76, by kernel_rfl⟩) (⟨by kernel_rfl, by kernel_rfl, by kernel_rfl, by kernel_rfl⟩)
/-- struct { Kind int; Most int; Data []uint8 } -/
def ti77 : TI := ⟨3, 40, .struct [(0, 3), (1, 3), (2, 39)], [.d (.int .i64) (0 : Int), .d (.int .i64) (0 : Int), .con (.slice none 0 0)], some (.pair (.int .i64) (.pair (.int .i64) (.sl (.int .u8))))⟩
theorem ti77_ok : TIok Try.prog 77 ti77 := TIok.mk1 (by kernel_rfl) (by kernel_rfl) (by kernel_rfl) (.inl rfl) (⟨_, Try.underlying77, by kernel_rfl⟩) (⟨by kernel_rfl, by kernel_rfl, by kernel_rfl, by kernel_rfl⟩)
/-- api.PipeOp -/
def ti78 : TI := ⟨3, 40, .struct [(0, 3), (1, 3), (2, 39)], [.d (.int .i64) (0 : Int), .d (.int .i64) (0 : Int), .con (.slice none 0 0)], some (.pair (.int .i64) (.pair (.int .i64) (.sl (.int .u8))))⟩
theorem ti78_ok : TIok Try.prog 78 ti78 := TIok.mk1 (by kernel_rfl) (by kernel_rfl) (by kernel_rfl) (.inl rfl) (⟨_, Try.underlying78, by kernel_rfl⟩) (⟨by kernel_rfl, by kernel_rfl, by kernel_rfl, by kernel_rfl⟩)
/-- []api.Cell -/
def ti84 : TI := ⟨1, 24, .slice 135, [.con (.slice none 0 0)], some (.sl (.pair (.bool) (.int .i64)))⟩
theorem ti84_ok : TIok Try.prog 84 ti84 := TIok.mk1 (by kernel_rfl) (by kernel_rfl) (by kernel_rfl) (.inr rfl) (Try.underlying84) (⟨by kernel_rfl, by kernel_rfl, by kernel_rfl, by kernel_rfl⟩)
/-- struct { Cells []api.Cell; Give int; Take int; Work int } -/
def ti85 : TI := ⟨4, 48, .struct [(0, 84), (1, 3), (2, 3), (3, 3)], [.con (.slice none 0 0), .d (.int .i64) (0 : Int), .d (.int .i64) (0 : Int), .d (.int .i64) (0 : Int)], some (.pair (.sl (.pair (.bool) (.int .i64))) (.pair (.int .i64) (.pair (.int .i64) (.int .i64))))⟩
theorem ti85_ok : TIok Try.prog 85 ti85 := TIok.mk1 (by kernel_rfl) (by kernel_rfl) (by kernel_rfl) (.inl rfl) (⟨_, Try.underlying85, by kernel_rfl⟩) (⟨by kernel_rfl, by kernel_rfl, by kernel_rfl, by kernel_rfl⟩)
/-- api.Ring -/
def ti86 : TI := ⟨4, 48, .struct [(0, 84), (1, 3), (2, 3), (3, 3)], [.con (.slice none 0 0), .d (.int .i64) (0 : Int), .d (.int .i64) (0 : Int), .d (.int .i64) (0 : Int)], some (.pair (.sl (.pair (.bool) (.int .i64))) (.pair (.int .i64) (.pair (.int .i64) (.int .i64))))⟩
theorem ti86_ok : TIok Try.prog 86 ti86 := TIok.mk1 (by kernel_rfl) (by kernel_rfl) (by kernel_rfl) (.inl rfl) (⟨_, Try.underlying86, by kernel_rfl⟩) (⟨by kernel_rfl, by kernel_rfl, by kernel_rfl, by kernel_rfl⟩)
/-- struct { Kind int; Data int } -/
def ti87 : TI := ⟨2, 16, .struct [(0, 3), (1, 3)], [.d (.int .i64) (0 : Int), .d (.int .i64) (0 : Int)], some (.pair (.int .i64) (.int .i64))⟩
theorem ti87_ok : TIok Try.prog 87 ti87 := TIok.mk1 (by kernel_rfl) (by kernel_rfl) (by kernel_rfl) (.inl rfl) (⟨_, Try.underlying87, by kernel_rfl⟩) (⟨by kernel_rfl, by kernel_rfl, by kernel_rfl, by kernel_rfl⟩)
/-- api.RingOp -/
def ti88 : TI := ⟨2, 16, .struct [(0, 3), (1, 3)], [.d (.int .i64) (0 : Int), .d (.int .i64) (0 : Int)], some (.pair (.int .i64) (.int .i64))⟩
theorem ti88_ok : TIok Try.prog 88 ti88 := TIok.mk1 (by kernel_rfl) (by kernel_rfl) (by kernel_rfl) (.inl rfl) (⟨_, Try.underlying88, by kernel_rfl⟩) (⟨by kernel_rfl, by kernel_rfl, by kernel_rfl, by kernel_rfl⟩)
/-- []api.Errno -/
def ti95 : TI := ⟨1, 24, .slice 34, [.con (.slice none 0 0)], some (.sl (.int .i64))⟩
theorem ti95_ok : TIok Try.prog 95 ti95 := TIok.mk1 (by kernel_rfl) (by kernel_rfl) (by kernel_rfl) (.inr rfl) (Try.underlying95) (⟨by kernel_rfl, by kernel_rfl, by kernel_rfl, by kernel_rfl⟩)
/-- []api.Frame -/
def ti101 : TI := ⟨1, 24, .slice 139, [.con (.slice none 0 0)], some (.sl (.pair (.bool) (.bool)))⟩
theorem ti101_ok : TIok Try.prog 101 ti101 := TIok.mk1 (by kernel_rfl) (by kernel_rfl) (by kernel_rfl) (.inr rfl) (Try.underlying101) (⟨by kernel_rfl, by kernel_rfl, by kernel_rfl, by kernel_rfl⟩)
/-- struct { On bool; Kept []api.Frame } -/
def ti102 : TI := ⟨2, 32, .struct [(0, 4), (1, 101)], [.lit false, .con (.slice none 0 0)], some (.pair (.bool) (.sl (.pair (.bool) (.bool))))⟩
theorem ti102_ok : TIok Try.prog 102 ti102 := TIok.mk1 (by kernel_rfl) (by kernel_rfl) (by kernel_rfl) (.inl rfl) (⟨_, Try.underlying102, by kernel_rfl⟩) (⟨by kernel_rfl, by kernel_rfl, by kernel_rfl, by kernel_rfl⟩)
/-- api.Core -/
def ti103 : TI := ⟨2, 32, .struct [(0, 4), (1, 101)], [.lit false, .con (.slice none 0 0)], some (.pair (.bool) (.sl (.pair (.bool) (.bool))))⟩
theorem ti103_ok : TIok Try.prog 103 ti103 := TIok.mk1 (by kernel_rfl) (by kernel_rfl) (by kernel_rfl) (.inl rfl) (⟨_, Try.underlying103, by kernel_rfl⟩) (⟨by kernel_rfl, by kernel_rfl, by kernel_rfl, by kernel_rfl⟩)
/-- []api.UartOp -/
def ti112 : TI := ⟨1, 24, .slice 43, [.con (.slice none 0 0)], some (.sl (.pair (.int .i64) (.int .u8)))⟩
theorem ti112_ok : TIok Try.prog 112 ti112 := TIok.mk1 (by kernel_rfl) (by kernel_rfl) (by kernel_rfl) (.inr rfl) (Try.underlying112) (⟨by kernel_rfl, by kernel_rfl, by kernel_rfl, by kernel_rfl⟩)
/-- [256]bool -/
def ti117 : TI := ⟨256, 256, .arr 256 4, [.d (.arr 256 (.bool)) (List.replicate 256 (Ty.zero (.bool)))], some (.arr 256 (.bool))⟩
theorem ti117_ok : TIok Try.prog 117 ti117 := TIok.mk1 (by kernel_rfl) (by kernel_rfl) (by kernel_rfl) (.inl rfl) (Try.underlying117) (⟨by kernel_rfl, by kernel_rfl, by kernel_rfl, by kernel_rfl⟩)
/-- *int -/
def ti126 : TI := ⟨1, 8, .scalar (.pointer 3), [.con (.pointer none)], none⟩
theorem ti126_ok : TIok Try.prog 126 ti126 := TIok.mk1 (by kernel_rfl) (by kernel_rfl) (by kernel_rfl) (.inr rfl) (⟨Try.underlying126, trivial⟩) (trivial)
/-- *bool -/
def ti127 : TI := ⟨1, 8, .scalar (.pointer 4), [.con (.pointer none)], none⟩
theorem ti127_ok : TIok Try.prog 127 ti127 := TIok.mk1 (by kernel_rfl) (by kernel_rfl) (by kernel_rfl) (.inr rfl) (⟨Try.underlying127, trivial⟩) (trivial)
/-- []bool -/
def ti128 : TI := ⟨1, 24, .slice 4, [.con (.slice none 0 0)], some (.sl (.bool))⟩
theorem ti128_ok : TIok Try.prog 128 ti128 := TIok.mk1 (by kernel_rfl) (by kernel_rfl) (by kernel_rfl) (.inr rfl) (Try.underlying128) (⟨by kernel_rfl, by kernel_rfl, by kernel_rfl, by kernel_rfl⟩)
/-- map[int]*int -/
def ti132 : TI := ⟨1, 8, .scalar (.map 3 126), [.con (.map none)], none⟩
theorem ti132_ok : TIok Try.prog 132 ti132 := TIok.mk1 (by kernel_rfl) (by kernel_rfl) (by kernel_rfl) (.inr rfl) (⟨Try.underlying132, trivial⟩) (trivial)
/-- struct { Device bool; Data int } -/
def ti134 : TI := ⟨2, 16, .struct [(0, 4), (1, 3)], [.lit false, .d (.int .i64) (0 : Int)], some (.pair (.bool) (.int .i64))⟩
theorem ti134_ok : TIok Try.prog 134 ti134 := TIok.mk1 (by kernel_rfl) (by kernel_rfl) (by kernel_rfl) (.inl rfl) (⟨_, Try.underlying134, by kernel_rfl⟩) (⟨by kernel_rfl, by kernel_rfl, by kernel_rfl, by kernel_rfl⟩)
/-- api.Cell -/
def ti135 : TI := ⟨2, 16, .struct [(0, 4), (1, 3)], [.lit false, .d (.int .i64) (0 : Int)], some (.pair (.bool) (.int .i64))⟩
theorem ti135_ok : TIok Try.prog 135 ti135 := TIok.mk1 (by kernel_rfl) (by kernel_rfl) (by kernel_rfl) (.inl rfl) (⟨_, Try.underlying135, by kernel_rfl⟩) (⟨by kernel_rfl, by kernel_rfl, by kernel_rfl, by kernel_rfl⟩)
/-- []api.RingOp -/
def ti137 : TI := ⟨1, 24, .slice 88, [.con (.slice none 0 0)], some (.sl (.pair (.int .i64) (.int .i64)))⟩
theorem ti137_ok : TIok Try.prog 137 ti137 := TIok.mk1 (by kernel_rfl) (by kernel_rfl) (by kernel_rfl) (.inr rfl) (Try.underlying137) (⟨by kernel_rfl, by kernel_rfl, by kernel_rfl, by kernel_rfl⟩)
/-- struct { On bool; Irq bool } -/
def ti138 : TI := ⟨2, 2, .struct [(0, 4), (1, 4)], [.lit false, .lit false], some (.pair (.bool) (.bool))⟩
theorem ti138_ok : TIok Try.prog 138 ti138 := TIok.mk1 (by kernel_rfl) (by kernel_rfl) (by kernel_rfl) (.inl rfl) (⟨_, Try.underlying138, by kernel_rfl⟩) (⟨by kernel_rfl, by kernel_rfl, by kernel_rfl, by kernel_rfl⟩)
/-- api.Frame -/
def ti139 : TI := ⟨2, 2, .struct [(0, 4), (1, 4)], [.lit false, .lit false], some (.pair (.bool) (.bool))⟩
theorem ti139_ok : TIok Try.prog 139 ti139 := TIok.mk1 (by kernel_rfl) (by kernel_rfl) (by kernel_rfl) (.inl rfl) (⟨_, Try.underlying139, by kernel_rfl⟩) (⟨by kernel_rfl, by kernel_rfl, by kernel_rfl, by kernel_rfl⟩)
/-- [2][]uint8 -/
def ti141 : TI := ⟨2, 48, .arr 2 39, [.con (.slice none 0 0), .con (.slice none 0 0)], some (.arr 2 (.sl (.int .u8)))⟩
theorem ti141_ok : TIok Try.prog 141 ti141 := TIok.mk1 (by kernel_rfl) (by kernel_rfl) (by kernel_rfl) (.inl rfl) (Try.underlying141) (⟨by kernel_rfl, by kernel_rfl, by kernel_rfl, by kernel_rfl⟩)
/-- struct { _interface *abi.Type; concrete *abi.Type; asserted *abi.Type; missingMethod string } -/
def ti146 : TI := ⟨4, 40, .struct [(0, 17), (1, 17), (2, 17), (3, 9)], [.con (.pointer none), .con (.pointer none), .con (.pointer none), .d .str ([] : List Int)], none⟩
theorem ti146_ok : TIok Try.prog 146 ti146 := TIok.mk1 (by kernel_rfl) (by kernel_rfl) (by kernel_rfl) (.inl rfl) (⟨_, Try.underlying146, by kernel_rfl⟩) (trivial)
/-- runtime.TypeAssertionError -/
def ti147 : TI := ⟨4, 40, .struct [(0, 17), (1, 17), (2, 17), (3, 9)], [.con (.pointer none), .con (.pointer none), .con (.pointer none), .d .str ([] : List Int)], none⟩
theorem ti147_ok : TIok Try.prog 147 ti147 := TIok.mk1 (by kernel_rfl) (by kernel_rfl) (by kernel_rfl) (.inl rfl) (⟨_, Try.underlying147, by kernel_rfl⟩) (trivial)
/-- uint32 -/
def ti152 : TI := ⟨1, 4, .scalar (.int .u32), [.d (.int .u32) (0 : Int)], some (.int .u32)⟩
theorem ti152_ok : TIok Try.prog 152 ti152 := TIok.mk1 (by kernel_rfl) (by kernel_rfl) (by kernel_rfl) (.inr rfl) (⟨Try.underlying152, trivial⟩) (⟨by kernel_rfl, by kernel_rfl, by kernel_rfl, by kernel_rfl⟩)
/-- abi.TFlag -/
def ti153 : TI := ⟨1, 1, .scalar (.int .u8), [.d (.int .u8) (0 : Int)], some (.int .u8)⟩
theorem ti153_ok : TIok Try.prog 153 ti153 := TIok.mk1 (by kernel_rfl) (by kernel_rfl) (by kernel_rfl) (.inr rfl) (⟨Try.underlying153, trivial⟩) (⟨by kernel_rfl, by kernel_rfl, by kernel_rfl, by kernel_rfl⟩)
/-- abi.Kind -/
def ti154 : TI := ⟨1, 1, .scalar (.int .u8), [.d (.int .u8) (0 : Int)], some (.int .u8)⟩
theorem ti154_ok : TIok Try.prog 154 ti154 := TIok.mk1 (by kernel_rfl) (by kernel_rfl) (by kernel_rfl) (.inr rfl) (⟨Try.underlying154, trivial⟩) (⟨by kernel_rfl, by kernel_rfl, by kernel_rfl, by kernel_rfl⟩)
/-- *uint8 -/
def ti156 : TI := ⟨1, 8, .scalar (.pointer 5), [.con (.pointer none)], none⟩
theorem ti156_ok : TIok Try.prog 156 ti156 := TIok.mk1 (by kernel_rfl) (by kernel_rfl) (by kernel_rfl) (.inr rfl) (⟨Try.underlying156, trivial⟩) (trivial)
/-- abi.NameOff -/
def ti157 : TI := ⟨1, 4, .scalar (.int .i32), [.d (.int .i32) (0 : Int)], some (.int .i32)⟩
theorem ti157_ok : TIok Try.prog 157 ti157 := TIok.mk1 (by kernel_rfl) (by kernel_rfl) (by kernel_rfl) (.inr rfl) (⟨Try.underlying157, trivial⟩) (⟨by kernel_rfl, by kernel_rfl, by kernel_rfl, by kernel_rfl⟩)
/-- abi.TypeOff -/
def ti158 : TI := ⟨1, 4, .scalar (.int .i32), [.d (.int .i32) (0 : Int)], some (.int .i32)⟩
theorem ti158_ok : TIok Try.prog 158 ti158 := TIok.mk1 (by kernel_rfl) (by kernel_rfl) (by kernel_rfl) (.inr rfl) (⟨Try.underlying158, trivial⟩) (⟨by kernel_rfl, by kernel_rfl, by kernel_rfl, by kernel_rfl⟩)
theorem eq23_ok : EqTy Try.prog 23 (.arr 4 (.int .u64)) := ⟨(Exists.intro 22 (And.intro Try.underlying23 (And.intro (by kernel_rfl) (And.intro (by kernel_rfl) Try.underlying22)))), rfl, rfl, by kernel_rfl, by kernel_rfl⟩
theorem eq24_ok : EqTy Try.prog 24 (.arr 4 (.int .u64)) := ⟨(Exists.intro 22 (And.intro Try.underlying24 (And.intro (by kernel_rfl) (And.intro (by kernel_rfl) Try.underlying22)))), rfl, rfl, by kernel_rfl, by kernel_rfl⟩
theorem eq33_ok : EqTy Try.prog 33 (.pair (.int .i64) (.int .i64)) := ⟨(Exists.intro _ (And.intro Try.underlying33 (And.intro (by kernel_rfl) (And.intro (by kernel_rfl) (And.intro (by kernel_rfl) (And.intro Try.underlying3 (And.intro (by kernel_rfl) (And.intro (by kernel_rfl) Try.underlying3)))))))), rfl, rfl, by kernel_rfl, by kernel_rfl⟩
theorem eq43_ok : EqTy Try.prog 43 (.pair (.int .i64) (.int .u8)) := ⟨(Exists.intro _ (And.intro Try.underlying43 (And.intro (by kernel_rfl) (And.intro (by kernel_rfl) (And.intro (by kernel_rfl) (And.intro Try.underlying3 (And.intro (by kernel_rfl) (And.intro (by kernel_rfl) Try.underlying5)))))))), rfl, rfl, by kernel_rfl, by kernel_rfl⟩
theorem eq54_ok : EqTy Try.prog 54 (.arr 8 (.int .i64)) := ⟨(Exists.intro 3 (And.intro Try.underlying54 (And.intro (by kernel_rfl) (And.intro (by kernel_rfl) Try.underlying3)))), rfl, rfl, by kernel_rfl, by kernel_rfl⟩
theorem eq55_ok : EqTy Try.prog 55 (.arr 8 (.bool)) := ⟨(Exists.intro 4 (And.intro Try.underlying55 (And.intro (by kernel_rfl) (And.intro (by kernel_rfl) Try.underlying4)))), rfl, rfl, by kernel_rfl, by kernel_rfl⟩
theorem eq57_ok : EqTy Try.prog 57 (.pair (.int .i64) (.pair (.int .i64) (.pair (.arr 8 (.int .i64)) (.arr 8 (.bool))))) := ⟨(Exists.intro _ (And.intro Try.underlying57 (And.intro (by kernel_rfl) (And.intro (by kernel_rfl) (And.intro (by kernel_rfl) (And.intro Try.underlying3 (And.intro (by kernel_rfl) (And.intro (by kernel_rfl) (And.intro Try.underlying3 (And.intro (by kernel_rfl) (And.intro (by kernel_rfl) (And.intro (Exists.intro 3 (And.intro Try.underlying54 (And.intro (by kernel_rfl) (And.intro (by kernel_rfl) Try.underlying3)))) (And.intro (by kernel_rfl) (And.intro (by kernel_rfl) (Exists.intro 4 (And.intro Try.underlying55 (And.intro (by kernel_rfl) (And.intro (by kernel_rfl) Try.underlying4)))))))))))))))))), rfl, rfl, by kernel_rfl, by kernel_rfl⟩
theorem eq59_ok : EqTy Try.prog 59 (.pair (.int .i64) (.int .i64)) := ⟨(Exists.intro _ (And.intro Try.underlying59 (And.intro (by kernel_rfl) (And.intro (by kernel_rfl) (And.intro (by kernel_rfl) (And.intro Try.underlying3 (And.intro (by kernel_rfl) (And.intro (by kernel_rfl) Try.underlying3)))))))), rfl, rfl, by kernel_rfl, by kernel_rfl⟩
theorem eq69_ok : EqTy Try.prog 69 (.pair (.int .i64) (.int .i64)) := ⟨(Exists.intro _ (And.intro Try.underlying69 (And.intro (by kernel_rfl) (And.intro (by kernel_rfl) (And.intro (by kernel_rfl) (And.intro Try.underlying3 (And.intro (by kernel_rfl) (And.intro (by kernel_rfl) Try.underlying3)))))))), rfl, rfl, by kernel_rfl, by kernel_rfl⟩
theorem eq88_ok : EqTy Try.prog 88 (.pair (.int .i64) (.int .i64)) := ⟨(Exists.intro _ (And.intro Try.underlying88 (And.intro (by kernel_rfl) (And.intro (by kernel_rfl) (And.intro (by kernel_rfl) (And.intro Try.underlying3 (And.intro (by kernel_rfl) (And.intro (by kernel_rfl) Try.underlying3)))))))), rfl, rfl, by kernel_rfl, by kernel_rfl⟩
theorem eq117_ok : EqTy Try.prog 117 (.arr 256 (.bool)) := ⟨(Exists.intro 4 (And.intro Try.underlying117 (And.intro (by kernel_rfl) (And.intro (by kernel_rfl) Try.underlying4)))), rfl, rfl, by kernel_rfl, by kernel_rfl⟩
theorem eq135_ok : EqTy Try.prog 135 (.pair (.bool) (.int .i64)) := ⟨(Exists.intro _ (And.intro Try.underlying135 (And.intro (by kernel_rfl) (And.intro (by kernel_rfl) (And.intro (by kernel_rfl) (And.intro Try.underlying4 (And.intro (by kernel_rfl) (And.intro (by kernel_rfl) Try.underlying3)))))))), rfl, rfl, by kernel_rfl, by kernel_rfl⟩
theorem eq139_ok : EqTy Try.prog 139 (.pair (.bool) (.bool)) := ⟨(Exists.intro _ (And.intro Try.underlying139 (And.intro (by kernel_rfl) (And.intro (by kernel_rfl) (And.intro (by kernel_rfl) (And.intro Try.underlying4 (And.intro (by kernel_rfl) (And.intro (by kernel_rfl) Try.underlying4)))))))), rfl, rfl, by kernel_rfl, by kernel_rfl⟩
def env : Env := { tys := [(2, ti2), (3, ti3), (4, ti4), (5, ti5), (6, ti6), (7, ti7), (8, ti8), (9, ti9), (10, ti10), (11, ti11), (12, ti12), (13, ti13), (14, ti14), (15, ti15), (16, ti16), (17, ti17), (18, ti18), (19, ti19), (21, ti21), (22, ti22), (23, ti23), (24, ti24), (29, ti29), (32, ti32), (33, ti33), (34, ti34), (39, ti39), (40, ti40), (41, ti41), (42, ti42), (43, ti43), (54, ti54), (55, ti55), (56, ti56), (57, ti57), (58, ti58), (59, ti59), (66, ti66), (67, ti67), (68, ti68), (69, ti69), (75, ti75), (76, ti76), (77, ti77), (78, ti78), (84, ti84), (85, ti85), (86, ti86), (87, ti87), (88, ti88), (95, ti95), (101, ti101), (102, ti102), (103, ti103), (112, ti112), (117, ti117), (126, ti126), (127, ti127), (128, ti128), (132, ti132), (134, ti134), (135, ti135), (137, ti137), (138, ti138), (139, ti139), (141, ti141), (146, ti146), (147, ti147), (152, ti152), (153, ti153), (154, ti154), (156, ti156), (157, ti157), (158, ti158)], eqs := [(23, .arr 4 (.int .u64)), (24, .arr 4 (.int .u64)), (33, .pair (.int .i64) (.int .i64)), (43, .pair (.int .i64) (.int .u8)), (54, .arr 8 (.int .i64)), (55, .arr 8 (.bool)), (57, .pair (.int .i64) (.pair (.int .i64) (.pair (.arr 8 (.int .i64)) (.arr 8 (.bool))))), (59, .pair (.int .i64) (.int .i64)), (69, .pair (.int .i64) (.int .i64)), (88, .pair (.int .i64) (.int .i64)), (117, .arr 256 (.bool)), (135, .pair (.bool) (.int .i64)), (139, .pair (.bool) (.bool))] }
theorem env_ok : EnvOk Try.prog env := envOk_of_all (E := env) ⟨ti2_ok, ⟨ti3_ok, ⟨ti4_ok, ⟨ti5_ok, ⟨ti6_ok, ⟨ti7_ok, ⟨ti8_ok, ⟨ti9_ok, ⟨ti10_ok, ⟨ti11_ok, ⟨ti12_ok, ⟨ti13_ok, ⟨ti14_ok, ⟨ti15_ok, ⟨ti16_ok, ⟨ti17_ok, ⟨ti18_ok, ⟨ti19_ok, ⟨ti21_ok, ⟨ti22_ok, ⟨ti23_ok, ⟨ti24_ok, ⟨ti29_ok, ⟨ti32_ok, ⟨ti33_ok, ⟨ti34_ok, ⟨ti39_ok, ⟨ti40_ok, ⟨ti41_ok, ⟨ti42_ok, ⟨ti43_ok, ⟨ti54_ok, ⟨ti55_ok, ⟨ti56_ok, ⟨ti57_ok, ⟨ti58_ok, ⟨ti59_ok, ⟨ti66_ok, ⟨ti67_ok, ⟨ti68_ok, ⟨ti69_ok, ⟨ti75_ok, ⟨ti76_ok, ⟨ti77_ok, ⟨ti78_ok, ⟨ti84_ok, ⟨ti85_ok, ⟨ti86_ok, ⟨ti87_ok, ⟨ti88_ok, ⟨ti95_ok, ⟨ti101_ok, ⟨ti102_ok, ⟨ti103_ok, ⟨ti112_ok, ⟨ti117_ok, ⟨ti126_ok, ⟨ti127_ok, ⟨ti128_ok, ⟨ti132_ok, ⟨ti134_ok, ⟨ti135_ok, ⟨ti137_ok, ⟨ti138_ok, ⟨ti139_ok, ⟨ti141_ok, ⟨ti146_ok, ⟨ti147_ok, ⟨ti152_ok, ⟨ti153_ok, ⟨ti154_ok, ⟨ti156_ok, ⟨ti157_ok, ⟨ti158_ok, trivial⟩⟩⟩⟩⟩⟩⟩⟩⟩⟩⟩⟩⟩⟩⟩⟩⟩⟩⟩⟩⟩⟩⟩⟩⟩⟩⟩⟩⟩⟩⟩⟩⟩⟩⟩⟩⟩⟩⟩⟩⟩⟩⟩⟩⟩⟩⟩⟩⟩⟩⟩⟩⟩⟩⟩⟩⟩⟩⟩⟩⟩⟩⟩⟩⟩⟩⟩⟩⟩⟩⟩⟩⟩⟩ ⟨eq23_ok, ⟨eq24_ok, ⟨eq33_ok, ⟨eq43_ok, ⟨eq54_ok, ⟨eq55_ok, ⟨eq57_ok, ⟨eq59_ok, ⟨eq69_ok, ⟨eq88_ok, ⟨eq117_ok, ⟨eq135_ok, ⟨eq139_ok, trivial⟩⟩⟩⟩⟩⟩⟩⟩⟩⟩⟩⟩⟩
end Go.Proofs.Ytollphjlheabdaa
