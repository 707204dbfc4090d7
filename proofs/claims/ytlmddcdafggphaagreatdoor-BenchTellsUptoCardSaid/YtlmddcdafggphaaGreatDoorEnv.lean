/-
  The types of the translation, as the executor wants them, with the proof that they are as the program says. Written by genenv.py.
-/
import Derived.Test.YtlmddcdafggphaaGreatDoorRows
import Derived.Test.YtlmddcdafggphaaGreatDoorSxP4
namespace Go.Proofs.YtlmddcdafggphaaGreatDoor
open Go.Sx
@[reducible] def tyboundsError : Ty := .pair (.int .i64) (.pair (.int .i64) (.pair (.bool) (.int .u8)))
@[reducible] def tyerrorAddressString : Ty := .pair (.str) (.int .u64)
@[reducible] def tyTty : Ty := .pair (.sl (.sl (.int .u8))) (.sl (.int .u8))
@[reducible] def tyWhole : Ty := .pair (.sl (.int .u8)) (.pair (.sl (.int .u8)) (.pair (.pair (.sl (.sl (.int .u8))) (.sl (.int .u8))) (.pair (.int .i64) (.int .i64))))
@[reducible] def tyKernAns : Ty := .pair (.int .i64) (.sl (.int .u8))
@[reducible] def tyKernOp : Ty := .pair (.int .i64) (.pair (.int .i64) (.pair (.int .i64) (.int .u8)))
@[reducible] def tyUart : Ty := .pair (.sl (.int .u8)) (.pair (.sl (.int .u8)) (.pair (.int .i64) (.bool)))
@[reducible] def tyLocal : Ty := .pair (.arr 4 (.int .u64)) (.pair (.arr 4 (.int .u64)) (.int .i64))
@[reducible] def tyCore : Ty := .pair (.bool) (.sl (.pair (.bool) (.bool)))
@[reducible] def tycore : Ty := .pair (.pair (.arr 4 (.int .u64)) (.pair (.arr 4 (.int .u64)) (.int .i64))) (.pair (.pair (.bool) (.sl (.pair (.bool) (.bool)))) (.bool))
@[reducible] def tywhole : Ty := .pair (.pair (.sl (.int .u8)) (.pair (.sl (.int .u8)) (.pair (.int .i64) (.bool)))) (.pair (.sl (.pair (.int .i64) (.pair (.int .i64) (.pair (.bool) (.pair (.bool) (.pair (.bool) (.pair (.bool) (.bool)))))))) (.pair (.arr 2 (.pair (.pair (.arr 4 (.int .u64)) (.pair (.arr 4 (.int .u64)) (.int .i64))) (.pair (.pair (.bool) (.sl (.pair (.bool) (.bool)))) (.bool)))) (.pair (.sl (.int .u8)) (.pair (.pair (.sl (.sl (.int .u8))) (.sl (.int .u8))) (.int .i64)))))
@[reducible] def tyYWhole : Ty := .pair (.sl (.int .u8)) (.pair (.sl (.int .u8)) (.pair (.pair (.sl (.sl (.int .u8))) (.sl (.int .u8))) (.pair (.int .i64) (.pair (.int .i64) (.pair (.int .i64) (.pair (.int .i64) (.pair (.int .i64) (.arr 2 (.int .i64)))))))))
@[reducible] def tyPin : Ty := .pair (.int .i64) (.pair (.int .i64) (.pair (.bool) (.pair (.bool) (.pair (.bool) (.pair (.bool) (.bool))))))
@[reducible] def tyUartOp : Ty := .pair (.int .i64) (.int .u8)
@[reducible] def tyLocalOp : Ty := .pair (.int .i64) (.int .i64)
@[reducible] def tyPinOp : Ty := .pair (.int .i64) (.int .i64)
@[reducible] def tySent : Ty := .pair (.int .i64) (.pair (.int .i64) (.int .i64))
@[reducible] def tyFrame : Ty := .pair (.bool) (.bool)
@[reducible] def tyNumError : Ty := .pair (.str) (.pair (.str) (.err))
/-- func() -/
def ti1 : TI := ⟨1, 8, .scalar (.func #[] #[] false), [.con .nilFunc], none⟩
theorem ti1_ok : TIok Tryz.prog 1 ti1 := TIok.mk1 (by kernel_rfl) (by kernel_rfl) (by kernel_rfl) (.inr rfl) (⟨Tryz.underlying1, trivial⟩) (trivial)
/-- int64 -/
def ti2 : TI := ⟨1, 8, .scalar (.int .i64), [.d (.int .i64) (0 : Int)], some (.int .i64)⟩
theorem ti2_ok : TIok Tryz.prog 2 ti2 := TIok.mk1 (by kernel_rfl) (by kernel_rfl) (by kernel_rfl) (.inr rfl) (⟨Tryz.underlying2, trivial⟩) (⟨by kernel_rfl, by kernel_rfl, by kernel_rfl, by kernel_rfl⟩)
/-- int -/
def ti3 : TI := ⟨1, 8, .scalar (.int .i64), [.d (.int .i64) (0 : Int)], some (.int .i64)⟩
theorem ti3_ok : TIok Tryz.prog 3 ti3 := TIok.mk1 (by kernel_rfl) (by kernel_rfl) (by kernel_rfl) (.inr rfl) (⟨Tryz.underlying3, trivial⟩) (⟨by kernel_rfl, by kernel_rfl, by kernel_rfl, by kernel_rfl⟩)
/-- bool -/
def ti4 : TI := ⟨1, 1, .scalar .bool, [.lit false], some (.bool)⟩
theorem ti4_ok : TIok Tryz.prog 4 ti4 := TIok.mk1 (by kernel_rfl) (by kernel_rfl) (by kernel_rfl) (.inr rfl) (⟨Tryz.underlying4, trivial⟩) (⟨by kernel_rfl, by kernel_rfl, by kernel_rfl, by kernel_rfl⟩)
/-- uint8 -/
def ti5 : TI := ⟨1, 1, .scalar (.int .u8), [.d (.int .u8) (0 : Int)], some (.int .u8)⟩
theorem ti5_ok : TIok Tryz.prog 5 ti5 := TIok.mk1 (by kernel_rfl) (by kernel_rfl) (by kernel_rfl) (.inr rfl) (⟨Tryz.underlying5, trivial⟩) (⟨by kernel_rfl, by kernel_rfl, by kernel_rfl, by kernel_rfl⟩)
/-- abi.BoundsErrorCode -/
def ti6 : TI := ⟨1, 1, .scalar (.int .u8), [.d (.int .u8) (0 : Int)], some (.int .u8)⟩
theorem ti6_ok : TIok Tryz.prog 6 ti6 := TIok.mk1 (by kernel_rfl) (by kernel_rfl) (by kernel_rfl) (.inr rfl) (⟨Tryz.underlying6, trivial⟩) (⟨by kernel_rfl, by kernel_rfl, by kernel_rfl, by kernel_rfl⟩)
/-- struct { x int64; y int; signed bool; code abi.BoundsErrorCode } -/
def ti7 : TI := ⟨4, 24, .struct [(0, 2), (1, 3), (2, 4), (3, 6)], [.d (.int .i64) (0 : Int), .d (.int .i64) (0 : Int), .lit false, .d (.int .u8) (0 : Int)], some (.pair (.int .i64) (.pair (.int .i64) (.pair (.bool) (.int .u8))))⟩
theorem ti7_ok : TIok Tryz.prog 7 ti7 := TIok.mk1 (by kernel_rfl) (by kernel_rfl) (by kernel_rfl) (.inl rfl) (⟨_, Tryz.underlying7, by kernel_rfl⟩) (⟨by kernel_rfl, by kernel_rfl, by kernel_rfl, by kernel_rfl⟩)
/-- runtime.boundsError -/
def ti8 : TI := ⟨4, 24, .struct [(0, 2), (1, 3), (2, 4), (3, 6)], [.d (.int .i64) (0 : Int), .d (.int .i64) (0 : Int), .lit false, .d (.int .u8) (0 : Int)], some (.pair (.int .i64) (.pair (.int .i64) (.pair (.bool) (.int .u8))))⟩
theorem ti8_ok : TIok Tryz.prog 8 ti8 := TIok.mk1 (by kernel_rfl) (by kernel_rfl) (by kernel_rfl) (.inl rfl) (⟨_, Tryz.underlying8, by kernel_rfl⟩) (⟨by kernel_rfl, by kernel_rfl, by kernel_rfl, by kernel_rfl⟩)
/-- string -/
def ti9 : TI := ⟨1, 16, .scalar .string, [.d .str ([] : List Int)], some (.str)⟩
theorem ti9_ok : TIok Tryz.prog 9 ti9 := TIok.mk1 (by kernel_rfl) (by kernel_rfl) (by kernel_rfl) (.inr rfl) (⟨Tryz.underlying9, trivial⟩) (⟨by kernel_rfl, by kernel_rfl, by kernel_rfl, by kernel_rfl⟩)
/-- runtime.errorString -/
def ti10 : TI := ⟨1, 16, .scalar .string, [.d .str ([] : List Int)], some (.str)⟩
theorem ti10_ok : TIok Tryz.prog 10 ti10 := TIok.mk1 (by kernel_rfl) (by kernel_rfl) (by kernel_rfl) (.inr rfl) (⟨Tryz.underlying10, trivial⟩) (⟨by kernel_rfl, by kernel_rfl, by kernel_rfl, by kernel_rfl⟩)
/-- runtime.plainError -/
def ti11 : TI := ⟨1, 16, .scalar .string, [.d .str ([] : List Int)], some (.str)⟩
theorem ti11_ok : TIok Tryz.prog 11 ti11 := TIok.mk1 (by kernel_rfl) (by kernel_rfl) (by kernel_rfl) (.inr rfl) (⟨Tryz.underlying11, trivial⟩) (⟨by kernel_rfl, by kernel_rfl, by kernel_rfl, by kernel_rfl⟩)
/-- uintptr -/
def ti12 : TI := ⟨1, 8, .scalar (.int .u64), [.d (.int .u64) (0 : Int)], some (.int .u64)⟩
theorem ti12_ok : TIok Tryz.prog 12 ti12 := TIok.mk1 (by kernel_rfl) (by kernel_rfl) (by kernel_rfl) (.inr rfl) (⟨Tryz.underlying12, trivial⟩) (⟨by kernel_rfl, by kernel_rfl, by kernel_rfl, by kernel_rfl⟩)
/-- struct { msg string; addr uintptr } -/
def ti13 : TI := ⟨2, 24, .struct [(0, 9), (1, 12)], [.d .str ([] : List Int), .d (.int .u64) (0 : Int)], some (.pair (.str) (.int .u64))⟩
theorem ti13_ok : TIok Tryz.prog 13 ti13 := TIok.mk1 (by kernel_rfl) (by kernel_rfl) (by kernel_rfl) (.inl rfl) (⟨_, Tryz.underlying13, by kernel_rfl⟩) (⟨by kernel_rfl, by kernel_rfl, by kernel_rfl, by kernel_rfl⟩)
/-- runtime.errorAddressString -/
def ti14 : TI := ⟨2, 24, .struct [(0, 9), (1, 12)], [.d .str ([] : List Int), .d (.int .u64) (0 : Int)], some (.pair (.str) (.int .u64))⟩
theorem ti14_ok : TIok Tryz.prog 14 ti14 := TIok.mk1 (by kernel_rfl) (by kernel_rfl) (by kernel_rfl) (.inl rfl) (⟨_, Tryz.underlying14, by kernel_rfl⟩) (⟨by kernel_rfl, by kernel_rfl, by kernel_rfl, by kernel_rfl⟩)
/-- *runtime.TypeAssertionError -/
def ti15 : TI := ⟨1, 8, .scalar (.pointer 195), [.con (.pointer none)], none⟩
theorem ti15_ok : TIok Tryz.prog 15 ti15 := TIok.mk1 (by kernel_rfl) (by kernel_rfl) (by kernel_rfl) (.inr rfl) (⟨Tryz.underlying15, trivial⟩) (trivial)
/-- *runtime.PanicNilError -/
def ti16 : TI := ⟨1, 8, .scalar (.pointer 198), [.con (.pointer none)], none⟩
theorem ti16_ok : TIok Tryz.prog 16 ti16 := TIok.mk1 (by kernel_rfl) (by kernel_rfl) (by kernel_rfl) (.inr rfl) (⟨Tryz.underlying16, trivial⟩) (trivial)
/-- *abi.Type -/
def ti17 : TI := ⟨1, 8, .scalar (.pointer 206), [.con (.pointer none)], none⟩
theorem ti17_ok : TIok Tryz.prog 17 ti17 := TIok.mk1 (by kernel_rfl) (by kernel_rfl) (by kernel_rfl) (.inr rfl) (⟨Tryz.underlying17, trivial⟩) (trivial)
/-- struct { typ *abi.Type } -/
def ti18 : TI := ⟨1, 8, .struct [(0, 17)], [.con (.pointer none)], none⟩
theorem ti18_ok : TIok Tryz.prog 18 ti18 := TIok.mk1 (by kernel_rfl) (by kernel_rfl) (by kernel_rfl) (.inl rfl) (⟨_, Tryz.underlying18, by kernel_rfl⟩) (trivial)
/-- maps.unhashableTypeError -/
def ti19 : TI := ⟨1, 8, .struct [(0, 17)], [.con (.pointer none)], none⟩
theorem ti19_ok : TIok Tryz.prog 19 ti19 := TIok.mk1 (by kernel_rfl) (by kernel_rfl) (by kernel_rfl) (.inl rfl) (⟨_, Tryz.underlying19, by kernel_rfl⟩) (trivial)
/-- int32 -/
def ti21 : TI := ⟨1, 4, .scalar (.int .i32), [.d (.int .i32) (0 : Int)], some (.int .i32)⟩
theorem ti21_ok : TIok Tryz.prog 21 ti21 := TIok.mk1 (by kernel_rfl) (by kernel_rfl) (by kernel_rfl) (.inr rfl) (⟨Tryz.underlying21, trivial⟩) (⟨by kernel_rfl, by kernel_rfl, by kernel_rfl, by kernel_rfl⟩)
/-- []string -/
def ti22 : TI := ⟨1, 24, .slice 9, [.con (.slice none 0 0)], some (.sl (.str))⟩
theorem ti22_ok : TIok Tryz.prog 22 ti22 := TIok.mk1 (by kernel_rfl) (by kernel_rfl) (by kernel_rfl) (.inr rfl) (Tryz.underlying22) (⟨by kernel_rfl, by kernel_rfl, by kernel_rfl, by kernel_rfl⟩)
/-- api.Errno -/
def ti23 : TI := ⟨1, 8, .scalar (.int .i64), [.d (.int .i64) (0 : Int)], some (.int .i64)⟩
theorem ti23_ok : TIok Tryz.prog 23 ti23 := TIok.mk1 (by kernel_rfl) (by kernel_rfl) (by kernel_rfl) (.inr rfl) (⟨Tryz.underlying23, trivial⟩) (⟨by kernel_rfl, by kernel_rfl, by kernel_rfl, by kernel_rfl⟩)
/-- func(string) ([]string, api.Errno) -/
def ti25 : TI := ⟨1, 8, .scalar (.func #[9] #[22, 23] false), [.con .nilFunc], none⟩
theorem ti25_ok : TIok Tryz.prog 25 ti25 := TIok.mk1 (by kernel_rfl) (by kernel_rfl) (by kernel_rfl) (.inr rfl) (⟨Tryz.underlying25, trivial⟩) (trivial)
/-- func([]string, []string) bool -/
def ti26 : TI := ⟨1, 8, .scalar (.func #[22, 22] #[4] false), [.con .nilFunc], none⟩
theorem ti26_ok : TIok Tryz.prog 26 ti26 := TIok.mk1 (by kernel_rfl) (by kernel_rfl) (by kernel_rfl) (.inr rfl) (⟨Tryz.underlying26, trivial⟩) (trivial)
/-- func(string) bool -/
def ti27 : TI := ⟨1, 8, .scalar (.func #[9] #[4] false), [.con .nilFunc], none⟩
theorem ti27_ok : TIok Tryz.prog 27 ti27 := TIok.mk1 (by kernel_rfl) (by kernel_rfl) (by kernel_rfl) (.inr rfl) (⟨Tryz.underlying27, trivial⟩) (trivial)
/-- []api.KernOp -/
def ti28 : TI := ⟨1, 24, .slice 44, [.con (.slice none 0 0)], some (.sl (.pair (.int .i64) (.pair (.int .i64) (.pair (.int .i64) (.int .u8)))))⟩
theorem ti28_ok : TIok Tryz.prog 28 ti28 := TIok.mk1 (by kernel_rfl) (by kernel_rfl) (by kernel_rfl) (.inr rfl) (Tryz.underlying28) (⟨by kernel_rfl, by kernel_rfl, by kernel_rfl, by kernel_rfl⟩)
/-- func(string) ([]api.KernOp, int, api.Errno) -/
def ti30 : TI := ⟨1, 8, .scalar (.func #[9] #[28, 3, 23] false), [.con .nilFunc], none⟩
theorem ti30_ok : TIok Tryz.prog 30 ti30 := TIok.mk1 (by kernel_rfl) (by kernel_rfl) (by kernel_rfl) (.inr rfl) (⟨Tryz.underlying30, trivial⟩) (trivial)
/-- []api.KernAns -/
def ti31 : TI := ⟨1, 24, .slice 41, [.con (.slice none 0 0)], some (.sl (.pair (.int .i64) (.sl (.int .u8))))⟩
theorem ti31_ok : TIok Tryz.prog 31 ti31 := TIok.mk1 (by kernel_rfl) (by kernel_rfl) (by kernel_rfl) (.inr rfl) (Tryz.underlying31) (⟨by kernel_rfl, by kernel_rfl, by kernel_rfl, by kernel_rfl⟩)
/-- []uint8 -/
def ti32 : TI := ⟨1, 24, .slice 5, [.con (.slice none 0 0)], some (.sl (.int .u8))⟩
theorem ti32_ok : TIok Tryz.prog 32 ti32 := TIok.mk1 (by kernel_rfl) (by kernel_rfl) (by kernel_rfl) (.inr rfl) (Tryz.underlying32) (⟨by kernel_rfl, by kernel_rfl, by kernel_rfl, by kernel_rfl⟩)
/-- [][]uint8 -/
def ti33 : TI := ⟨1, 24, .slice 32, [.con (.slice none 0 0)], some (.sl (.sl (.int .u8)))⟩
theorem ti33_ok : TIok Tryz.prog 33 ti33 := TIok.mk1 (by kernel_rfl) (by kernel_rfl) (by kernel_rfl) (.inr rfl) (Tryz.underlying33) (⟨by kernel_rfl, by kernel_rfl, by kernel_rfl, by kernel_rfl⟩)
/-- struct { Lines [][]uint8; Edit []uint8 } -/
def ti34 : TI := ⟨2, 48, .struct [(0, 33), (1, 32)], [.con (.slice none 0 0), .con (.slice none 0 0)], some (.pair (.sl (.sl (.int .u8))) (.sl (.int .u8)))⟩
theorem ti34_ok : TIok Tryz.prog 34 ti34 := TIok.mk1 (by kernel_rfl) (by kernel_rfl) (by kernel_rfl) (.inl rfl) (⟨_, Tryz.underlying34, by kernel_rfl⟩) (⟨by kernel_rfl, by kernel_rfl, by kernel_rfl, by kernel_rfl⟩)
/-- api.Tty -/
def ti35 : TI := ⟨2, 48, .struct [(0, 33), (1, 32)], [.con (.slice none 0 0), .con (.slice none 0 0)], some (.pair (.sl (.sl (.int .u8))) (.sl (.int .u8)))⟩
theorem ti35_ok : TIok Tryz.prog 35 ti35 := TIok.mk1 (by kernel_rfl) (by kernel_rfl) (by kernel_rfl) (.inl rfl) (⟨_, Tryz.underlying35, by kernel_rfl⟩) (⟨by kernel_rfl, by kernel_rfl, by kernel_rfl, by kernel_rfl⟩)
/-- struct { Device []uint8; Fetched []uint8; Tty api.Tty; Lost int; Taken int } -/
def ti36 : TI := ⟨6, 112, .struct [(0, 32), (1, 32), (2, 35), (4, 3), (5, 3)], [.con (.slice none 0 0), .con (.slice none 0 0), .con (.slice none 0 0), .con (.slice none 0 0), .d (.int .i64) (0 : Int), .d (.int .i64) (0 : Int)], some (.pair (.sl (.int .u8)) (.pair (.sl (.int .u8)) (.pair (.pair (.sl (.sl (.int .u8))) (.sl (.int .u8))) (.pair (.int .i64) (.int .i64)))))⟩
theorem ti36_ok : TIok Tryz.prog 36 ti36 := TIok.mk1 (by kernel_rfl) (by kernel_rfl) (by kernel_rfl) (.inl rfl) (⟨_, Tryz.underlying36, by kernel_rfl⟩) (⟨by kernel_rfl, by kernel_rfl, by kernel_rfl, by kernel_rfl⟩)
/-- api.Whole -/
def ti37 : TI := ⟨6, 112, .struct [(0, 32), (1, 32), (2, 35), (4, 3), (5, 3)], [.con (.slice none 0 0), .con (.slice none 0 0), .con (.slice none 0 0), .con (.slice none 0 0), .d (.int .i64) (0 : Int), .d (.int .i64) (0 : Int)], some (.pair (.sl (.int .u8)) (.pair (.sl (.int .u8)) (.pair (.pair (.sl (.sl (.int .u8))) (.sl (.int .u8))) (.pair (.int .i64) (.int .i64)))))⟩
theorem ti37_ok : TIok Tryz.prog 37 ti37 := TIok.mk1 (by kernel_rfl) (by kernel_rfl) (by kernel_rfl) (.inl rfl) (⟨_, Tryz.underlying37, by kernel_rfl⟩) (⟨by kernel_rfl, by kernel_rfl, by kernel_rfl, by kernel_rfl⟩)
/-- func([]api.KernOp) ([]api.KernAns, api.Whole) -/
def ti39 : TI := ⟨1, 8, .scalar (.func #[28] #[31, 37] false), [.con .nilFunc], none⟩
theorem ti39_ok : TIok Tryz.prog 39 ti39 := TIok.mk1 (by kernel_rfl) (by kernel_rfl) (by kernel_rfl) (.inr rfl) (⟨Tryz.underlying39, trivial⟩) (trivial)
/-- struct { Err api.Errno; Data []uint8 } -/
def ti40 : TI := ⟨2, 32, .struct [(0, 23), (1, 32)], [.d (.int .i64) (0 : Int), .con (.slice none 0 0)], some (.pair (.int .i64) (.sl (.int .u8)))⟩
theorem ti40_ok : TIok Tryz.prog 40 ti40 := TIok.mk1 (by kernel_rfl) (by kernel_rfl) (by kernel_rfl) (.inl rfl) (⟨_, Tryz.underlying40, by kernel_rfl⟩) (⟨by kernel_rfl, by kernel_rfl, by kernel_rfl, by kernel_rfl⟩)
/-- api.KernAns -/
def ti41 : TI := ⟨2, 32, .struct [(0, 23), (1, 32)], [.d (.int .i64) (0 : Int), .con (.slice none 0 0)], some (.pair (.int .i64) (.sl (.int .u8)))⟩
theorem ti41_ok : TIok Tryz.prog 41 ti41 := TIok.mk1 (by kernel_rfl) (by kernel_rfl) (by kernel_rfl) (.inl rfl) (⟨_, Tryz.underlying41, by kernel_rfl⟩) (⟨by kernel_rfl, by kernel_rfl, by kernel_rfl, by kernel_rfl⟩)
/-- func(int) string -/
def ti42 : TI := ⟨1, 8, .scalar (.func #[3] #[9] false), [.con .nilFunc], none⟩
theorem ti42_ok : TIok Tryz.prog 42 ti42 := TIok.mk1 (by kernel_rfl) (by kernel_rfl) (by kernel_rfl) (.inr rfl) (⟨Tryz.underlying42, trivial⟩) (trivial)
/-- struct { Kind int; Core int; N int; Byte uint8 } -/
def ti43 : TI := ⟨4, 32, .struct [(0, 3), (1, 3), (2, 3), (3, 5)], [.d (.int .i64) (0 : Int), .d (.int .i64) (0 : Int), .d (.int .i64) (0 : Int), .d (.int .u8) (0 : Int)], some (.pair (.int .i64) (.pair (.int .i64) (.pair (.int .i64) (.int .u8))))⟩
theorem ti43_ok : TIok Tryz.prog 43 ti43 := TIok.mk1 (by kernel_rfl) (by kernel_rfl) (by kernel_rfl) (.inl rfl) (⟨_, Tryz.underlying43, by kernel_rfl⟩) (⟨by kernel_rfl, by kernel_rfl, by kernel_rfl, by kernel_rfl⟩)
/-- api.KernOp -/
def ti44 : TI := ⟨4, 32, .struct [(0, 3), (1, 3), (2, 3), (3, 5)], [.d (.int .i64) (0 : Int), .d (.int .i64) (0 : Int), .d (.int .i64) (0 : Int), .d (.int .u8) (0 : Int)], some (.pair (.int .i64) (.pair (.int .i64) (.pair (.int .i64) (.int .u8))))⟩
theorem ti44_ok : TIok Tryz.prog 44 ti44 := TIok.mk1 (by kernel_rfl) (by kernel_rfl) (by kernel_rfl) (.inl rfl) (⟨_, Tryz.underlying44, by kernel_rfl⟩) (⟨by kernel_rfl, by kernel_rfl, by kernel_rfl, by kernel_rfl⟩)
/-- func([]uint8) string -/
def ti45 : TI := ⟨1, 8, .scalar (.func #[32] #[9] false), [.con .nilFunc], none⟩
theorem ti45_ok : TIok Tryz.prog 45 ti45 := TIok.mk1 (by kernel_rfl) (by kernel_rfl) (by kernel_rfl) (.inr rfl) (⟨Tryz.underlying45, trivial⟩) (trivial)
/-- []int -/
def ti46 : TI := ⟨1, 24, .slice 3, [.con (.slice none 0 0)], some (.sl (.int .i64))⟩
theorem ti46_ok : TIok Tryz.prog 46 ti46 := TIok.mk1 (by kernel_rfl) (by kernel_rfl) (by kernel_rfl) (.inr rfl) (Tryz.underlying46) (⟨by kernel_rfl, by kernel_rfl, by kernel_rfl, by kernel_rfl⟩)
/-- func(int64, int) string -/
def ti47 : TI := ⟨1, 8, .scalar (.func #[2, 3] #[9] false), [.con .nilFunc], none⟩
theorem ti47_ok : TIok Tryz.prog 47 ti47 := TIok.mk1 (by kernel_rfl) (by kernel_rfl) (by kernel_rfl) (.inr rfl) (⟨Tryz.underlying47, trivial⟩) (trivial)
/-- func(string, string) (string, string, bool) -/
def ti49 : TI := ⟨1, 8, .scalar (.func #[9, 9] #[9, 9, 4] false), [.con .nilFunc], none⟩
theorem ti49_ok : TIok Tryz.prog 49 ti49 := TIok.mk1 (by kernel_rfl) (by kernel_rfl) (by kernel_rfl) (.inr rfl) (⟨Tryz.underlying49, trivial⟩) (trivial)
/-- func(string) (api.KernOp, bool) -/
def ti51 : TI := ⟨1, 8, .scalar (.func #[9] #[44, 4] false), [.con .nilFunc], none⟩
theorem ti51_ok : TIok Tryz.prog 51 ti51 := TIok.mk1 (by kernel_rfl) (by kernel_rfl) (by kernel_rfl) (.inr rfl) (⟨Tryz.underlying51, trivial⟩) (trivial)
/-- *kernel.whole -/
def ti52 : TI := ⟨1, 8, .scalar (.pointer 71), [.con (.pointer none)], none⟩
theorem ti52_ok : TIok Tryz.prog 52 ti52 := TIok.mk1 (by kernel_rfl) (by kernel_rfl) (by kernel_rfl) (.inr rfl) (⟨Tryz.underlying52, trivial⟩) (trivial)
/-- func() *kernel.whole -/
def ti53 : TI := ⟨1, 8, .scalar (.func #[] #[52] false), [.con .nilFunc], none⟩
theorem ti53_ok : TIok Tryz.prog 53 ti53 := TIok.mk1 (by kernel_rfl) (by kernel_rfl) (by kernel_rfl) (.inr rfl) (⟨Tryz.underlying53, trivial⟩) (trivial)
/-- func(api.KernOp) api.KernAns -/
def ti54 : TI := ⟨1, 8, .scalar (.func #[44] #[41] false), [.con .nilFunc], none⟩
theorem ti54_ok : TIok Tryz.prog 54 ti54 := TIok.mk1 (by kernel_rfl) (by kernel_rfl) (by kernel_rfl) (.inr rfl) (⟨Tryz.underlying54, trivial⟩) (trivial)
/-- func([]uint8) []uint8 -/
def ti55 : TI := ⟨1, 8, .scalar (.func #[32] #[32] false), [.con .nilFunc], none⟩
theorem ti55_ok : TIok Tryz.prog 55 ti55 := TIok.mk1 (by kernel_rfl) (by kernel_rfl) (by kernel_rfl) (.inr rfl) (⟨Tryz.underlying55, trivial⟩) (trivial)
/-- struct { In []uint8; Out []uint8; Lost int; Asks bool } -/
def ti56 : TI := ⟨4, 64, .struct [(0, 32), (1, 32), (2, 3), (3, 4)], [.con (.slice none 0 0), .con (.slice none 0 0), .d (.int .i64) (0 : Int), .lit false], some (.pair (.sl (.int .u8)) (.pair (.sl (.int .u8)) (.pair (.int .i64) (.bool))))⟩
theorem ti56_ok : TIok Tryz.prog 56 ti56 := TIok.mk1 (by kernel_rfl) (by kernel_rfl) (by kernel_rfl) (.inl rfl) (⟨_, Tryz.underlying56, by kernel_rfl⟩) (⟨by kernel_rfl, by kernel_rfl, by kernel_rfl, by kernel_rfl⟩)
/-- api.Uart -/
def ti57 : TI := ⟨4, 64, .struct [(0, 32), (1, 32), (2, 3), (3, 4)], [.con (.slice none 0 0), .con (.slice none 0 0), .d (.int .i64) (0 : Int), .lit false], some (.pair (.sl (.int .u8)) (.pair (.sl (.int .u8)) (.pair (.int .i64) (.bool))))⟩
theorem ti57_ok : TIok Tryz.prog 57 ti57 := TIok.mk1 (by kernel_rfl) (by kernel_rfl) (by kernel_rfl) (.inl rfl) (⟨_, Tryz.underlying57, by kernel_rfl⟩) (⟨by kernel_rfl, by kernel_rfl, by kernel_rfl, by kernel_rfl⟩)
/-- []api.Pin -/
def ti58 : TI := ⟨1, 24, .slice 94, [.con (.slice none 0 0)], some (.sl (.pair (.int .i64) (.pair (.int .i64) (.pair (.bool) (.pair (.bool) (.pair (.bool) (.pair (.bool) (.bool))))))))⟩
theorem ti58_ok : TIok Tryz.prog 58 ti58 := TIok.mk1 (by kernel_rfl) (by kernel_rfl) (by kernel_rfl) (.inr rfl) (Tryz.underlying58) (⟨by kernel_rfl, by kernel_rfl, by kernel_rfl, by kernel_rfl⟩)
/-- uint64 -/
def ti59 : TI := ⟨1, 8, .scalar (.int .u64), [.d (.int .u64) (0 : Int)], some (.int .u64)⟩
theorem ti59_ok : TIok Tryz.prog 59 ti59 := TIok.mk1 (by kernel_rfl) (by kernel_rfl) (by kernel_rfl) (.inr rfl) (⟨Tryz.underlying59, trivial⟩) (⟨by kernel_rfl, by kernel_rfl, by kernel_rfl, by kernel_rfl⟩)
/-- [4]uint64 -/
def ti60 : TI := ⟨4, 32, .arr 4 59, [.d (.arr 4 (.int .u64)) (List.replicate 4 (Ty.zero (.int .u64)))], some (.arr 4 (.int .u64))⟩
theorem ti60_ok : TIok Tryz.prog 60 ti60 := TIok.mk1 (by kernel_rfl) (by kernel_rfl) (by kernel_rfl) (.inl rfl) (Tryz.underlying60) (⟨by kernel_rfl, by kernel_rfl, by kernel_rfl, by kernel_rfl⟩)
/-- api.Bits -/
def ti61 : TI := ⟨4, 32, .arr 4 59, [.d (.arr 4 (.int .u64)) (List.replicate 4 (Ty.zero (.int .u64)))], some (.arr 4 (.int .u64))⟩
theorem ti61_ok : TIok Tryz.prog 61 ti61 := TIok.mk1 (by kernel_rfl) (by kernel_rfl) (by kernel_rfl) (.inl rfl) (Tryz.underlying61) (⟨by kernel_rfl, by kernel_rfl, by kernel_rfl, by kernel_rfl⟩)
/-- struct { Asked api.Bits; Served api.Bits; Class int } -/
def ti62 : TI := ⟨9, 72, .struct [(0, 61), (4, 61), (8, 3)], [.d (.arr 4 (.int .u64)) (List.replicate 4 (Ty.zero (.int .u64))), .d (.arr 4 (.int .u64)) (List.replicate 4 (Ty.zero (.int .u64))), .d (.int .i64) (0 : Int)], some (.pair (.arr 4 (.int .u64)) (.pair (.arr 4 (.int .u64)) (.int .i64)))⟩
theorem ti62_ok : TIok Tryz.prog 62 ti62 := TIok.mk1 (by kernel_rfl) (by kernel_rfl) (by kernel_rfl) (.inl rfl) (⟨_, Tryz.underlying62, by kernel_rfl⟩) (⟨by kernel_rfl, by kernel_rfl, by kernel_rfl, by kernel_rfl⟩)
/-- api.Local -/
def ti63 : TI := ⟨9, 72, .struct [(0, 61), (4, 61), (8, 3)], [.d (.arr 4 (.int .u64)) (List.replicate 4 (Ty.zero (.int .u64))), .d (.arr 4 (.int .u64)) (List.replicate 4 (Ty.zero (.int .u64))), .d (.int .i64) (0 : Int)], some (.pair (.arr 4 (.int .u64)) (.pair (.arr 4 (.int .u64)) (.int .i64)))⟩
theorem ti63_ok : TIok Tryz.prog 63 ti63 := TIok.mk1 (by kernel_rfl) (by kernel_rfl) (by kernel_rfl) (.inl rfl) (⟨_, Tryz.underlying63, by kernel_rfl⟩) (⟨by kernel_rfl, by kernel_rfl, by kernel_rfl, by kernel_rfl⟩)
/-- []api.Frame -/
def ti64 : TI := ⟨1, 24, .slice 169, [.con (.slice none 0 0)], some (.sl (.pair (.bool) (.bool)))⟩
theorem ti64_ok : TIok Tryz.prog 64 ti64 := TIok.mk1 (by kernel_rfl) (by kernel_rfl) (by kernel_rfl) (.inr rfl) (Tryz.underlying64) (⟨by kernel_rfl, by kernel_rfl, by kernel_rfl, by kernel_rfl⟩)
/-- struct { On bool; Kept []api.Frame } -/
def ti65 : TI := ⟨2, 32, .struct [(0, 4), (1, 64)], [.lit false, .con (.slice none 0 0)], some (.pair (.bool) (.sl (.pair (.bool) (.bool))))⟩
theorem ti65_ok : TIok Tryz.prog 65 ti65 := TIok.mk1 (by kernel_rfl) (by kernel_rfl) (by kernel_rfl) (.inl rfl) (⟨_, Tryz.underlying65, by kernel_rfl⟩) (⟨by kernel_rfl, by kernel_rfl, by kernel_rfl, by kernel_rfl⟩)
/-- api.Core -/
def ti66 : TI := ⟨2, 32, .struct [(0, 4), (1, 64)], [.lit false, .con (.slice none 0 0)], some (.pair (.bool) (.sl (.pair (.bool) (.bool))))⟩
theorem ti66_ok : TIok Tryz.prog 66 ti66 := TIok.mk1 (by kernel_rfl) (by kernel_rfl) (by kernel_rfl) (.inl rfl) (⟨_, Tryz.underlying66, by kernel_rfl⟩) (⟨by kernel_rfl, by kernel_rfl, by kernel_rfl, by kernel_rfl⟩)
/-- struct { local api.Local; nest api.Core; serving bool } -/
def ti67 : TI := ⟨12, 112, .struct [(0, 63), (9, 66), (11, 4)], [.d (.arr 4 (.int .u64)) (List.replicate 4 (Ty.zero (.int .u64))), .d (.arr 4 (.int .u64)) (List.replicate 4 (Ty.zero (.int .u64))), .d (.int .i64) (0 : Int), .lit false, .con (.slice none 0 0), .lit false], some (.pair (.pair (.arr 4 (.int .u64)) (.pair (.arr 4 (.int .u64)) (.int .i64))) (.pair (.pair (.bool) (.sl (.pair (.bool) (.bool)))) (.bool)))⟩
theorem ti67_ok : TIok Tryz.prog 67 ti67 := TIok.mk1 (by kernel_rfl) (by kernel_rfl) (by kernel_rfl) (.inl rfl) (⟨_, Tryz.underlying67, by kernel_rfl⟩) (⟨by kernel_rfl, by kernel_rfl, by kernel_rfl, by kernel_rfl⟩)
/-- kernel.core -/
def ti68 : TI := ⟨12, 112, .struct [(0, 63), (9, 66), (11, 4)], [.d (.arr 4 (.int .u64)) (List.replicate 4 (Ty.zero (.int .u64))), .d (.arr 4 (.int .u64)) (List.replicate 4 (Ty.zero (.int .u64))), .d (.int .i64) (0 : Int), .lit false, .con (.slice none 0 0), .lit false], some (.pair (.pair (.arr 4 (.int .u64)) (.pair (.arr 4 (.int .u64)) (.int .i64))) (.pair (.pair (.bool) (.sl (.pair (.bool) (.bool)))) (.bool)))⟩
theorem ti68_ok : TIok Tryz.prog 68 ti68 := TIok.mk1 (by kernel_rfl) (by kernel_rfl) (by kernel_rfl) (.inl rfl) (⟨_, Tryz.underlying68, by kernel_rfl⟩) (⟨by kernel_rfl, by kernel_rfl, by kernel_rfl, by kernel_rfl⟩)
/-- [2]kernel.core -/
def ti69 : TI := ⟨24, 224, .arr 2 68, [.d (.arr 2 (.pair (.pair (.arr 4 (.int .u64)) (.pair (.arr 4 (.int .u64)) (.int .i64))) (.pair (.pair (.bool) (.sl (.pair (.bool) (.bool)))) (.bool)))) (List.replicate 2 (Ty.zero (.pair (.pair (.arr 4 (.int .u64)) (.pair (.arr 4 (.int .u64)) (.int .i64))) (.pair (.pair (.bool) (.sl (.pair (.bool) (.bool)))) (.bool)))))], some (.arr 2 (.pair (.pair (.arr 4 (.int .u64)) (.pair (.arr 4 (.int .u64)) (.int .i64))) (.pair (.pair (.bool) (.sl (.pair (.bool) (.bool)))) (.bool))))⟩
theorem ti69_ok : TIok Tryz.prog 69 ti69 := TIok.mk1 (by kernel_rfl) (by kernel_rfl) (by kernel_rfl) (.inl rfl) (Tryz.underlying69) (⟨by kernel_rfl, by kernel_rfl, by kernel_rfl, by kernel_rfl⟩)
/-- struct { uart api.Uart; pins []api.Pin; cores [2]kernel.core; fetched []uint8; tty api.Tty; taken int } -/
def ti70 : TI := ⟨33, 392, .struct [(0, 57), (4, 58), (5, 69), (29, 32), (30, 35), (32, 3)], [.con (.slice none 0 0), .con (.slice none 0 0), .d (.int .i64) (0 : Int), .lit false, .con (.slice none 0 0), .d (.arr 2 (.pair (.pair (.arr 4 (.int .u64)) (.pair (.arr 4 (.int .u64)) (.int .i64))) (.pair (.pair (.bool) (.sl (.pair (.bool) (.bool)))) (.bool)))) (List.replicate 2 (Ty.zero (.pair (.pair (.arr 4 (.int .u64)) (.pair (.arr 4 (.int .u64)) (.int .i64))) (.pair (.pair (.bool) (.sl (.pair (.bool) (.bool)))) (.bool))))), .con (.slice none 0 0), .con (.slice none 0 0), .con (.slice none 0 0), .d (.int .i64) (0 : Int)], some (.pair (.pair (.sl (.int .u8)) (.pair (.sl (.int .u8)) (.pair (.int .i64) (.bool)))) (.pair (.sl (.pair (.int .i64) (.pair (.int .i64) (.pair (.bool) (.pair (.bool) (.pair (.bool) (.pair (.bool) (.bool)))))))) (.pair (.arr 2 (.pair (.pair (.arr 4 (.int .u64)) (.pair (.arr 4 (.int .u64)) (.int .i64))) (.pair (.pair (.bool) (.sl (.pair (.bool) (.bool)))) (.bool)))) (.pair (.sl (.int .u8)) (.pair (.pair (.sl (.sl (.int .u8))) (.sl (.int .u8))) (.int .i64))))))⟩
theorem ti70_ok : TIok Tryz.prog 70 ti70 := TIok.mk1 (by kernel_rfl) (by kernel_rfl) (by kernel_rfl) (.inl rfl) (⟨_, Tryz.underlying70, by kernel_rfl⟩) (⟨by kernel_rfl, by kernel_rfl, by kernel_rfl, by kernel_rfl⟩)
/-- kernel.whole -/
def ti71 : TI := ⟨33, 392, .struct [(0, 57), (4, 58), (5, 69), (29, 32), (30, 35), (32, 3)], [.con (.slice none 0 0), .con (.slice none 0 0), .d (.int .i64) (0 : Int), .lit false, .con (.slice none 0 0), .d (.arr 2 (.pair (.pair (.arr 4 (.int .u64)) (.pair (.arr 4 (.int .u64)) (.int .i64))) (.pair (.pair (.bool) (.sl (.pair (.bool) (.bool)))) (.bool)))) (List.replicate 2 (Ty.zero (.pair (.pair (.arr 4 (.int .u64)) (.pair (.arr 4 (.int .u64)) (.int .i64))) (.pair (.pair (.bool) (.sl (.pair (.bool) (.bool)))) (.bool))))), .con (.slice none 0 0), .con (.slice none 0 0), .con (.slice none 0 0), .d (.int .i64) (0 : Int)], some (.pair (.pair (.sl (.int .u8)) (.pair (.sl (.int .u8)) (.pair (.int .i64) (.bool)))) (.pair (.sl (.pair (.int .i64) (.pair (.int .i64) (.pair (.bool) (.pair (.bool) (.pair (.bool) (.pair (.bool) (.bool)))))))) (.pair (.arr 2 (.pair (.pair (.arr 4 (.int .u64)) (.pair (.arr 4 (.int .u64)) (.int .i64))) (.pair (.pair (.bool) (.sl (.pair (.bool) (.bool)))) (.bool)))) (.pair (.sl (.int .u8)) (.pair (.pair (.sl (.sl (.int .u8))) (.sl (.int .u8))) (.int .i64))))))⟩
theorem ti71_ok : TIok Tryz.prog 71 ti71 := TIok.mk1 (by kernel_rfl) (by kernel_rfl) (by kernel_rfl) (.inl rfl) (⟨_, Tryz.underlying71, by kernel_rfl⟩) (⟨by kernel_rfl, by kernel_rfl, by kernel_rfl, by kernel_rfl⟩)
/-- *strings.Builder -/
def ti72 : TI := ⟨1, 8, .scalar (.pointer 74), [.con (.pointer none)], none⟩
theorem ti72_ok : TIok Tryz.prog 72 ti72 := TIok.mk1 (by kernel_rfl) (by kernel_rfl) (by kernel_rfl) (.inr rfl) (⟨Tryz.underlying72, trivial⟩) (trivial)
/-- struct { addr *strings.Builder; buf []uint8 } -/
def ti73 : TI := ⟨2, 32, .struct [(0, 72), (1, 32)], [.con (.pointer none), .con (.slice none 0 0)], none⟩
theorem ti73_ok : TIok Tryz.prog 73 ti73 := TIok.mk1 (by kernel_rfl) (by kernel_rfl) (by kernel_rfl) (.inl rfl) (⟨_, Tryz.underlying73, by kernel_rfl⟩) (trivial)
/-- strings.Builder -/
def ti74 : TI := ⟨2, 32, .struct [(0, 72), (1, 32)], [.con (.pointer none), .con (.slice none 0 0)], none⟩
theorem ti74_ok : TIok Tryz.prog 74 ti74 := TIok.mk1 (by kernel_rfl) (by kernel_rfl) (by kernel_rfl) (.inl rfl) (⟨_, Tryz.underlying74, by kernel_rfl⟩) (trivial)
/-- interface { Error() string } -/
def ti75 : TI := ⟨1, 16, .scalar (.interface #[("Error", 79)]), [.con .nilIface], some (.err)⟩
theorem ti75_ok : TIok Tryz.prog 75 ti75 := TIok.mk1 (by kernel_rfl) (by kernel_rfl) (by kernel_rfl) (.inr rfl) (⟨Tryz.underlying75, trivial⟩) (⟨by kernel_rfl, by kernel_rfl, by kernel_rfl, by kernel_rfl⟩)
/-- error -/
def ti76 : TI := ⟨1, 16, .scalar (.interface #[("Error", 79)]), [.con .nilIface], some (.err)⟩
theorem ti76_ok : TIok Tryz.prog 76 ti76 := TIok.mk1 (by kernel_rfl) (by kernel_rfl) (by kernel_rfl) (.inr rfl) (⟨Tryz.underlying76, trivial⟩) (⟨by kernel_rfl, by kernel_rfl, by kernel_rfl, by kernel_rfl⟩)
/-- func(uint8) error -/
def ti77 : TI := ⟨1, 8, .scalar (.func #[5] #[76] false), [.con .nilFunc], none⟩
theorem ti77_ok : TIok Tryz.prog 77 ti77 := TIok.mk1 (by kernel_rfl) (by kernel_rfl) (by kernel_rfl) (.inr rfl) (⟨Tryz.underlying77, trivial⟩) (trivial)
/-- uint -/
def ti78 : TI := ⟨1, 8, .scalar (.int .u64), [.d (.int .u64) (0 : Int)], some (.int .u64)⟩
theorem ti78_ok : TIok Tryz.prog 78 ti78 := TIok.mk1 (by kernel_rfl) (by kernel_rfl) (by kernel_rfl) (.inr rfl) (⟨Tryz.underlying78, trivial⟩) (⟨by kernel_rfl, by kernel_rfl, by kernel_rfl, by kernel_rfl⟩)
/-- func() string -/
def ti79 : TI := ⟨1, 8, .scalar (.func #[] #[9] false), [.con .nilFunc], none⟩
theorem ti79_ok : TIok Tryz.prog 79 ti79 := TIok.mk1 (by kernel_rfl) (by kernel_rfl) (by kernel_rfl) (.inr rfl) (⟨Tryz.underlying79, trivial⟩) (trivial)
/-- [2]int -/
def ti80 : TI := ⟨2, 16, .arr 2 3, [.d (.arr 2 (.int .i64)) (List.replicate 2 (Ty.zero (.int .i64)))], some (.arr 2 (.int .i64))⟩
theorem ti80_ok : TIok Tryz.prog 80 ti80 := TIok.mk1 (by kernel_rfl) (by kernel_rfl) (by kernel_rfl) (.inl rfl) (Tryz.underlying80) (⟨by kernel_rfl, by kernel_rfl, by kernel_rfl, by kernel_rfl⟩)
/-- struct { device []uint8; fetched []uint8; tty api.Tty; lost int; taken int; asked int; serves int; pin int; saved [2]int } -/
def ti81 : TI := ⟨11, 152, .struct [(0, 32), (1, 32), (2, 35), (4, 3), (5, 3), (6, 3), (7, 3), (8, 3), (9, 80)], [.con (.slice none 0 0), .con (.slice none 0 0), .con (.slice none 0 0), .con (.slice none 0 0), .d (.int .i64) (0 : Int), .d (.int .i64) (0 : Int), .d (.int .i64) (0 : Int), .d (.int .i64) (0 : Int), .d (.int .i64) (0 : Int), .d (.arr 2 (.int .i64)) (List.replicate 2 (Ty.zero (.int .i64)))], some (.pair (.sl (.int .u8)) (.pair (.sl (.int .u8)) (.pair (.pair (.sl (.sl (.int .u8))) (.sl (.int .u8))) (.pair (.int .i64) (.pair (.int .i64) (.pair (.int .i64) (.pair (.int .i64) (.pair (.int .i64) (.arr 2 (.int .i64))))))))))⟩
theorem ti81_ok : TIok Tryz.prog 81 ti81 := TIok.mk1 (by kernel_rfl) (by kernel_rfl) (by kernel_rfl) (.inl rfl) (⟨_, Tryz.underlying81, by kernel_rfl⟩) (⟨by kernel_rfl, by kernel_rfl, by kernel_rfl, by kernel_rfl⟩)
/-- corebellref.YWhole -/
def ti82 : TI := ⟨11, 152, .struct [(0, 32), (1, 32), (2, 35), (4, 3), (5, 3), (6, 3), (7, 3), (8, 3), (9, 80)], [.con (.slice none 0 0), .con (.slice none 0 0), .con (.slice none 0 0), .con (.slice none 0 0), .d (.int .i64) (0 : Int), .d (.int .i64) (0 : Int), .d (.int .i64) (0 : Int), .d (.int .i64) (0 : Int), .d (.int .i64) (0 : Int), .d (.arr 2 (.int .i64)) (List.replicate 2 (Ty.zero (.int .i64)))], some (.pair (.sl (.int .u8)) (.pair (.sl (.int .u8)) (.pair (.pair (.sl (.sl (.int .u8))) (.sl (.int .u8))) (.pair (.int .i64) (.pair (.int .i64) (.pair (.int .i64) (.pair (.int .i64) (.pair (.int .i64) (.arr 2 (.int .i64))))))))))⟩
theorem ti82_ok : TIok Tryz.prog 82 ti82 := TIok.mk1 (by kernel_rfl) (by kernel_rfl) (by kernel_rfl) (.inl rfl) (⟨_, Tryz.underlying82, by kernel_rfl⟩) (⟨by kernel_rfl, by kernel_rfl, by kernel_rfl, by kernel_rfl⟩)
/-- func(corebellref.YWhole, api.KernOp) (corebellref.YWhole, api.KernAns) -/
def ti84 : TI := ⟨1, 8, .scalar (.func #[82, 44] #[82, 41] false), [.con .nilFunc], none⟩
theorem ti84_ok : TIok Tryz.prog 84 ti84 := TIok.mk1 (by kernel_rfl) (by kernel_rfl) (by kernel_rfl) (.inr rfl) (⟨Tryz.underlying84, trivial⟩) (trivial)
/-- func(string) (int, error) -/
def ti86 : TI := ⟨1, 8, .scalar (.func #[9] #[3, 76] false), [.con .nilFunc], none⟩
theorem ti86_ok : TIok Tryz.prog 86 ti86 := TIok.mk1 (by kernel_rfl) (by kernel_rfl) (by kernel_rfl) (.inr rfl) (⟨Tryz.underlying86, trivial⟩) (trivial)
/-- func() []string -/
def ti87 : TI := ⟨1, 8, .scalar (.func #[] #[22] false), [.con .nilFunc], none⟩
theorem ti87_ok : TIok Tryz.prog 87 ti87 := TIok.mk1 (by kernel_rfl) (by kernel_rfl) (by kernel_rfl) (.inr rfl) (⟨Tryz.underlying87, trivial⟩) (trivial)
/-- *int -/
def ti88 : TI := ⟨1, 8, .scalar (.pointer 3), [.con (.pointer none)], none⟩
theorem ti88_ok : TIok Tryz.prog 88 ti88 := TIok.mk1 (by kernel_rfl) (by kernel_rfl) (by kernel_rfl) (.inr rfl) (⟨Tryz.underlying88, trivial⟩) (trivial)
/-- func(*api.KernOp) *int -/
def ti89 : TI := ⟨1, 8, .scalar (.func #[90] #[88] false), [.con .nilFunc], none⟩
theorem ti89_ok : TIok Tryz.prog 89 ti89 := TIok.mk1 (by kernel_rfl) (by kernel_rfl) (by kernel_rfl) (.inr rfl) (⟨Tryz.underlying89, trivial⟩) (trivial)
/-- *api.KernOp -/
def ti90 : TI := ⟨1, 8, .scalar (.pointer 44), [.con (.pointer none)], none⟩
theorem ti90_ok : TIok Tryz.prog 90 ti90 := TIok.mk1 (by kernel_rfl) (by kernel_rfl) (by kernel_rfl) (.inr rfl) (⟨Tryz.underlying90, trivial⟩) (trivial)
/-- func(api.KernOp) (string, bool) -/
def ti92 : TI := ⟨1, 8, .scalar (.func #[44] #[9, 4] false), [.con .nilFunc], none⟩
theorem ti92_ok : TIok Tryz.prog 92 ti92 := TIok.mk1 (by kernel_rfl) (by kernel_rfl) (by kernel_rfl) (.inr rfl) (⟨Tryz.underlying92, trivial⟩) (trivial)
/-- struct { Core int; Vec int; Level bool; Masked bool; Up bool; Kept bool; Sent bool } -/
def ti93 : TI := ⟨7, 24, .struct [(0, 3), (1, 3), (2, 4), (3, 4), (4, 4), (5, 4), (6, 4)], [.d (.int .i64) (0 : Int), .d (.int .i64) (0 : Int), .lit false, .lit false, .lit false, .lit false, .lit false], some (.pair (.int .i64) (.pair (.int .i64) (.pair (.bool) (.pair (.bool) (.pair (.bool) (.pair (.bool) (.bool)))))))⟩
theorem ti93_ok : TIok Tryz.prog 93 ti93 := TIok.mk1 (by kernel_rfl) (by kernel_rfl) (by kernel_rfl) (.inl rfl) (⟨_, Tryz.underlying93, by kernel_rfl⟩) (⟨by kernel_rfl, by kernel_rfl, by kernel_rfl, by kernel_rfl⟩)
/-- api.Pin -/
def ti94 : TI := ⟨7, 24, .struct [(0, 3), (1, 3), (2, 4), (3, 4), (4, 4), (5, 4), (6, 4)], [.d (.int .i64) (0 : Int), .d (.int .i64) (0 : Int), .lit false, .lit false, .lit false, .lit false, .lit false], some (.pair (.int .i64) (.pair (.int .i64) (.pair (.bool) (.pair (.bool) (.pair (.bool) (.pair (.bool) (.bool)))))))⟩
theorem ti94_ok : TIok Tryz.prog 94 ti94 := TIok.mk1 (by kernel_rfl) (by kernel_rfl) (by kernel_rfl) (.inl rfl) (⟨_, Tryz.underlying94, by kernel_rfl⟩) (⟨by kernel_rfl, by kernel_rfl, by kernel_rfl, by kernel_rfl⟩)
/-- func(api.Errno) api.KernAns -/
def ti95 : TI := ⟨1, 8, .scalar (.func #[23] #[41] false), [.con .nilFunc], none⟩
theorem ti95_ok : TIok Tryz.prog 95 ti95 := TIok.mk1 (by kernel_rfl) (by kernel_rfl) (by kernel_rfl) (.inr rfl) (⟨Tryz.underlying95, trivial⟩) (trivial)
/-- func(api.UartOp) (uint8, api.Errno) -/
def ti97 : TI := ⟨1, 8, .scalar (.func #[99] #[5, 23] false), [.con .nilFunc], none⟩
theorem ti97_ok : TIok Tryz.prog 97 ti97 := TIok.mk1 (by kernel_rfl) (by kernel_rfl) (by kernel_rfl) (.inr rfl) (⟨Tryz.underlying97, trivial⟩) (trivial)
/-- struct { Kind int; Byte uint8 } -/
def ti98 : TI := ⟨2, 16, .struct [(0, 3), (1, 5)], [.d (.int .i64) (0 : Int), .d (.int .u8) (0 : Int)], some (.pair (.int .i64) (.int .u8))⟩
theorem ti98_ok : TIok Tryz.prog 98 ti98 := TIok.mk1 (by kernel_rfl) (by kernel_rfl) (by kernel_rfl) (.inl rfl) (⟨_, Tryz.underlying98, by kernel_rfl⟩) (⟨by kernel_rfl, by kernel_rfl, by kernel_rfl, by kernel_rfl⟩)
/-- api.UartOp -/
def ti99 : TI := ⟨2, 16, .struct [(0, 3), (1, 5)], [.d (.int .i64) (0 : Int), .d (.int .u8) (0 : Int)], some (.pair (.int .i64) (.int .u8))⟩
theorem ti99_ok : TIok Tryz.prog 99 ti99 := TIok.mk1 (by kernel_rfl) (by kernel_rfl) (by kernel_rfl) (.inl rfl) (⟨_, Tryz.underlying99, by kernel_rfl⟩) (⟨by kernel_rfl, by kernel_rfl, by kernel_rfl, by kernel_rfl⟩)
/-- func(int) api.Errno -/
def ti100 : TI := ⟨1, 8, .scalar (.func #[3] #[23] false), [.con .nilFunc], none⟩
theorem ti100_ok : TIok Tryz.prog 100 ti100 := TIok.mk1 (by kernel_rfl) (by kernel_rfl) (by kernel_rfl) (.inr rfl) (⟨Tryz.underlying100, trivial⟩) (trivial)
/-- func(api.Tty, int) (api.Tty, []uint8, api.Errno) -/
def ti102 : TI := ⟨1, 8, .scalar (.func #[35, 3] #[35, 32, 23] false), [.con .nilFunc], none⟩
theorem ti102_ok : TIok Tryz.prog 102 ti102 := TIok.mk1 (by kernel_rfl) (by kernel_rfl) (by kernel_rfl) (.inr rfl) (⟨Tryz.underlying102, trivial⟩) (trivial)
/-- *kernel.core -/
def ti103 : TI := ⟨1, 8, .scalar (.pointer 68), [.con (.pointer none)], none⟩
theorem ti103_ok : TIok Tryz.prog 103 ti103 := TIok.mk1 (by kernel_rfl) (by kernel_rfl) (by kernel_rfl) (.inr rfl) (⟨Tryz.underlying103, trivial⟩) (trivial)
/-- map[int]int -/
def ti104 : TI := ⟨1, 8, .scalar (.map 3 3), [.con (.map none)], none⟩
theorem ti104_ok : TIok Tryz.prog 104 ti104 := TIok.mk1 (by kernel_rfl) (by kernel_rfl) (by kernel_rfl) (.inr rfl) (⟨Tryz.underlying104, trivial⟩) (trivial)
/-- *uint8 -/
def ti105 : TI := ⟨1, 8, .scalar (.pointer 5), [.con (.pointer none)], none⟩
theorem ti105_ok : TIok Tryz.prog 105 ti105 := TIok.mk1 (by kernel_rfl) (by kernel_rfl) (by kernel_rfl) (.inr rfl) (⟨Tryz.underlying105, trivial⟩) (trivial)
/-- func(*api.KernOp) (string, *int) -/
def ti107 : TI := ⟨1, 8, .scalar (.func #[90] #[9, 88] false), [.con .nilFunc], none⟩
theorem ti107_ok : TIok Tryz.prog 107 ti107 := TIok.mk1 (by kernel_rfl) (by kernel_rfl) (by kernel_rfl) (.inr rfl) (⟨Tryz.underlying107, trivial⟩) (trivial)
/-- func(string, int, int) (uint64, error) -/
def ti109 : TI := ⟨1, 8, .scalar (.func #[9, 3, 3] #[59, 76] false), [.con .nilFunc], none⟩
theorem ti109_ok : TIok Tryz.prog 109 ti109 := TIok.mk1 (by kernel_rfl) (by kernel_rfl) (by kernel_rfl) (.inr rfl) (⟨Tryz.underlying109, trivial⟩) (trivial)
/-- func(uint64, int) string -/
def ti110 : TI := ⟨1, 8, .scalar (.func #[59, 3] #[9] false), [.con .nilFunc], none⟩
theorem ti110_ok : TIok Tryz.prog 110 ti110 := TIok.mk1 (by kernel_rfl) (by kernel_rfl) (by kernel_rfl) (.inr rfl) (⟨Tryz.underlying110, trivial⟩) (trivial)
/-- func(api.Tty, uint8) (api.Tty, api.Errno) -/
def ti112 : TI := ⟨1, 8, .scalar (.func #[35, 5] #[35, 23] false), [.con .nilFunc], none⟩
theorem ti112_ok : TIok Tryz.prog 112 ti112 := TIok.mk1 (by kernel_rfl) (by kernel_rfl) (by kernel_rfl) (.inr rfl) (⟨Tryz.underlying112, trivial⟩) (trivial)
/-- [24]uint8 -/
def ti113 : TI := ⟨24, 24, .arr 24 5, [.d (.arr 24 (.int .u8)) (List.replicate 24 (Ty.zero (.int .u8)))], some (.arr 24 (.int .u8))⟩
theorem ti113_ok : TIok Tryz.prog 113 ti113 := TIok.mk1 (by kernel_rfl) (by kernel_rfl) (by kernel_rfl) (.inl rfl) (Tryz.underlying113) (⟨by kernel_rfl, by kernel_rfl, by kernel_rfl, by kernel_rfl⟩)
/-- func(uint64) int -/
def ti114 : TI := ⟨1, 8, .scalar (.func #[59] #[3] false), [.con .nilFunc], none⟩
theorem ti114_ok : TIok Tryz.prog 114 ti114 := TIok.mk1 (by kernel_rfl) (by kernel_rfl) (by kernel_rfl) (.inr rfl) (⟨Tryz.underlying114, trivial⟩) (trivial)
/-- func([]uint8, uint64) -/
def ti115 : TI := ⟨1, 8, .scalar (.func #[32, 59] #[] false), [.con .nilFunc], none⟩
theorem ti115_ok : TIok Tryz.prog 115 ti115 := TIok.mk1 (by kernel_rfl) (by kernel_rfl) (by kernel_rfl) (.inr rfl) (⟨Tryz.underlying115, trivial⟩) (trivial)
/-- func([]uint8, uint64, int, bool, bool) ([]uint8, string) -/
def ti117 : TI := ⟨1, 8, .scalar (.func #[32, 59, 3, 4, 4] #[32, 9] false), [.con .nilFunc], none⟩
theorem ti117_ok : TIok Tryz.prog 117 ti117 := TIok.mk1 (by kernel_rfl) (by kernel_rfl) (by kernel_rfl) (.inr rfl) (⟨Tryz.underlying117, trivial⟩) (trivial)
/-- func(string, string) int -/
def ti118 : TI := ⟨1, 8, .scalar (.func #[9, 9] #[3] false), [.con .nilFunc], none⟩
theorem ti118_ok : TIok Tryz.prog 118 ti118 := TIok.mk1 (by kernel_rfl) (by kernel_rfl) (by kernel_rfl) (.inr rfl) (⟨Tryz.underlying118, trivial⟩) (trivial)
/-- func(string, string, int, int, error) error -/
def ti119 : TI := ⟨1, 8, .scalar (.func #[9, 9, 3, 3, 76] #[76] false), [.con .nilFunc], none⟩
theorem ti119_ok : TIok Tryz.prog 119 ti119 := TIok.mk1 (by kernel_rfl) (by kernel_rfl) (by kernel_rfl) (.inr rfl) (⟨Tryz.underlying119, trivial⟩) (trivial)
/-- func(api.Uart, api.UartOp) (api.Uart, uint8, api.Errno) -/
def ti121 : TI := ⟨1, 8, .scalar (.func #[57, 99] #[57, 5, 23] false), [.con .nilFunc], none⟩
theorem ti121_ok : TIok Tryz.prog 121 ti121 := TIok.mk1 (by kernel_rfl) (by kernel_rfl) (by kernel_rfl) (.inr rfl) (⟨Tryz.underlying121, trivial⟩) (trivial)
/-- func(api.Local, api.LocalOp) (api.Local, int, api.Errno) -/
def ti123 : TI := ⟨1, 8, .scalar (.func #[63, 125] #[63, 3, 23] false), [.con .nilFunc], none⟩
theorem ti123_ok : TIok Tryz.prog 123 ti123 := TIok.mk1 (by kernel_rfl) (by kernel_rfl) (by kernel_rfl) (.inr rfl) (⟨Tryz.underlying123, trivial⟩) (trivial)
/-- struct { Kind int; N int } -/
def ti124 : TI := ⟨2, 16, .struct [(0, 3), (1, 3)], [.d (.int .i64) (0 : Int), .d (.int .i64) (0 : Int)], some (.pair (.int .i64) (.int .i64))⟩
theorem ti124_ok : TIok Tryz.prog 124 ti124 := TIok.mk1 (by kernel_rfl) (by kernel_rfl) (by kernel_rfl) (.inl rfl) (⟨_, Tryz.underlying124, by kernel_rfl⟩) (⟨by kernel_rfl, by kernel_rfl, by kernel_rfl, by kernel_rfl⟩)
/-- api.LocalOp -/
def ti125 : TI := ⟨2, 16, .struct [(0, 3), (1, 3)], [.d (.int .i64) (0 : Int), .d (.int .i64) (0 : Int)], some (.pair (.int .i64) (.int .i64))⟩
theorem ti125_ok : TIok Tryz.prog 125 ti125 := TIok.mk1 (by kernel_rfl) (by kernel_rfl) (by kernel_rfl) (.inl rfl) (⟨_, Tryz.underlying125, by kernel_rfl⟩) (⟨by kernel_rfl, by kernel_rfl, by kernel_rfl, by kernel_rfl⟩)
/-- func(int) -/
def ti126 : TI := ⟨1, 8, .scalar (.func #[3] #[] false), [.con .nilFunc], none⟩
theorem ti126_ok : TIok Tryz.prog 126 ti126 := TIok.mk1 (by kernel_rfl) (by kernel_rfl) (by kernel_rfl) (.inr rfl) (⟨Tryz.underlying126, trivial⟩) (trivial)
/-- func(api.Local) int -/
def ti127 : TI := ⟨1, 8, .scalar (.func #[63] #[3] false), [.con .nilFunc], none⟩
theorem ti127_ok : TIok Tryz.prog 127 ti127 := TIok.mk1 (by kernel_rfl) (by kernel_rfl) (by kernel_rfl) (.inr rfl) (⟨Tryz.underlying127, trivial⟩) (trivial)
/-- func(api.Tty) bool -/
def ti128 : TI := ⟨1, 8, .scalar (.func #[35] #[4] false), [.con .nilFunc], none⟩
theorem ti128_ok : TIok Tryz.prog 128 ti128 := TIok.mk1 (by kernel_rfl) (by kernel_rfl) (by kernel_rfl) (.inr rfl) (⟨Tryz.underlying128, trivial⟩) (trivial)
/-- func(api.Tty) api.Tty -/
def ti129 : TI := ⟨1, 8, .scalar (.func #[35] #[35] false), [.con .nilFunc], none⟩
theorem ti129_ok : TIok Tryz.prog 129 ti129 := TIok.mk1 (by kernel_rfl) (by kernel_rfl) (by kernel_rfl) (.inr rfl) (⟨Tryz.underlying129, trivial⟩) (trivial)
/-- func(api.Core, int) (api.Core, api.Errno) -/
def ti131 : TI := ⟨1, 8, .scalar (.func #[66, 3] #[66, 23] false), [.con .nilFunc], none⟩
theorem ti131_ok : TIok Tryz.prog 131 ti131 := TIok.mk1 (by kernel_rfl) (by kernel_rfl) (by kernel_rfl) (.inr rfl) (⟨Tryz.underlying131, trivial⟩) (trivial)
/-- func(unsafe.Pointer) unsafe.Pointer -/
def ti133 : TI := ⟨1, 8, .scalar (.func #[132] #[132] false), [.con .nilFunc], none⟩
theorem ti133_ok : TIok Tryz.prog 133 ti133 := TIok.mk1 (by kernel_rfl) (by kernel_rfl) (by kernel_rfl) (.inr rfl) (⟨Tryz.underlying133, trivial⟩) (trivial)
/-- func(string, string) bool -/
def ti134 : TI := ⟨1, 8, .scalar (.func #[9, 9] #[4] false), [.con .nilFunc], none⟩
theorem ti134_ok : TIok Tryz.prog 134 ti134 := TIok.mk1 (by kernel_rfl) (by kernel_rfl) (by kernel_rfl) (.inr rfl) (⟨Tryz.underlying134, trivial⟩) (trivial)
/-- func(string, uint8) int -/
def ti135 : TI := ⟨1, 8, .scalar (.func #[9, 5] #[3] false), [.con .nilFunc], none⟩
theorem ti135_ok : TIok Tryz.prog 135 ti135 := TIok.mk1 (by kernel_rfl) (by kernel_rfl) (by kernel_rfl) (.inr rfl) (⟨Tryz.underlying135, trivial⟩) (trivial)
/-- func(int) int -/
def ti136 : TI := ⟨1, 8, .scalar (.func #[3] #[3] false), [.con .nilFunc], none⟩
theorem ti136_ok : TIok Tryz.prog 136 ti136 := TIok.mk1 (by kernel_rfl) (by kernel_rfl) (by kernel_rfl) (.inr rfl) (⟨Tryz.underlying136, trivial⟩) (trivial)
/-- func(bool) int -/
def ti137 : TI := ⟨1, 8, .scalar (.func #[4] #[3] false), [.con .nilFunc], none⟩
theorem ti137_ok : TIok Tryz.prog 137 ti137 := TIok.mk1 (by kernel_rfl) (by kernel_rfl) (by kernel_rfl) (.inr rfl) (⟨Tryz.underlying137, trivial⟩) (trivial)
/-- [20]uint64 -/
def ti138 : TI := ⟨20, 160, .arr 20 59, [.d (.arr 20 (.int .u64)) (List.replicate 20 (Ty.zero (.int .u64)))], some (.arr 20 (.int .u64))⟩
theorem ti138_ok : TIok Tryz.prog 138 ti138 := TIok.mk1 (by kernel_rfl) (by kernel_rfl) (by kernel_rfl) (.inl rfl) (Tryz.underlying138) (⟨by kernel_rfl, by kernel_rfl, by kernel_rfl, by kernel_rfl⟩)
/-- uint32 -/
def ti139 : TI := ⟨1, 4, .scalar (.int .u32), [.d (.int .u32) (0 : Int)], some (.int .u32)⟩
theorem ti139_ok : TIok Tryz.prog 139 ti139 := TIok.mk1 (by kernel_rfl) (by kernel_rfl) (by kernel_rfl) (.inr rfl) (⟨Tryz.underlying139, trivial⟩) (⟨by kernel_rfl, by kernel_rfl, by kernel_rfl, by kernel_rfl⟩)
/-- [65]uint8 -/
def ti140 : TI := ⟨65, 65, .arr 65 5, [.d (.arr 65 (.int .u8)) (List.replicate 65 (Ty.zero (.int .u8)))], some (.arr 65 (.int .u8))⟩
theorem ti140_ok : TIok Tryz.prog 140 ti140 := TIok.mk1 (by kernel_rfl) (by kernel_rfl) (by kernel_rfl) (.inl rfl) (Tryz.underlying140) (⟨by kernel_rfl, by kernel_rfl, by kernel_rfl, by kernel_rfl⟩)
/-- func(int) bool -/
def ti141 : TI := ⟨1, 8, .scalar (.func #[3] #[4] false), [.con .nilFunc], none⟩
theorem ti141_ok : TIok Tryz.prog 141 ti141 := TIok.mk1 (by kernel_rfl) (by kernel_rfl) (by kernel_rfl) (.inr rfl) (⟨Tryz.underlying141, trivial⟩) (trivial)
/-- func(uint) int -/
def ti142 : TI := ⟨1, 8, .scalar (.func #[78] #[3] false), [.con .nilFunc], none⟩
theorem ti142_ok : TIok Tryz.prog 142 ti142 := TIok.mk1 (by kernel_rfl) (by kernel_rfl) (by kernel_rfl) (.inr rfl) (⟨Tryz.underlying142, trivial⟩) (trivial)
/-- strconv.Error -/
def ti143 : TI := ⟨1, 8, .scalar (.int .i64), [.d (.int .i64) (0 : Int)], some (.int .i64)⟩
theorem ti143_ok : TIok Tryz.prog 143 ti143 := TIok.mk1 (by kernel_rfl) (by kernel_rfl) (by kernel_rfl) (.inr rfl) (⟨Tryz.underlying143, trivial⟩) (⟨by kernel_rfl, by kernel_rfl, by kernel_rfl, by kernel_rfl⟩)
/-- func(string, int, int) (int64, error) -/
def ti145 : TI := ⟨1, 8, .scalar (.func #[9, 3, 3] #[2, 76] false), [.con .nilFunc], none⟩
theorem ti145_ok : TIok Tryz.prog 145 ti145 := TIok.mk1 (by kernel_rfl) (by kernel_rfl) (by kernel_rfl) (.inr rfl) (⟨Tryz.underlying145, trivial⟩) (trivial)
/-- *strconv.NumError -/
def ti146 : TI := ⟨1, 8, .scalar (.pointer 177), [.con (.pointer none)], none⟩
theorem ti146_ok : TIok Tryz.prog 146 ti146 := TIok.mk1 (by kernel_rfl) (by kernel_rfl) (by kernel_rfl) (.inr rfl) (⟨Tryz.underlying146, trivial⟩) (trivial)
/-- func(string, string) *strconv.NumError -/
def ti147 : TI := ⟨1, 8, .scalar (.func #[9, 9] #[146] false), [.con .nilFunc], none⟩
theorem ti147_ok : TIok Tryz.prog 147 ti147 := TIok.mk1 (by kernel_rfl) (by kernel_rfl) (by kernel_rfl) (.inr rfl) (⟨Tryz.underlying147, trivial⟩) (trivial)
/-- func(string, string, int) *strconv.NumError -/
def ti148 : TI := ⟨1, 8, .scalar (.func #[9, 9, 3] #[146] false), [.con .nilFunc], none⟩
theorem ti148_ok : TIok Tryz.prog 148 ti148 := TIok.mk1 (by kernel_rfl) (by kernel_rfl) (by kernel_rfl) (.inr rfl) (⟨Tryz.underlying148, trivial⟩) (trivial)
/-- func(api.Errno) (api.Uart, uint8, api.Errno) -/
def ti149 : TI := ⟨1, 8, .scalar (.func #[23] #[57, 5, 23] false), [.con .nilFunc], none⟩
theorem ti149_ok : TIok Tryz.prog 149 ti149 := TIok.mk1 (by kernel_rfl) (by kernel_rfl) (by kernel_rfl) (.inr rfl) (⟨Tryz.underlying149, trivial⟩) (trivial)
/-- func(api.Uart) bool -/
def ti150 : TI := ⟨1, 8, .scalar (.func #[57] #[4] false), [.con .nilFunc], none⟩
theorem ti150_ok : TIok Tryz.prog 150 ti150 := TIok.mk1 (by kernel_rfl) (by kernel_rfl) (by kernel_rfl) (.inr rfl) (⟨Tryz.underlying150, trivial⟩) (trivial)
/-- func(api.Errno) (api.Local, int, api.Errno) -/
def ti151 : TI := ⟨1, 8, .scalar (.func #[23] #[63, 3, 23] false), [.con .nilFunc], none⟩
theorem ti151_ok : TIok Tryz.prog 151 ti151 := TIok.mk1 (by kernel_rfl) (by kernel_rfl) (by kernel_rfl) (.inr rfl) (⟨Tryz.underlying151, trivial⟩) (trivial)
/-- func(api.Local) bool -/
def ti152 : TI := ⟨1, 8, .scalar (.func #[63] #[4] false), [.con .nilFunc], none⟩
theorem ti152_ok : TIok Tryz.prog 152 ti152 := TIok.mk1 (by kernel_rfl) (by kernel_rfl) (by kernel_rfl) (.inr rfl) (⟨Tryz.underlying152, trivial⟩) (trivial)
/-- func(api.Bits, int) api.Bits -/
def ti153 : TI := ⟨1, 8, .scalar (.func #[61, 3] #[61] false), [.con .nilFunc], none⟩
theorem ti153_ok : TIok Tryz.prog 153 ti153 := TIok.mk1 (by kernel_rfl) (by kernel_rfl) (by kernel_rfl) (.inr rfl) (⟨Tryz.underlying153, trivial⟩) (trivial)
/-- func(api.Bits) int -/
def ti154 : TI := ⟨1, 8, .scalar (.func #[61] #[3] false), [.con .nilFunc], none⟩
theorem ti154_ok : TIok Tryz.prog 154 ti154 := TIok.mk1 (by kernel_rfl) (by kernel_rfl) (by kernel_rfl) (.inr rfl) (⟨Tryz.underlying154, trivial⟩) (trivial)
/-- []api.Sent -/
def ti155 : TI := ⟨1, 24, .slice 161, [.con (.slice none 0 0)], some (.sl (.pair (.int .i64) (.pair (.int .i64) (.int .i64))))⟩
theorem ti155_ok : TIok Tryz.prog 155 ti155 := TIok.mk1 (by kernel_rfl) (by kernel_rfl) (by kernel_rfl) (.inr rfl) (Tryz.underlying155) (⟨by kernel_rfl, by kernel_rfl, by kernel_rfl, by kernel_rfl⟩)
/-- func([]api.Pin, api.PinOp) ([]api.Pin, []api.Sent, api.Errno) -/
def ti157 : TI := ⟨1, 8, .scalar (.func #[58, 159] #[58, 155, 23] false), [.con .nilFunc], none⟩
theorem ti157_ok : TIok Tryz.prog 157 ti157 := TIok.mk1 (by kernel_rfl) (by kernel_rfl) (by kernel_rfl) (.inr rfl) (⟨Tryz.underlying157, trivial⟩) (trivial)
/-- struct { Kind int; Pin int } -/
def ti158 : TI := ⟨2, 16, .struct [(0, 3), (1, 3)], [.d (.int .i64) (0 : Int), .d (.int .i64) (0 : Int)], some (.pair (.int .i64) (.int .i64))⟩
theorem ti158_ok : TIok Tryz.prog 158 ti158 := TIok.mk1 (by kernel_rfl) (by kernel_rfl) (by kernel_rfl) (.inl rfl) (⟨_, Tryz.underlying158, by kernel_rfl⟩) (⟨by kernel_rfl, by kernel_rfl, by kernel_rfl, by kernel_rfl⟩)
/-- api.PinOp -/
def ti159 : TI := ⟨2, 16, .struct [(0, 3), (1, 3)], [.d (.int .i64) (0 : Int), .d (.int .i64) (0 : Int)], some (.pair (.int .i64) (.int .i64))⟩
theorem ti159_ok : TIok Tryz.prog 159 ti159 := TIok.mk1 (by kernel_rfl) (by kernel_rfl) (by kernel_rfl) (.inl rfl) (⟨_, Tryz.underlying159, by kernel_rfl⟩) (⟨by kernel_rfl, by kernel_rfl, by kernel_rfl, by kernel_rfl⟩)
/-- struct { Pin int; Core int; Vec int } -/
def ti160 : TI := ⟨3, 24, .struct [(0, 3), (1, 3), (2, 3)], [.d (.int .i64) (0 : Int), .d (.int .i64) (0 : Int), .d (.int .i64) (0 : Int)], some (.pair (.int .i64) (.pair (.int .i64) (.int .i64)))⟩
theorem ti160_ok : TIok Tryz.prog 160 ti160 := TIok.mk1 (by kernel_rfl) (by kernel_rfl) (by kernel_rfl) (.inl rfl) (⟨_, Tryz.underlying160, by kernel_rfl⟩) (⟨by kernel_rfl, by kernel_rfl, by kernel_rfl, by kernel_rfl⟩)
/-- api.Sent -/
def ti161 : TI := ⟨3, 24, .struct [(0, 3), (1, 3), (2, 3)], [.d (.int .i64) (0 : Int), .d (.int .i64) (0 : Int), .d (.int .i64) (0 : Int)], some (.pair (.int .i64) (.pair (.int .i64) (.int .i64)))⟩
theorem ti161_ok : TIok Tryz.prog 161 ti161 := TIok.mk1 (by kernel_rfl) (by kernel_rfl) (by kernel_rfl) (.inl rfl) (⟨_, Tryz.underlying161, by kernel_rfl⟩) (⟨by kernel_rfl, by kernel_rfl, by kernel_rfl, by kernel_rfl⟩)
/-- func(*api.Tty, ...uint8) -/
def ti162 : TI := ⟨1, 8, .scalar (.func #[163, 32] #[] true), [.con .nilFunc], none⟩
theorem ti162_ok : TIok Tryz.prog 162 ti162 := TIok.mk1 (by kernel_rfl) (by kernel_rfl) (by kernel_rfl) (.inr rfl) (⟨Tryz.underlying162, trivial⟩) (trivial)
/-- *api.Tty -/
def ti163 : TI := ⟨1, 8, .scalar (.pointer 35), [.con (.pointer none)], none⟩
theorem ti163_ok : TIok Tryz.prog 163 ti163 := TIok.mk1 (by kernel_rfl) (by kernel_rfl) (by kernel_rfl) (.inr rfl) (⟨Tryz.underlying163, trivial⟩) (trivial)
/-- func([]uint8) int -/
def ti164 : TI := ⟨1, 8, .scalar (.func #[32] #[3] false), [.con .nilFunc], none⟩
theorem ti164_ok : TIok Tryz.prog 164 ti164 := TIok.mk1 (by kernel_rfl) (by kernel_rfl) (by kernel_rfl) (.inr rfl) (⟨Tryz.underlying164, trivial⟩) (trivial)
/-- func([][]uint8, func([]uint8) bool) bool -/
def ti165 : TI := ⟨1, 8, .scalar (.func #[33, 166] #[4] false), [.con .nilFunc], none⟩
theorem ti165_ok : TIok Tryz.prog 165 ti165 := TIok.mk1 (by kernel_rfl) (by kernel_rfl) (by kernel_rfl) (.inr rfl) (⟨Tryz.underlying165, trivial⟩) (trivial)
/-- func([]uint8) bool -/
def ti166 : TI := ⟨1, 8, .scalar (.func #[32] #[4] false), [.con .nilFunc], none⟩
theorem ti166_ok : TIok Tryz.prog 166 ti166 := TIok.mk1 (by kernel_rfl) (by kernel_rfl) (by kernel_rfl) (.inr rfl) (⟨Tryz.underlying166, trivial⟩) (trivial)
/-- func(api.Core) bool -/
def ti167 : TI := ⟨1, 8, .scalar (.func #[66] #[4] false), [.con .nilFunc], none⟩
theorem ti167_ok : TIok Tryz.prog 167 ti167 := TIok.mk1 (by kernel_rfl) (by kernel_rfl) (by kernel_rfl) (.inr rfl) (⟨Tryz.underlying167, trivial⟩) (trivial)
/-- struct { On bool; Irq bool } -/
def ti168 : TI := ⟨2, 2, .struct [(0, 4), (1, 4)], [.lit false, .lit false], some (.pair (.bool) (.bool))⟩
theorem ti168_ok : TIok Tryz.prog 168 ti168 := TIok.mk1 (by kernel_rfl) (by kernel_rfl) (by kernel_rfl) (.inl rfl) (⟨_, Tryz.underlying168, by kernel_rfl⟩) (⟨by kernel_rfl, by kernel_rfl, by kernel_rfl, by kernel_rfl⟩)
/-- api.Frame -/
def ti169 : TI := ⟨2, 2, .struct [(0, 4), (1, 4)], [.lit false, .lit false], some (.pair (.bool) (.bool))⟩
theorem ti169_ok : TIok Tryz.prog 169 ti169 := TIok.mk1 (by kernel_rfl) (by kernel_rfl) (by kernel_rfl) (.inl rfl) (⟨_, Tryz.underlying169, by kernel_rfl⟩) (⟨by kernel_rfl, by kernel_rfl, by kernel_rfl, by kernel_rfl⟩)
/-- func([]api.Frame) []api.Frame -/
def ti170 : TI := ⟨1, 8, .scalar (.func #[64] #[64] false), [.con .nilFunc], none⟩
theorem ti170_ok : TIok Tryz.prog 170 ti170 := TIok.mk1 (by kernel_rfl) (by kernel_rfl) (by kernel_rfl) (.inr rfl) (⟨Tryz.underlying170, trivial⟩) (trivial)
/-- func(uint8) uint8 -/
def ti171 : TI := ⟨1, 8, .scalar (.func #[5] #[5] false), [.con .nilFunc], none⟩
theorem ti171_ok : TIok Tryz.prog 171 ti171 := TIok.mk1 (by kernel_rfl) (by kernel_rfl) (by kernel_rfl) (.inr rfl) (⟨Tryz.underlying171, trivial⟩) (trivial)
/-- func(uint32) int -/
def ti172 : TI := ⟨1, 8, .scalar (.func #[139] #[3] false), [.con .nilFunc], none⟩
theorem ti172_ok : TIok Tryz.prog 172 ti172 := TIok.mk1 (by kernel_rfl) (by kernel_rfl) (by kernel_rfl) (.inr rfl) (⟨Tryz.underlying172, trivial⟩) (trivial)
/-- func(string) (uint32, uint32) -/
def ti174 : TI := ⟨1, 8, .scalar (.func #[9] #[139, 139] false), [.con .nilFunc], none⟩
theorem ti174_ok : TIok Tryz.prog 174 ti174 := TIok.mk1 (by kernel_rfl) (by kernel_rfl) (by kernel_rfl) (.inr rfl) (⟨Tryz.underlying174, trivial⟩) (trivial)
/-- func(string) string -/
def ti175 : TI := ⟨1, 8, .scalar (.func #[9] #[9] false), [.con .nilFunc], none⟩
theorem ti175_ok : TIok Tryz.prog 175 ti175 := TIok.mk1 (by kernel_rfl) (by kernel_rfl) (by kernel_rfl) (.inr rfl) (⟨Tryz.underlying175, trivial⟩) (trivial)
/-- struct { Func string; Num string; Err error } -/
def ti176 : TI := ⟨3, 48, .struct [(0, 9), (1, 9), (2, 76)], [.d .str ([] : List Int), .d .str ([] : List Int), .con .nilIface], some (.pair (.str) (.pair (.str) (.err)))⟩
theorem ti176_ok : TIok Tryz.prog 176 ti176 := TIok.mk1 (by kernel_rfl) (by kernel_rfl) (by kernel_rfl) (.inl rfl) (⟨_, Tryz.underlying176, by kernel_rfl⟩) (⟨by kernel_rfl, by kernel_rfl, by kernel_rfl, by kernel_rfl⟩)
/-- strconv.NumError -/
def ti177 : TI := ⟨3, 48, .struct [(0, 9), (1, 9), (2, 76)], [.d .str ([] : List Int), .d .str ([] : List Int), .con .nilIface], some (.pair (.str) (.pair (.str) (.err)))⟩
theorem ti177_ok : TIok Tryz.prog 177 ti177 := TIok.mk1 (by kernel_rfl) (by kernel_rfl) (by kernel_rfl) (.inl rfl) (⟨_, Tryz.underlying177, by kernel_rfl⟩) (⟨by kernel_rfl, by kernel_rfl, by kernel_rfl, by kernel_rfl⟩)
/-- func(string) error -/
def ti178 : TI := ⟨1, 8, .scalar (.func #[9] #[76] false), [.con .nilFunc], none⟩
theorem ti178_ok : TIok Tryz.prog 178 ti178 := TIok.mk1 (by kernel_rfl) (by kernel_rfl) (by kernel_rfl) (.inr rfl) (⟨Tryz.underlying178, trivial⟩) (trivial)
/-- func(api.Bits, int) int -/
def ti179 : TI := ⟨1, 8, .scalar (.func #[61, 3] #[3] false), [.con .nilFunc], none⟩
theorem ti179_ok : TIok Tryz.prog 179 ti179 := TIok.mk1 (by kernel_rfl) (by kernel_rfl) (by kernel_rfl) (.inr rfl) (⟨Tryz.underlying179, trivial⟩) (trivial)
/-- func([]api.Pin) bool -/
def ti180 : TI := ⟨1, 8, .scalar (.func #[58] #[4] false), [.con .nilFunc], none⟩
theorem ti180_ok : TIok Tryz.prog 180 ti180 := TIok.mk1 (by kernel_rfl) (by kernel_rfl) (by kernel_rfl) (.inr rfl) (⟨Tryz.underlying180, trivial⟩) (trivial)
/-- func([]api.Pin) []api.Pin -/
def ti181 : TI := ⟨1, 8, .scalar (.func #[58] #[58] false), [.con .nilFunc], none⟩
theorem ti181_ok : TIok Tryz.prog 181 ti181 := TIok.mk1 (by kernel_rfl) (by kernel_rfl) (by kernel_rfl) (.inr rfl) (⟨Tryz.underlying181, trivial⟩) (trivial)
/-- *api.Pin -/
def ti182 : TI := ⟨1, 8, .scalar (.pointer 94), [.con (.pointer none)], none⟩
theorem ti182_ok : TIok Tryz.prog 182 ti182 := TIok.mk1 (by kernel_rfl) (by kernel_rfl) (by kernel_rfl) (.inr rfl) (⟨Tryz.underlying182, trivial⟩) (trivial)
/-- func(*api.Pin, bool) bool -/
def ti183 : TI := ⟨1, 8, .scalar (.func #[182, 4] #[4] false), [.con .nilFunc], none⟩
theorem ti183_ok : TIok Tryz.prog 183 ti183 := TIok.mk1 (by kernel_rfl) (by kernel_rfl) (by kernel_rfl) (.inr rfl) (⟨Tryz.underlying183, trivial⟩) (trivial)
/-- func([][]uint8) [][]uint8 -/
def ti184 : TI := ⟨1, 8, .scalar (.func #[33] #[33] false), [.con .nilFunc], none⟩
theorem ti184_ok : TIok Tryz.prog 184 ti184 := TIok.mk1 (by kernel_rfl) (by kernel_rfl) (by kernel_rfl) (.inr rfl) (⟨Tryz.underlying184, trivial⟩) (trivial)
/-- func([][]uint8, func([]uint8) bool) int -/
def ti185 : TI := ⟨1, 8, .scalar (.func #[33, 166] #[3] false), [.con .nilFunc], none⟩
theorem ti185_ok : TIok Tryz.prog 185 ti185 := TIok.mk1 (by kernel_rfl) (by kernel_rfl) (by kernel_rfl) (.inr rfl) (⟨Tryz.underlying185, trivial⟩) (trivial)
/-- [32]uint8 -/
def ti186 : TI := ⟨32, 32, .arr 32 5, [.d (.arr 32 (.int .u8)) (List.replicate 32 (Ty.zero (.int .u8)))], some (.arr 32 (.int .u8))⟩
theorem ti186_ok : TIok Tryz.prog 186 ti186 := TIok.mk1 (by kernel_rfl) (by kernel_rfl) (by kernel_rfl) (.inl rfl) (Tryz.underlying186) (⟨by kernel_rfl, by kernel_rfl, by kernel_rfl, by kernel_rfl⟩)
/-- [64]uint8 -/
def ti187 : TI := ⟨64, 64, .arr 64 5, [.d (.arr 64 (.int .u8)) (List.replicate 64 (Ty.zero (.int .u8)))], some (.arr 64 (.int .u8))⟩
theorem ti187_ok : TIok Tryz.prog 187 ti187 := TIok.mk1 (by kernel_rfl) (by kernel_rfl) (by kernel_rfl) (.inl rfl) (Tryz.underlying187) (⟨by kernel_rfl, by kernel_rfl, by kernel_rfl, by kernel_rfl⟩)
/-- *errors.errorString -/
def ti188 : TI := ⟨1, 8, .scalar (.pointer 190), [.con (.pointer none)], none⟩
theorem ti188_ok : TIok Tryz.prog 188 ti188 := TIok.mk1 (by kernel_rfl) (by kernel_rfl) (by kernel_rfl) (.inr rfl) (⟨Tryz.underlying188, trivial⟩) (trivial)
/-- struct { s string } -/
def ti189 : TI := ⟨1, 16, .struct [(0, 9)], [.d .str ([] : List Int)], none⟩
theorem ti189_ok : TIok Tryz.prog 189 ti189 := TIok.mk1 (by kernel_rfl) (by kernel_rfl) (by kernel_rfl) (.inl rfl) (⟨_, Tryz.underlying189, by kernel_rfl⟩) (trivial)
/-- errors.errorString -/
def ti190 : TI := ⟨1, 16, .struct [(0, 9)], [.d .str ([] : List Int)], none⟩
theorem ti190_ok : TIok Tryz.prog 190 ti190 := TIok.mk1 (by kernel_rfl) (by kernel_rfl) (by kernel_rfl) (.inl rfl) (⟨_, Tryz.underlying190, by kernel_rfl⟩) (trivial)
/-- func([]api.Pin, func(api.Pin) bool) bool -/
def ti191 : TI := ⟨1, 8, .scalar (.func #[58, 192] #[4] false), [.con .nilFunc], none⟩
theorem ti191_ok : TIok Tryz.prog 191 ti191 := TIok.mk1 (by kernel_rfl) (by kernel_rfl) (by kernel_rfl) (.inr rfl) (⟨Tryz.underlying191, trivial⟩) (trivial)
/-- func(api.Pin) bool -/
def ti192 : TI := ⟨1, 8, .scalar (.func #[94] #[4] false), [.con .nilFunc], none⟩
theorem ti192_ok : TIok Tryz.prog 192 ti192 := TIok.mk1 (by kernel_rfl) (by kernel_rfl) (by kernel_rfl) (.inr rfl) (⟨Tryz.underlying192, trivial⟩) (trivial)
/-- func([]api.Pin, func(api.Pin) bool) int -/
def ti193 : TI := ⟨1, 8, .scalar (.func #[58, 192] #[3] false), [.con .nilFunc], none⟩
theorem ti193_ok : TIok Tryz.prog 193 ti193 := TIok.mk1 (by kernel_rfl) (by kernel_rfl) (by kernel_rfl) (.inr rfl) (⟨Tryz.underlying193, trivial⟩) (trivial)
/-- struct { _interface *abi.Type; concrete *abi.Type; asserted *abi.Type; missingMethod string } -/
def ti194 : TI := ⟨4, 40, .struct [(0, 17), (1, 17), (2, 17), (3, 9)], [.con (.pointer none), .con (.pointer none), .con (.pointer none), .d .str ([] : List Int)], none⟩
theorem ti194_ok : TIok Tryz.prog 194 ti194 := TIok.mk1 (by kernel_rfl) (by kernel_rfl) (by kernel_rfl) (.inl rfl) (⟨_, Tryz.underlying194, by kernel_rfl⟩) (trivial)
/-- runtime.TypeAssertionError -/
def ti195 : TI := ⟨4, 40, .struct [(0, 17), (1, 17), (2, 17), (3, 9)], [.con (.pointer none), .con (.pointer none), .con (.pointer none), .d .str ([] : List Int)], none⟩
theorem ti195_ok : TIok Tryz.prog 195 ti195 := TIok.mk1 (by kernel_rfl) (by kernel_rfl) (by kernel_rfl) (.inl rfl) (⟨_, Tryz.underlying195, by kernel_rfl⟩) (trivial)
/-- func() int -/
def ti199 : TI := ⟨1, 8, .scalar (.func #[] #[3] false), [.con .nilFunc], none⟩
theorem ti199_ok : TIok Tryz.prog 199 ti199 := TIok.mk1 (by kernel_rfl) (by kernel_rfl) (by kernel_rfl) (.inr rfl) (⟨Tryz.underlying199, trivial⟩) (trivial)
/-- abi.TFlag -/
def ti200 : TI := ⟨1, 1, .scalar (.int .u8), [.d (.int .u8) (0 : Int)], some (.int .u8)⟩
theorem ti200_ok : TIok Tryz.prog 200 ti200 := TIok.mk1 (by kernel_rfl) (by kernel_rfl) (by kernel_rfl) (.inr rfl) (⟨Tryz.underlying200, trivial⟩) (⟨by kernel_rfl, by kernel_rfl, by kernel_rfl, by kernel_rfl⟩)
/-- abi.Kind -/
def ti201 : TI := ⟨1, 1, .scalar (.int .u8), [.d (.int .u8) (0 : Int)], some (.int .u8)⟩
theorem ti201_ok : TIok Tryz.prog 201 ti201 := TIok.mk1 (by kernel_rfl) (by kernel_rfl) (by kernel_rfl) (.inr rfl) (⟨Tryz.underlying201, trivial⟩) (⟨by kernel_rfl, by kernel_rfl, by kernel_rfl, by kernel_rfl⟩)
/-- func(unsafe.Pointer, unsafe.Pointer) bool -/
def ti202 : TI := ⟨1, 8, .scalar (.func #[132, 132] #[4] false), [.con .nilFunc], none⟩
theorem ti202_ok : TIok Tryz.prog 202 ti202 := TIok.mk1 (by kernel_rfl) (by kernel_rfl) (by kernel_rfl) (.inr rfl) (⟨Tryz.underlying202, trivial⟩) (trivial)
/-- abi.NameOff -/
def ti203 : TI := ⟨1, 4, .scalar (.int .i32), [.d (.int .i32) (0 : Int)], some (.int .i32)⟩
theorem ti203_ok : TIok Tryz.prog 203 ti203 := TIok.mk1 (by kernel_rfl) (by kernel_rfl) (by kernel_rfl) (.inr rfl) (⟨Tryz.underlying203, trivial⟩) (⟨by kernel_rfl, by kernel_rfl, by kernel_rfl, by kernel_rfl⟩)
/-- abi.TypeOff -/
def ti204 : TI := ⟨1, 4, .scalar (.int .i32), [.d (.int .i32) (0 : Int)], some (.int .i32)⟩
theorem ti204_ok : TIok Tryz.prog 204 ti204 := TIok.mk1 (by kernel_rfl) (by kernel_rfl) (by kernel_rfl) (.inr rfl) (⟨Tryz.underlying204, trivial⟩) (⟨by kernel_rfl, by kernel_rfl, by kernel_rfl, by kernel_rfl⟩)
/-- struct { Size_ uintptr; PtrBytes uintptr; Hash uint32; TFlag abi.TFlag; Align_ uint8; FieldAlign_ uint8; Kind_ abi.Kind; Equal func(unsafe.Pointer, unsafe.Pointer) bool; GCData *uint8; Str abi.NameOff; PtrToThis abi.TypeOff } -/
def ti205 : TI := ⟨11, 48, .struct [(0, 12), (1, 12), (2, 139), (3, 200), (4, 5), (5, 5), (6, 201), (7, 202), (8, 105), (9, 203), (10, 204)], [.d (.int .u64) (0 : Int), .d (.int .u64) (0 : Int), .d (.int .u32) (0 : Int), .d (.int .u8) (0 : Int), .d (.int .u8) (0 : Int), .d (.int .u8) (0 : Int), .d (.int .u8) (0 : Int), .con .nilFunc, .con (.pointer none), .d (.int .i32) (0 : Int), .d (.int .i32) (0 : Int)], none⟩
theorem ti205_ok : TIok Tryz.prog 205 ti205 := TIok.mk1 (by kernel_rfl) (by kernel_rfl) (by kernel_rfl) (.inl rfl) (⟨_, Tryz.underlying205, by kernel_rfl⟩) (trivial)
/-- abi.Type -/
def ti206 : TI := ⟨11, 48, .struct [(0, 12), (1, 12), (2, 139), (3, 200), (4, 5), (5, 5), (6, 201), (7, 202), (8, 105), (9, 203), (10, 204)], [.d (.int .u64) (0 : Int), .d (.int .u64) (0 : Int), .d (.int .u32) (0 : Int), .d (.int .u8) (0 : Int), .d (.int .u8) (0 : Int), .d (.int .u8) (0 : Int), .d (.int .u8) (0 : Int), .con .nilFunc, .con (.pointer none), .d (.int .i32) (0 : Int), .d (.int .i32) (0 : Int)], none⟩
theorem ti206_ok : TIok Tryz.prog 206 ti206 := TIok.mk1 (by kernel_rfl) (by kernel_rfl) (by kernel_rfl) (.inl rfl) (⟨_, Tryz.underlying206, by kernel_rfl⟩) (trivial)
theorem eq44_ok : EqTy Tryz.prog 44 (.pair (.int .i64) (.pair (.int .i64) (.pair (.int .i64) (.int .u8)))) := ⟨(Exists.intro _ (And.intro Tryz.underlying44 (And.intro (by kernel_rfl) (And.intro (by kernel_rfl) (And.intro (by kernel_rfl) (And.intro Tryz.underlying3 (And.intro (by kernel_rfl) (And.intro (by kernel_rfl) (And.intro Tryz.underlying3 (And.intro (by kernel_rfl) (And.intro (by kernel_rfl) (And.intro Tryz.underlying3 (And.intro (by kernel_rfl) (And.intro (by kernel_rfl) Tryz.underlying5)))))))))))))), rfl, rfl, by kernel_rfl, by kernel_rfl⟩
theorem eq60_ok : EqTy Tryz.prog 60 (.arr 4 (.int .u64)) := ⟨(Exists.intro 59 (And.intro Tryz.underlying60 (And.intro (by kernel_rfl) (And.intro (by kernel_rfl) Tryz.underlying59)))), rfl, rfl, by kernel_rfl, by kernel_rfl⟩
theorem eq61_ok : EqTy Tryz.prog 61 (.arr 4 (.int .u64)) := ⟨(Exists.intro 59 (And.intro Tryz.underlying61 (And.intro (by kernel_rfl) (And.intro (by kernel_rfl) Tryz.underlying59)))), rfl, rfl, by kernel_rfl, by kernel_rfl⟩
theorem eq63_ok : EqTy Tryz.prog 63 (.pair (.arr 4 (.int .u64)) (.pair (.arr 4 (.int .u64)) (.int .i64))) := ⟨(Exists.intro _ (And.intro Tryz.underlying63 (And.intro (by kernel_rfl) (And.intro (by kernel_rfl) (And.intro (by kernel_rfl) (And.intro (Exists.intro 59 (And.intro Tryz.underlying61 (And.intro (by kernel_rfl) (And.intro (by kernel_rfl) Tryz.underlying59)))) (And.intro (by kernel_rfl) (And.intro (by kernel_rfl) (And.intro (Exists.intro 59 (And.intro Tryz.underlying61 (And.intro (by kernel_rfl) (And.intro (by kernel_rfl) Tryz.underlying59)))) (And.intro (by kernel_rfl) (And.intro (by kernel_rfl) Tryz.underlying3))))))))))), rfl, rfl, by kernel_rfl, by kernel_rfl⟩
theorem eq80_ok : EqTy Tryz.prog 80 (.arr 2 (.int .i64)) := ⟨(Exists.intro 3 (And.intro Tryz.underlying80 (And.intro (by kernel_rfl) (And.intro (by kernel_rfl) Tryz.underlying3)))), rfl, rfl, by kernel_rfl, by kernel_rfl⟩
theorem eq94_ok : EqTy Tryz.prog 94 (.pair (.int .i64) (.pair (.int .i64) (.pair (.bool) (.pair (.bool) (.pair (.bool) (.pair (.bool) (.bool))))))) := ⟨(Exists.intro _ (And.intro Tryz.underlying94 (And.intro (by kernel_rfl) (And.intro (by kernel_rfl) (And.intro (by kernel_rfl) (And.intro Tryz.underlying3 (And.intro (by kernel_rfl) (And.intro (by kernel_rfl) (And.intro Tryz.underlying3 (And.intro (by kernel_rfl) (And.intro (by kernel_rfl) (And.intro Tryz.underlying4 (And.intro (by kernel_rfl) (And.intro (by kernel_rfl) (And.intro Tryz.underlying4 (And.intro (by kernel_rfl) (And.intro (by kernel_rfl) (And.intro Tryz.underlying4 (And.intro (by kernel_rfl) (And.intro (by kernel_rfl) (And.intro Tryz.underlying4 (And.intro (by kernel_rfl) (And.intro (by kernel_rfl) Tryz.underlying4))))))))))))))))))))))), rfl, rfl, by kernel_rfl, by kernel_rfl⟩
theorem eq99_ok : EqTy Tryz.prog 99 (.pair (.int .i64) (.int .u8)) := ⟨(Exists.intro _ (And.intro Tryz.underlying99 (And.intro (by kernel_rfl) (And.intro (by kernel_rfl) (And.intro (by kernel_rfl) (And.intro Tryz.underlying3 (And.intro (by kernel_rfl) (And.intro (by kernel_rfl) Tryz.underlying5)))))))), rfl, rfl, by kernel_rfl, by kernel_rfl⟩
theorem eq113_ok : EqTy Tryz.prog 113 (.arr 24 (.int .u8)) := ⟨(Exists.intro 5 (And.intro Tryz.underlying113 (And.intro (by kernel_rfl) (And.intro (by kernel_rfl) Tryz.underlying5)))), rfl, rfl, by kernel_rfl, by kernel_rfl⟩
theorem eq125_ok : EqTy Tryz.prog 125 (.pair (.int .i64) (.int .i64)) := ⟨(Exists.intro _ (And.intro Tryz.underlying125 (And.intro (by kernel_rfl) (And.intro (by kernel_rfl) (And.intro (by kernel_rfl) (And.intro Tryz.underlying3 (And.intro (by kernel_rfl) (And.intro (by kernel_rfl) Tryz.underlying3)))))))), rfl, rfl, by kernel_rfl, by kernel_rfl⟩
theorem eq138_ok : EqTy Tryz.prog 138 (.arr 20 (.int .u64)) := ⟨(Exists.intro 59 (And.intro Tryz.underlying138 (And.intro (by kernel_rfl) (And.intro (by kernel_rfl) Tryz.underlying59)))), rfl, rfl, by kernel_rfl, by kernel_rfl⟩
theorem eq140_ok : EqTy Tryz.prog 140 (.arr 65 (.int .u8)) := ⟨(Exists.intro 5 (And.intro Tryz.underlying140 (And.intro (by kernel_rfl) (And.intro (by kernel_rfl) Tryz.underlying5)))), rfl, rfl, by kernel_rfl, by kernel_rfl⟩
theorem eq159_ok : EqTy Tryz.prog 159 (.pair (.int .i64) (.int .i64)) := ⟨(Exists.intro _ (And.intro Tryz.underlying159 (And.intro (by kernel_rfl) (And.intro (by kernel_rfl) (And.intro (by kernel_rfl) (And.intro Tryz.underlying3 (And.intro (by kernel_rfl) (And.intro (by kernel_rfl) Tryz.underlying3)))))))), rfl, rfl, by kernel_rfl, by kernel_rfl⟩
theorem eq161_ok : EqTy Tryz.prog 161 (.pair (.int .i64) (.pair (.int .i64) (.int .i64))) := ⟨(Exists.intro _ (And.intro Tryz.underlying161 (And.intro (by kernel_rfl) (And.intro (by kernel_rfl) (And.intro (by kernel_rfl) (And.intro Tryz.underlying3 (And.intro (by kernel_rfl) (And.intro (by kernel_rfl) (And.intro Tryz.underlying3 (And.intro (by kernel_rfl) (And.intro (by kernel_rfl) Tryz.underlying3))))))))))), rfl, rfl, by kernel_rfl, by kernel_rfl⟩
theorem eq169_ok : EqTy Tryz.prog 169 (.pair (.bool) (.bool)) := ⟨(Exists.intro _ (And.intro Tryz.underlying169 (And.intro (by kernel_rfl) (And.intro (by kernel_rfl) (And.intro (by kernel_rfl) (And.intro Tryz.underlying4 (And.intro (by kernel_rfl) (And.intro (by kernel_rfl) Tryz.underlying4)))))))), rfl, rfl, by kernel_rfl, by kernel_rfl⟩
theorem eq186_ok : EqTy Tryz.prog 186 (.arr 32 (.int .u8)) := ⟨(Exists.intro 5 (And.intro Tryz.underlying186 (And.intro (by kernel_rfl) (And.intro (by kernel_rfl) Tryz.underlying5)))), rfl, rfl, by kernel_rfl, by kernel_rfl⟩
theorem eq187_ok : EqTy Tryz.prog 187 (.arr 64 (.int .u8)) := ⟨(Exists.intro 5 (And.intro Tryz.underlying187 (And.intro (by kernel_rfl) (And.intro (by kernel_rfl) Tryz.underlying5)))), rfl, rfl, by kernel_rfl, by kernel_rfl⟩
def env : Env := { tys := [(1, ti1), (2, ti2), (3, ti3), (4, ti4), (5, ti5), (6, ti6), (7, ti7), (8, ti8), (9, ti9), (10, ti10), (11, ti11), (12, ti12), (13, ti13), (14, ti14), (15, ti15), (16, ti16), (17, ti17), (18, ti18), (19, ti19), (21, ti21), (22, ti22), (23, ti23), (25, ti25), (26, ti26), (27, ti27), (28, ti28), (30, ti30), (31, ti31), (32, ti32), (33, ti33), (34, ti34), (35, ti35), (36, ti36), (37, ti37), (39, ti39), (40, ti40), (41, ti41), (42, ti42), (43, ti43), (44, ti44), (45, ti45), (46, ti46), (47, ti47), (49, ti49), (51, ti51), (52, ti52), (53, ti53), (54, ti54), (55, ti55), (56, ti56), (57, ti57), (58, ti58), (59, ti59), (60, ti60), (61, ti61), (62, ti62), (63, ti63), (64, ti64), (65, ti65), (66, ti66), (67, ti67), (68, ti68), (69, ti69), (70, ti70), (71, ti71), (72, ti72), (73, ti73), (74, ti74), (75, ti75), (76, ti76), (77, ti77), (78, ti78), (79, ti79), (80, ti80), (81, ti81), (82, ti82), (84, ti84), (86, ti86), (87, ti87), (88, ti88), (89, ti89), (90, ti90), (92, ti92), (93, ti93), (94, ti94), (95, ti95), (97, ti97), (98, ti98), (99, ti99), (100, ti100), (102, ti102), (103, ti103), (104, ti104), (105, ti105), (107, ti107), (109, ti109), (110, ti110), (112, ti112), (113, ti113), (114, ti114), (115, ti115), (117, ti117), (118, ti118), (119, ti119), (121, ti121), (123, ti123), (124, ti124), (125, ti125), (126, ti126), (127, ti127), (128, ti128), (129, ti129), (131, ti131), (133, ti133), (134, ti134), (135, ti135), (136, ti136), (137, ti137), (138, ti138), (139, ti139), (140, ti140), (141, ti141), (142, ti142), (143, ti143), (145, ti145), (146, ti146), (147, ti147), (148, ti148), (149, ti149), (150, ti150), (151, ti151), (152, ti152), (153, ti153), (154, ti154), (155, ti155), (157, ti157), (158, ti158), (159, ti159), (160, ti160), (161, ti161), (162, ti162), (163, ti163), (164, ti164), (165, ti165), (166, ti166), (167, ti167), (168, ti168), (169, ti169), (170, ti170), (171, ti171), (172, ti172), (174, ti174), (175, ti175), (176, ti176), (177, ti177), (178, ti178), (179, ti179), (180, ti180), (181, ti181), (182, ti182), (183, ti183), (184, ti184), (185, ti185), (186, ti186), (187, ti187), (188, ti188), (189, ti189), (190, ti190), (191, ti191), (192, ti192), (193, ti193), (194, ti194), (195, ti195), (199, ti199), (200, ti200), (201, ti201), (202, ti202), (203, ti203), (204, ti204), (205, ti205), (206, ti206)], eqs := [(44, .pair (.int .i64) (.pair (.int .i64) (.pair (.int .i64) (.int .u8)))), (60, .arr 4 (.int .u64)), (61, .arr 4 (.int .u64)), (63, .pair (.arr 4 (.int .u64)) (.pair (.arr 4 (.int .u64)) (.int .i64))), (80, .arr 2 (.int .i64)), (94, .pair (.int .i64) (.pair (.int .i64) (.pair (.bool) (.pair (.bool) (.pair (.bool) (.pair (.bool) (.bool))))))), (99, .pair (.int .i64) (.int .u8)), (113, .arr 24 (.int .u8)), (125, .pair (.int .i64) (.int .i64)), (138, .arr 20 (.int .u64)), (140, .arr 65 (.int .u8)), (159, .pair (.int .i64) (.int .i64)), (161, .pair (.int .i64) (.pair (.int .i64) (.int .i64))), (169, .pair (.bool) (.bool)), (186, .arr 32 (.int .u8)), (187, .arr 64 (.int .u8))] }
theorem env_ok : EnvOk Tryz.prog env := envOk_of_all (E := env) ⟨ti1_ok, ⟨ti2_ok, ⟨ti3_ok, ⟨ti4_ok, ⟨ti5_ok, ⟨ti6_ok, ⟨ti7_ok, ⟨ti8_ok, ⟨ti9_ok, ⟨ti10_ok, ⟨ti11_ok, ⟨ti12_ok, ⟨ti13_ok, ⟨ti14_ok, ⟨ti15_ok, ⟨ti16_ok, ⟨ti17_ok, ⟨ti18_ok, ⟨ti19_ok, ⟨ti21_ok, ⟨ti22_ok, ⟨ti23_ok, ⟨ti25_ok, ⟨ti26_ok, ⟨ti27_ok, ⟨ti28_ok, ⟨ti30_ok, ⟨ti31_ok, ⟨ti32_ok, ⟨ti33_ok, ⟨ti34_ok, ⟨ti35_ok, ⟨ti36_ok, ⟨ti37_ok, ⟨ti39_ok, ⟨ti40_ok, ⟨ti41_ok, ⟨ti42_ok, ⟨ti43_ok, ⟨ti44_ok, ⟨ti45_ok, ⟨ti46_ok, ⟨ti47_ok, ⟨ti49_ok, ⟨ti51_ok, ⟨ti52_ok, ⟨ti53_ok, ⟨ti54_ok, ⟨ti55_ok, ⟨ti56_ok, ⟨ti57_ok, ⟨ti58_ok, ⟨ti59_ok, ⟨ti60_ok, ⟨ti61_ok, ⟨ti62_ok, ⟨ti63_ok, ⟨ti64_ok, ⟨ti65_ok, ⟨ti66_ok, ⟨ti67_ok, ⟨ti68_ok, ⟨ti69_ok, ⟨ti70_ok, ⟨ti71_ok, ⟨ti72_ok, ⟨ti73_ok, ⟨ti74_ok, ⟨ti75_ok, ⟨ti76_ok, ⟨ti77_ok, ⟨ti78_ok, ⟨ti79_ok, ⟨ti80_ok, ⟨ti81_ok, ⟨ti82_ok, ⟨ti84_ok, ⟨ti86_ok, ⟨ti87_ok, ⟨ti88_ok, ⟨ti89_ok, ⟨ti90_ok, ⟨ti92_ok, ⟨ti93_ok, ⟨ti94_ok, ⟨ti95_ok, ⟨ti97_ok, ⟨ti98_ok, ⟨ti99_ok, ⟨ti100_ok, ⟨ti102_ok, ⟨ti103_ok, ⟨ti104_ok, ⟨ti105_ok, ⟨ti107_ok, ⟨ti109_ok, ⟨ti110_ok, ⟨ti112_ok, ⟨ti113_ok, ⟨ti114_ok, ⟨ti115_ok, ⟨ti117_ok, ⟨ti118_ok, ⟨ti119_ok, ⟨ti121_ok, ⟨ti123_ok, ⟨ti124_ok, ⟨ti125_ok, ⟨ti126_ok, ⟨ti127_ok, ⟨ti128_ok, ⟨ti129_ok, ⟨ti131_ok, ⟨ti133_ok, ⟨ti134_ok, ⟨ti135_ok, ⟨ti136_ok, ⟨ti137_ok, ⟨ti138_ok, ⟨ti139_ok, ⟨ti140_ok, ⟨ti141_ok, ⟨ti142_ok, ⟨ti143_ok, ⟨ti145_ok, ⟨ti146_ok, ⟨ti147_ok, ⟨ti148_ok, ⟨ti149_ok, ⟨ti150_ok, ⟨ti151_ok, ⟨ti152_ok, ⟨ti153_ok, ⟨ti154_ok, ⟨ti155_ok, ⟨ti157_ok, ⟨ti158_ok, ⟨ti159_ok, ⟨ti160_ok, ⟨ti161_ok, ⟨ti162_ok, ⟨ti163_ok, ⟨ti164_ok, ⟨ti165_ok, ⟨ti166_ok, ⟨ti167_ok, ⟨ti168_ok, ⟨ti169_ok, ⟨ti170_ok, ⟨ti171_ok, ⟨ti172_ok, ⟨ti174_ok, ⟨ti175_ok, ⟨ti176_ok, ⟨ti177_ok, ⟨ti178_ok, ⟨ti179_ok, ⟨ti180_ok, ⟨ti181_ok, ⟨ti182_ok, ⟨ti183_ok, ⟨ti184_ok, ⟨ti185_ok, ⟨ti186_ok, ⟨ti187_ok, ⟨ti188_ok, ⟨ti189_ok, ⟨ti190_ok, ⟨ti191_ok, ⟨ti192_ok, ⟨ti193_ok, ⟨ti194_ok, ⟨ti195_ok, ⟨ti199_ok, ⟨ti200_ok, ⟨ti201_ok, ⟨ti202_ok, ⟨ti203_ok, ⟨ti204_ok, ⟨ti205_ok, ⟨ti206_ok, trivial⟩⟩⟩⟩⟩⟩⟩⟩⟩⟩⟩⟩⟩⟩⟩⟩⟩⟩⟩⟩⟩⟩⟩⟩⟩⟩⟩⟩⟩⟩⟩⟩⟩⟩⟩⟩⟩⟩⟩⟩⟩⟩⟩⟩⟩⟩⟩⟩⟩⟩⟩⟩⟩⟩⟩⟩⟩⟩⟩⟩⟩⟩⟩⟩⟩⟩⟩⟩⟩⟩⟩⟩⟩⟩⟩⟩⟩⟩⟩⟩⟩⟩⟩⟩⟩⟩⟩⟩⟩⟩⟩⟩⟩⟩⟩⟩⟩⟩⟩⟩⟩⟩⟩⟩⟩⟩⟩⟩⟩⟩⟩⟩⟩⟩⟩⟩⟩⟩⟩⟩⟩⟩⟩⟩⟩⟩⟩⟩⟩⟩⟩⟩⟩⟩⟩⟩⟩⟩⟩⟩⟩⟩⟩⟩⟩⟩⟩⟩⟩⟩⟩⟩⟩⟩⟩⟩⟩⟩⟩⟩⟩⟩⟩⟩⟩⟩⟩⟩⟩⟩⟩⟩⟩⟩⟩⟩⟩⟩⟩⟩⟩ ⟨eq44_ok, ⟨eq60_ok, ⟨eq61_ok, ⟨eq63_ok, ⟨eq80_ok, ⟨eq94_ok, ⟨eq99_ok, ⟨eq113_ok, ⟨eq125_ok, ⟨eq138_ok, ⟨eq140_ok, ⟨eq159_ok, ⟨eq161_ok, ⟨eq169_ok, ⟨eq186_ok, ⟨eq187_ok, trivial⟩⟩⟩⟩⟩⟩⟩⟩⟩⟩⟩⟩⟩⟩⟩⟩
end Go.Proofs.YtlmddcdafggphaaGreatDoor
