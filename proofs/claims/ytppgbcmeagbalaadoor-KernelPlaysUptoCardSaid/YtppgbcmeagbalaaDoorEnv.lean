/-
  The types of the translation, as the executor wants them, with the proof that they are as the program says. Written by genenv.py.
-/
import Derived.Test.YtppgbcmeagbalaaDoorRows
import Derived.Test.YtppgbcmeagbalaaDoorSxP4
namespace Go.Proofs.YtppgbcmeagbalaaDoor
open Go.Sx
@[reducible] def tyboundsError : Ty := .pair (.int .i64) (.pair (.int .i64) (.pair (.bool) (.int .u8)))
@[reducible] def tyerrorAddressString : Ty := .pair (.str) (.int .u64)
@[reducible] def tyTty : Ty := .pair (.sl (.sl (.int .u8))) (.sl (.int .u8))
@[reducible] def tyWhole : Ty := .pair (.sl (.int .u8)) (.pair (.sl (.int .u8)) (.pair (.pair (.sl (.sl (.int .u8))) (.sl (.int .u8))) (.pair (.int .i64) (.int .i64))))
@[reducible] def tyKernOp : Ty := .pair (.int .i64) (.pair (.int .i64) (.pair (.int .i64) (.int .u8)))
@[reducible] def tyKernAns : Ty := .pair (.int .i64) (.sl (.int .u8))
@[reducible] def tyUart : Ty := .pair (.sl (.int .u8)) (.pair (.sl (.int .u8)) (.pair (.int .i64) (.bool)))
@[reducible] def tyLocal : Ty := .pair (.arr 4 (.int .u64)) (.pair (.arr 4 (.int .u64)) (.int .i64))
@[reducible] def tyCore : Ty := .pair (.bool) (.sl (.pair (.bool) (.bool)))
@[reducible] def tycore : Ty := .pair (.pair (.arr 4 (.int .u64)) (.pair (.arr 4 (.int .u64)) (.int .i64))) (.pair (.pair (.bool) (.sl (.pair (.bool) (.bool)))) (.bool))
@[reducible] def tywhole : Ty := .pair (.pair (.sl (.int .u8)) (.pair (.sl (.int .u8)) (.pair (.int .i64) (.bool)))) (.pair (.sl (.pair (.int .i64) (.pair (.int .i64) (.pair (.bool) (.pair (.bool) (.pair (.bool) (.pair (.bool) (.bool)))))))) (.pair (.arr 2 (.pair (.pair (.arr 4 (.int .u64)) (.pair (.arr 4 (.int .u64)) (.int .i64))) (.pair (.pair (.bool) (.sl (.pair (.bool) (.bool)))) (.bool)))) (.pair (.sl (.int .u8)) (.pair (.pair (.sl (.sl (.int .u8))) (.sl (.int .u8))) (.int .i64)))))
@[reducible] def tyYWhole : Ty := .pair (.sl (.int .u8)) (.pair (.sl (.int .u8)) (.pair (.pair (.sl (.sl (.int .u8))) (.sl (.int .u8))) (.pair (.int .i64) (.pair (.int .i64) (.pair (.int .i64) (.pair (.int .i64) (.pair (.int .i64) (.arr 2 (.int .i64)))))))))
@[reducible] def tyPin : Ty := .pair (.int .i64) (.pair (.int .i64) (.pair (.bool) (.pair (.bool) (.pair (.bool) (.pair (.bool) (.bool))))))
@[reducible] def tyUartOp : Ty := .pair (.int .i64) (.int .u8)
@[reducible] def tyLocalOp : Ty := .pair (.int .i64) (.int .i64)
@[reducible] def tyPinOp : Ty := .pair (.int .i64) (.int .i64)
@[reducible] def tySent : Ty := .pair (.int .i64) (.pair (.int .i64) (.int .i64))
@[reducible] def tyFrame : Ty := .pair (.bool) (.bool)
/-- int64 -/
def ti2 : TI := ⟨1, 8, .scalar (.int .i64), [.d (.int .i64) (0 : Int)], some (.int .i64)⟩
theorem ti2_ok : TIok Tryd.prog 2 ti2 := TIok.mk1 (by kernel_rfl) (by kernel_rfl) (by kernel_rfl) (.inr rfl) (⟨Tryd.underlying2, trivial⟩) (⟨by kernel_rfl, by kernel_rfl, by kernel_rfl, by kernel_rfl⟩)
/-- int -/
def ti3 : TI := ⟨1, 8, .scalar (.int .i64), [.d (.int .i64) (0 : Int)], some (.int .i64)⟩
theorem ti3_ok : TIok Tryd.prog 3 ti3 := TIok.mk1 (by kernel_rfl) (by kernel_rfl) (by kernel_rfl) (.inr rfl) (⟨Tryd.underlying3, trivial⟩) (⟨by kernel_rfl, by kernel_rfl, by kernel_rfl, by kernel_rfl⟩)
/-- bool -/
def ti4 : TI := ⟨1, 1, .scalar .bool, [.lit false], some (.bool)⟩
theorem ti4_ok : TIok Tryd.prog 4 ti4 := TIok.mk1 (by kernel_rfl) (by kernel_rfl) (by kernel_rfl) (.inr rfl) (⟨Tryd.underlying4, trivial⟩) (⟨by kernel_rfl, by kernel_rfl, by kernel_rfl, by kernel_rfl⟩)
/-- uint8 -/
def ti5 : TI := ⟨1, 1, .scalar (.int .u8), [.d (.int .u8) (0 : Int)], some (.int .u8)⟩
theorem ti5_ok : TIok Tryd.prog 5 ti5 := TIok.mk1 (by kernel_rfl) (by kernel_rfl) (by kernel_rfl) (.inr rfl) (⟨Tryd.underlying5, trivial⟩) (⟨by kernel_rfl, by kernel_rfl, by kernel_rfl, by kernel_rfl⟩)
/-- abi.BoundsErrorCode -/
def ti6 : TI := ⟨1, 1, .scalar (.int .u8), [.d (.int .u8) (0 : Int)], some (.int .u8)⟩
theorem ti6_ok : TIok Tryd.prog 6 ti6 := TIok.mk1 (by kernel_rfl) (by kernel_rfl) (by kernel_rfl) (.inr rfl) (⟨Tryd.underlying6, trivial⟩) (⟨by kernel_rfl, by kernel_rfl, by kernel_rfl, by kernel_rfl⟩)
/-- struct { x int64; y int; signed bool; code abi.BoundsErrorCode } -/
def ti7 : TI := ⟨4, 24, .struct [(0, 2), (1, 3), (2, 4), (3, 6)], [.d (.int .i64) (0 : Int), .d (.int .i64) (0 : Int), .lit false, .d (.int .u8) (0 : Int)], some (.pair (.int .i64) (.pair (.int .i64) (.pair (.bool) (.int .u8))))⟩
theorem ti7_ok : TIok Tryd.prog 7 ti7 := TIok.mk1 (by kernel_rfl) (by kernel_rfl) (by kernel_rfl) (.inl rfl) (⟨_, Tryd.underlying7, by kernel_rfl⟩) (⟨by kernel_rfl, by kernel_rfl, by kernel_rfl, by kernel_rfl⟩)
/-- runtime.boundsError -/
def ti8 : TI := ⟨4, 24, .struct [(0, 2), (1, 3), (2, 4), (3, 6)], [.d (.int .i64) (0 : Int), .d (.int .i64) (0 : Int), .lit false, .d (.int .u8) (0 : Int)], some (.pair (.int .i64) (.pair (.int .i64) (.pair (.bool) (.int .u8))))⟩
theorem ti8_ok : TIok Tryd.prog 8 ti8 := TIok.mk1 (by kernel_rfl) (by kernel_rfl) (by kernel_rfl) (.inl rfl) (⟨_, Tryd.underlying8, by kernel_rfl⟩) (⟨by kernel_rfl, by kernel_rfl, by kernel_rfl, by kernel_rfl⟩)
/-- string -/
def ti9 : TI := ⟨1, 16, .scalar .string, [.d .str ([] : List Int)], some (.str)⟩
theorem ti9_ok : TIok Tryd.prog 9 ti9 := TIok.mk1 (by kernel_rfl) (by kernel_rfl) (by kernel_rfl) (.inr rfl) (⟨Tryd.underlying9, trivial⟩) (⟨by kernel_rfl, by kernel_rfl, by kernel_rfl, by kernel_rfl⟩)
/-- runtime.errorString -/
def ti10 : TI := ⟨1, 16, .scalar .string, [.d .str ([] : List Int)], some (.str)⟩
theorem ti10_ok : TIok Tryd.prog 10 ti10 := TIok.mk1 (by kernel_rfl) (by kernel_rfl) (by kernel_rfl) (.inr rfl) (⟨Tryd.underlying10, trivial⟩) (⟨by kernel_rfl, by kernel_rfl, by kernel_rfl, by kernel_rfl⟩)
/-- runtime.plainError -/
def ti11 : TI := ⟨1, 16, .scalar .string, [.d .str ([] : List Int)], some (.str)⟩
theorem ti11_ok : TIok Tryd.prog 11 ti11 := TIok.mk1 (by kernel_rfl) (by kernel_rfl) (by kernel_rfl) (.inr rfl) (⟨Tryd.underlying11, trivial⟩) (⟨by kernel_rfl, by kernel_rfl, by kernel_rfl, by kernel_rfl⟩)
/-- uintptr -/
def ti12 : TI := ⟨1, 8, .scalar (.int .u64), [.d (.int .u64) (0 : Int)], some (.int .u64)⟩
theorem ti12_ok : TIok Tryd.prog 12 ti12 := TIok.mk1 (by kernel_rfl) (by kernel_rfl) (by kernel_rfl) (.inr rfl) (⟨Tryd.underlying12, trivial⟩) (⟨by kernel_rfl, by kernel_rfl, by kernel_rfl, by kernel_rfl⟩)
/-- struct { msg string; addr uintptr } -/
def ti13 : TI := ⟨2, 24, .struct [(0, 9), (1, 12)], [.d .str ([] : List Int), .d (.int .u64) (0 : Int)], some (.pair (.str) (.int .u64))⟩
theorem ti13_ok : TIok Tryd.prog 13 ti13 := TIok.mk1 (by kernel_rfl) (by kernel_rfl) (by kernel_rfl) (.inl rfl) (⟨_, Tryd.underlying13, by kernel_rfl⟩) (⟨by kernel_rfl, by kernel_rfl, by kernel_rfl, by kernel_rfl⟩)
/-- runtime.errorAddressString -/
def ti14 : TI := ⟨2, 24, .struct [(0, 9), (1, 12)], [.d .str ([] : List Int), .d (.int .u64) (0 : Int)], some (.pair (.str) (.int .u64))⟩
theorem ti14_ok : TIok Tryd.prog 14 ti14 := TIok.mk1 (by kernel_rfl) (by kernel_rfl) (by kernel_rfl) (.inl rfl) (⟨_, Tryd.underlying14, by kernel_rfl⟩) (⟨by kernel_rfl, by kernel_rfl, by kernel_rfl, by kernel_rfl⟩)
/-- *runtime.TypeAssertionError -/
def ti15 : TI := ⟨1, 8, .scalar (.pointer 133), [.con (.pointer none)], none⟩
theorem ti15_ok : TIok Tryd.prog 15 ti15 := TIok.mk1 (by kernel_rfl) (by kernel_rfl) (by kernel_rfl) (.inr rfl) (⟨Tryd.underlying15, trivial⟩) (trivial)
/-- *runtime.PanicNilError -/
def ti16 : TI := ⟨1, 8, .scalar (.pointer 136), [.con (.pointer none)], none⟩
theorem ti16_ok : TIok Tryd.prog 16 ti16 := TIok.mk1 (by kernel_rfl) (by kernel_rfl) (by kernel_rfl) (.inr rfl) (⟨Tryd.underlying16, trivial⟩) (trivial)
/-- *abi.Type -/
def ti17 : TI := ⟨1, 8, .scalar (.pointer 146), [.con (.pointer none)], none⟩
theorem ti17_ok : TIok Tryd.prog 17 ti17 := TIok.mk1 (by kernel_rfl) (by kernel_rfl) (by kernel_rfl) (.inr rfl) (⟨Tryd.underlying17, trivial⟩) (trivial)
/-- struct { typ *abi.Type } -/
def ti18 : TI := ⟨1, 8, .struct [(0, 17)], [.con (.pointer none)], none⟩
theorem ti18_ok : TIok Tryd.prog 18 ti18 := TIok.mk1 (by kernel_rfl) (by kernel_rfl) (by kernel_rfl) (.inl rfl) (⟨_, Tryd.underlying18, by kernel_rfl⟩) (trivial)
/-- maps.unhashableTypeError -/
def ti19 : TI := ⟨1, 8, .struct [(0, 17)], [.con (.pointer none)], none⟩
theorem ti19_ok : TIok Tryd.prog 19 ti19 := TIok.mk1 (by kernel_rfl) (by kernel_rfl) (by kernel_rfl) (.inl rfl) (⟨_, Tryd.underlying19, by kernel_rfl⟩) (trivial)
/-- int32 -/
def ti21 : TI := ⟨1, 4, .scalar (.int .i32), [.d (.int .i32) (0 : Int)], some (.int .i32)⟩
theorem ti21_ok : TIok Tryd.prog 21 ti21 := TIok.mk1 (by kernel_rfl) (by kernel_rfl) (by kernel_rfl) (.inr rfl) (⟨Tryd.underlying21, trivial⟩) (⟨by kernel_rfl, by kernel_rfl, by kernel_rfl, by kernel_rfl⟩)
/-- []api.KernOp -/
def ti22 : TI := ⟨1, 24, .slice 38, [.con (.slice none 0 0)], some (.sl (.pair (.int .i64) (.pair (.int .i64) (.pair (.int .i64) (.int .u8)))))⟩
theorem ti22_ok : TIok Tryd.prog 22 ti22 := TIok.mk1 (by kernel_rfl) (by kernel_rfl) (by kernel_rfl) (.inr rfl) (Tryd.underlying22) (⟨by kernel_rfl, by kernel_rfl, by kernel_rfl, by kernel_rfl⟩)
/-- []api.KernAns -/
def ti23 : TI := ⟨1, 24, .slice 41, [.con (.slice none 0 0)], some (.sl (.pair (.int .i64) (.sl (.int .u8))))⟩
theorem ti23_ok : TIok Tryd.prog 23 ti23 := TIok.mk1 (by kernel_rfl) (by kernel_rfl) (by kernel_rfl) (.inr rfl) (Tryd.underlying23) (⟨by kernel_rfl, by kernel_rfl, by kernel_rfl, by kernel_rfl⟩)
/-- []uint8 -/
def ti24 : TI := ⟨1, 24, .slice 5, [.con (.slice none 0 0)], some (.sl (.int .u8))⟩
theorem ti24_ok : TIok Tryd.prog 24 ti24 := TIok.mk1 (by kernel_rfl) (by kernel_rfl) (by kernel_rfl) (.inr rfl) (Tryd.underlying24) (⟨by kernel_rfl, by kernel_rfl, by kernel_rfl, by kernel_rfl⟩)
/-- [][]uint8 -/
def ti25 : TI := ⟨1, 24, .slice 24, [.con (.slice none 0 0)], some (.sl (.sl (.int .u8)))⟩
theorem ti25_ok : TIok Tryd.prog 25 ti25 := TIok.mk1 (by kernel_rfl) (by kernel_rfl) (by kernel_rfl) (.inr rfl) (Tryd.underlying25) (⟨by kernel_rfl, by kernel_rfl, by kernel_rfl, by kernel_rfl⟩)
/-- struct { Lines [][]uint8; Edit []uint8 } -/
def ti26 : TI := ⟨2, 48, .struct [(0, 25), (1, 24)], [.con (.slice none 0 0), .con (.slice none 0 0)], some (.pair (.sl (.sl (.int .u8))) (.sl (.int .u8)))⟩
theorem ti26_ok : TIok Tryd.prog 26 ti26 := TIok.mk1 (by kernel_rfl) (by kernel_rfl) (by kernel_rfl) (.inl rfl) (⟨_, Tryd.underlying26, by kernel_rfl⟩) (⟨by kernel_rfl, by kernel_rfl, by kernel_rfl, by kernel_rfl⟩)
/-- api.Tty -/
def ti27 : TI := ⟨2, 48, .struct [(0, 25), (1, 24)], [.con (.slice none 0 0), .con (.slice none 0 0)], some (.pair (.sl (.sl (.int .u8))) (.sl (.int .u8)))⟩
theorem ti27_ok : TIok Tryd.prog 27 ti27 := TIok.mk1 (by kernel_rfl) (by kernel_rfl) (by kernel_rfl) (.inl rfl) (⟨_, Tryd.underlying27, by kernel_rfl⟩) (⟨by kernel_rfl, by kernel_rfl, by kernel_rfl, by kernel_rfl⟩)
/-- struct { Device []uint8; Fetched []uint8; Tty api.Tty; Lost int; Taken int } -/
def ti28 : TI := ⟨6, 112, .struct [(0, 24), (1, 24), (2, 27), (4, 3), (5, 3)], [.con (.slice none 0 0), .con (.slice none 0 0), .con (.slice none 0 0), .con (.slice none 0 0), .d (.int .i64) (0 : Int), .d (.int .i64) (0 : Int)], some (.pair (.sl (.int .u8)) (.pair (.sl (.int .u8)) (.pair (.pair (.sl (.sl (.int .u8))) (.sl (.int .u8))) (.pair (.int .i64) (.int .i64)))))⟩
theorem ti28_ok : TIok Tryd.prog 28 ti28 := TIok.mk1 (by kernel_rfl) (by kernel_rfl) (by kernel_rfl) (.inl rfl) (⟨_, Tryd.underlying28, by kernel_rfl⟩) (⟨by kernel_rfl, by kernel_rfl, by kernel_rfl, by kernel_rfl⟩)
/-- api.Whole -/
def ti29 : TI := ⟨6, 112, .struct [(0, 24), (1, 24), (2, 27), (4, 3), (5, 3)], [.con (.slice none 0 0), .con (.slice none 0 0), .con (.slice none 0 0), .con (.slice none 0 0), .d (.int .i64) (0 : Int), .d (.int .i64) (0 : Int)], some (.pair (.sl (.int .u8)) (.pair (.sl (.int .u8)) (.pair (.pair (.sl (.sl (.int .u8))) (.sl (.int .u8))) (.pair (.int .i64) (.int .i64)))))⟩
theorem ti29_ok : TIok Tryd.prog 29 ti29 := TIok.mk1 (by kernel_rfl) (by kernel_rfl) (by kernel_rfl) (.inl rfl) (⟨_, Tryd.underlying29, by kernel_rfl⟩) (⟨by kernel_rfl, by kernel_rfl, by kernel_rfl, by kernel_rfl⟩)
/-- *kernel.whole -/
def ti35 : TI := ⟨1, 8, .scalar (.pointer 59), [.con (.pointer none)], none⟩
theorem ti35_ok : TIok Tryd.prog 35 ti35 := TIok.mk1 (by kernel_rfl) (by kernel_rfl) (by kernel_rfl) (.inr rfl) (⟨Tryd.underlying35, trivial⟩) (trivial)
/-- struct { Kind int; Core int; N int; Byte uint8 } -/
def ti37 : TI := ⟨4, 32, .struct [(0, 3), (1, 3), (2, 3), (3, 5)], [.d (.int .i64) (0 : Int), .d (.int .i64) (0 : Int), .d (.int .i64) (0 : Int), .d (.int .u8) (0 : Int)], some (.pair (.int .i64) (.pair (.int .i64) (.pair (.int .i64) (.int .u8))))⟩
theorem ti37_ok : TIok Tryd.prog 37 ti37 := TIok.mk1 (by kernel_rfl) (by kernel_rfl) (by kernel_rfl) (.inl rfl) (⟨_, Tryd.underlying37, by kernel_rfl⟩) (⟨by kernel_rfl, by kernel_rfl, by kernel_rfl, by kernel_rfl⟩)
/-- api.KernOp -/
def ti38 : TI := ⟨4, 32, .struct [(0, 3), (1, 3), (2, 3), (3, 5)], [.d (.int .i64) (0 : Int), .d (.int .i64) (0 : Int), .d (.int .i64) (0 : Int), .d (.int .u8) (0 : Int)], some (.pair (.int .i64) (.pair (.int .i64) (.pair (.int .i64) (.int .u8))))⟩
theorem ti38_ok : TIok Tryd.prog 38 ti38 := TIok.mk1 (by kernel_rfl) (by kernel_rfl) (by kernel_rfl) (.inl rfl) (⟨_, Tryd.underlying38, by kernel_rfl⟩) (⟨by kernel_rfl, by kernel_rfl, by kernel_rfl, by kernel_rfl⟩)
/-- api.Errno -/
def ti39 : TI := ⟨1, 8, .scalar (.int .i64), [.d (.int .i64) (0 : Int)], some (.int .i64)⟩
theorem ti39_ok : TIok Tryd.prog 39 ti39 := TIok.mk1 (by kernel_rfl) (by kernel_rfl) (by kernel_rfl) (.inr rfl) (⟨Tryd.underlying39, trivial⟩) (⟨by kernel_rfl, by kernel_rfl, by kernel_rfl, by kernel_rfl⟩)
/-- struct { Err api.Errno; Data []uint8 } -/
def ti40 : TI := ⟨2, 32, .struct [(0, 39), (1, 24)], [.d (.int .i64) (0 : Int), .con (.slice none 0 0)], some (.pair (.int .i64) (.sl (.int .u8)))⟩
theorem ti40_ok : TIok Tryd.prog 40 ti40 := TIok.mk1 (by kernel_rfl) (by kernel_rfl) (by kernel_rfl) (.inl rfl) (⟨_, Tryd.underlying40, by kernel_rfl⟩) (⟨by kernel_rfl, by kernel_rfl, by kernel_rfl, by kernel_rfl⟩)
/-- api.KernAns -/
def ti41 : TI := ⟨2, 32, .struct [(0, 39), (1, 24)], [.d (.int .i64) (0 : Int), .con (.slice none 0 0)], some (.pair (.int .i64) (.sl (.int .u8)))⟩
theorem ti41_ok : TIok Tryd.prog 41 ti41 := TIok.mk1 (by kernel_rfl) (by kernel_rfl) (by kernel_rfl) (.inl rfl) (⟨_, Tryd.underlying41, by kernel_rfl⟩) (⟨by kernel_rfl, by kernel_rfl, by kernel_rfl, by kernel_rfl⟩)
/-- struct { In []uint8; Out []uint8; Lost int; Asks bool } -/
def ti44 : TI := ⟨4, 64, .struct [(0, 24), (1, 24), (2, 3), (3, 4)], [.con (.slice none 0 0), .con (.slice none 0 0), .d (.int .i64) (0 : Int), .lit false], some (.pair (.sl (.int .u8)) (.pair (.sl (.int .u8)) (.pair (.int .i64) (.bool))))⟩
theorem ti44_ok : TIok Tryd.prog 44 ti44 := TIok.mk1 (by kernel_rfl) (by kernel_rfl) (by kernel_rfl) (.inl rfl) (⟨_, Tryd.underlying44, by kernel_rfl⟩) (⟨by kernel_rfl, by kernel_rfl, by kernel_rfl, by kernel_rfl⟩)
/-- api.Uart -/
def ti45 : TI := ⟨4, 64, .struct [(0, 24), (1, 24), (2, 3), (3, 4)], [.con (.slice none 0 0), .con (.slice none 0 0), .d (.int .i64) (0 : Int), .lit false], some (.pair (.sl (.int .u8)) (.pair (.sl (.int .u8)) (.pair (.int .i64) (.bool))))⟩
theorem ti45_ok : TIok Tryd.prog 45 ti45 := TIok.mk1 (by kernel_rfl) (by kernel_rfl) (by kernel_rfl) (.inl rfl) (⟨_, Tryd.underlying45, by kernel_rfl⟩) (⟨by kernel_rfl, by kernel_rfl, by kernel_rfl, by kernel_rfl⟩)
/-- []api.Pin -/
def ti46 : TI := ⟨1, 24, .slice 67, [.con (.slice none 0 0)], some (.sl (.pair (.int .i64) (.pair (.int .i64) (.pair (.bool) (.pair (.bool) (.pair (.bool) (.pair (.bool) (.bool))))))))⟩
theorem ti46_ok : TIok Tryd.prog 46 ti46 := TIok.mk1 (by kernel_rfl) (by kernel_rfl) (by kernel_rfl) (.inr rfl) (Tryd.underlying46) (⟨by kernel_rfl, by kernel_rfl, by kernel_rfl, by kernel_rfl⟩)
/-- uint64 -/
def ti47 : TI := ⟨1, 8, .scalar (.int .u64), [.d (.int .u64) (0 : Int)], some (.int .u64)⟩
theorem ti47_ok : TIok Tryd.prog 47 ti47 := TIok.mk1 (by kernel_rfl) (by kernel_rfl) (by kernel_rfl) (.inr rfl) (⟨Tryd.underlying47, trivial⟩) (⟨by kernel_rfl, by kernel_rfl, by kernel_rfl, by kernel_rfl⟩)
/-- [4]uint64 -/
def ti48 : TI := ⟨4, 32, .arr 4 47, [.d (.arr 4 (.int .u64)) (List.replicate 4 (Ty.zero (.int .u64)))], some (.arr 4 (.int .u64))⟩
theorem ti48_ok : TIok Tryd.prog 48 ti48 := TIok.mk1 (by kernel_rfl) (by kernel_rfl) (by kernel_rfl) (.inl rfl) (Tryd.underlying48) (⟨by kernel_rfl, by kernel_rfl, by kernel_rfl, by kernel_rfl⟩)
/-- api.Bits -/
def ti49 : TI := ⟨4, 32, .arr 4 47, [.d (.arr 4 (.int .u64)) (List.replicate 4 (Ty.zero (.int .u64)))], some (.arr 4 (.int .u64))⟩
theorem ti49_ok : TIok Tryd.prog 49 ti49 := TIok.mk1 (by kernel_rfl) (by kernel_rfl) (by kernel_rfl) (.inl rfl) (Tryd.underlying49) (⟨by kernel_rfl, by kernel_rfl, by kernel_rfl, by kernel_rfl⟩)
/-- struct { Asked api.Bits; Served api.Bits; Class int } -/
def ti50 : TI := ⟨9, 72, .struct [(0, 49), (4, 49), (8, 3)], [.d (.arr 4 (.int .u64)) (List.replicate 4 (Ty.zero (.int .u64))), .d (.arr 4 (.int .u64)) (List.replicate 4 (Ty.zero (.int .u64))), .d (.int .i64) (0 : Int)], some (.pair (.arr 4 (.int .u64)) (.pair (.arr 4 (.int .u64)) (.int .i64)))⟩
theorem ti50_ok : TIok Tryd.prog 50 ti50 := TIok.mk1 (by kernel_rfl) (by kernel_rfl) (by kernel_rfl) (.inl rfl) (⟨_, Tryd.underlying50, by kernel_rfl⟩) (⟨by kernel_rfl, by kernel_rfl, by kernel_rfl, by kernel_rfl⟩)
/-- api.Local -/
def ti51 : TI := ⟨9, 72, .struct [(0, 49), (4, 49), (8, 3)], [.d (.arr 4 (.int .u64)) (List.replicate 4 (Ty.zero (.int .u64))), .d (.arr 4 (.int .u64)) (List.replicate 4 (Ty.zero (.int .u64))), .d (.int .i64) (0 : Int)], some (.pair (.arr 4 (.int .u64)) (.pair (.arr 4 (.int .u64)) (.int .i64)))⟩
theorem ti51_ok : TIok Tryd.prog 51 ti51 := TIok.mk1 (by kernel_rfl) (by kernel_rfl) (by kernel_rfl) (.inl rfl) (⟨_, Tryd.underlying51, by kernel_rfl⟩) (⟨by kernel_rfl, by kernel_rfl, by kernel_rfl, by kernel_rfl⟩)
/-- []api.Frame -/
def ti52 : TI := ⟨1, 24, .slice 115, [.con (.slice none 0 0)], some (.sl (.pair (.bool) (.bool)))⟩
theorem ti52_ok : TIok Tryd.prog 52 ti52 := TIok.mk1 (by kernel_rfl) (by kernel_rfl) (by kernel_rfl) (.inr rfl) (Tryd.underlying52) (⟨by kernel_rfl, by kernel_rfl, by kernel_rfl, by kernel_rfl⟩)
/-- struct { On bool; Kept []api.Frame } -/
def ti53 : TI := ⟨2, 32, .struct [(0, 4), (1, 52)], [.lit false, .con (.slice none 0 0)], some (.pair (.bool) (.sl (.pair (.bool) (.bool))))⟩
theorem ti53_ok : TIok Tryd.prog 53 ti53 := TIok.mk1 (by kernel_rfl) (by kernel_rfl) (by kernel_rfl) (.inl rfl) (⟨_, Tryd.underlying53, by kernel_rfl⟩) (⟨by kernel_rfl, by kernel_rfl, by kernel_rfl, by kernel_rfl⟩)
/-- api.Core -/
def ti54 : TI := ⟨2, 32, .struct [(0, 4), (1, 52)], [.lit false, .con (.slice none 0 0)], some (.pair (.bool) (.sl (.pair (.bool) (.bool))))⟩
theorem ti54_ok : TIok Tryd.prog 54 ti54 := TIok.mk1 (by kernel_rfl) (by kernel_rfl) (by kernel_rfl) (.inl rfl) (⟨_, Tryd.underlying54, by kernel_rfl⟩) (⟨by kernel_rfl, by kernel_rfl, by kernel_rfl, by kernel_rfl⟩)
/-- struct { local api.Local; nest api.Core; serving bool } -/
def ti55 : TI := ⟨12, 112, .struct [(0, 51), (9, 54), (11, 4)], [.d (.arr 4 (.int .u64)) (List.replicate 4 (Ty.zero (.int .u64))), .d (.arr 4 (.int .u64)) (List.replicate 4 (Ty.zero (.int .u64))), .d (.int .i64) (0 : Int), .lit false, .con (.slice none 0 0), .lit false], some (.pair (.pair (.arr 4 (.int .u64)) (.pair (.arr 4 (.int .u64)) (.int .i64))) (.pair (.pair (.bool) (.sl (.pair (.bool) (.bool)))) (.bool)))⟩
theorem ti55_ok : TIok Tryd.prog 55 ti55 := TIok.mk1 (by kernel_rfl) (by kernel_rfl) (by kernel_rfl) (.inl rfl) (⟨_, Tryd.underlying55, by kernel_rfl⟩) (⟨by kernel_rfl, by kernel_rfl, by kernel_rfl, by kernel_rfl⟩)
/-- kernel.core -/
def ti56 : TI := ⟨12, 112, .struct [(0, 51), (9, 54), (11, 4)], [.d (.arr 4 (.int .u64)) (List.replicate 4 (Ty.zero (.int .u64))), .d (.arr 4 (.int .u64)) (List.replicate 4 (Ty.zero (.int .u64))), .d (.int .i64) (0 : Int), .lit false, .con (.slice none 0 0), .lit false], some (.pair (.pair (.arr 4 (.int .u64)) (.pair (.arr 4 (.int .u64)) (.int .i64))) (.pair (.pair (.bool) (.sl (.pair (.bool) (.bool)))) (.bool)))⟩
theorem ti56_ok : TIok Tryd.prog 56 ti56 := TIok.mk1 (by kernel_rfl) (by kernel_rfl) (by kernel_rfl) (.inl rfl) (⟨_, Tryd.underlying56, by kernel_rfl⟩) (⟨by kernel_rfl, by kernel_rfl, by kernel_rfl, by kernel_rfl⟩)
/-- [2]kernel.core -/
def ti57 : TI := ⟨24, 224, .arr 2 56, [.d (.arr 2 (.pair (.pair (.arr 4 (.int .u64)) (.pair (.arr 4 (.int .u64)) (.int .i64))) (.pair (.pair (.bool) (.sl (.pair (.bool) (.bool)))) (.bool)))) (List.replicate 2 (Ty.zero (.pair (.pair (.arr 4 (.int .u64)) (.pair (.arr 4 (.int .u64)) (.int .i64))) (.pair (.pair (.bool) (.sl (.pair (.bool) (.bool)))) (.bool)))))], some (.arr 2 (.pair (.pair (.arr 4 (.int .u64)) (.pair (.arr 4 (.int .u64)) (.int .i64))) (.pair (.pair (.bool) (.sl (.pair (.bool) (.bool)))) (.bool))))⟩
theorem ti57_ok : TIok Tryd.prog 57 ti57 := TIok.mk1 (by kernel_rfl) (by kernel_rfl) (by kernel_rfl) (.inl rfl) (Tryd.underlying57) (⟨by kernel_rfl, by kernel_rfl, by kernel_rfl, by kernel_rfl⟩)
/-- struct { uart api.Uart; pins []api.Pin; cores [2]kernel.core; fetched []uint8; tty api.Tty; taken int } -/
def ti58 : TI := ⟨33, 392, .struct [(0, 45), (4, 46), (5, 57), (29, 24), (30, 27), (32, 3)], [.con (.slice none 0 0), .con (.slice none 0 0), .d (.int .i64) (0 : Int), .lit false, .con (.slice none 0 0), .d (.arr 2 (.pair (.pair (.arr 4 (.int .u64)) (.pair (.arr 4 (.int .u64)) (.int .i64))) (.pair (.pair (.bool) (.sl (.pair (.bool) (.bool)))) (.bool)))) (List.replicate 2 (Ty.zero (.pair (.pair (.arr 4 (.int .u64)) (.pair (.arr 4 (.int .u64)) (.int .i64))) (.pair (.pair (.bool) (.sl (.pair (.bool) (.bool)))) (.bool))))), .con (.slice none 0 0), .con (.slice none 0 0), .con (.slice none 0 0), .d (.int .i64) (0 : Int)], some (.pair (.pair (.sl (.int .u8)) (.pair (.sl (.int .u8)) (.pair (.int .i64) (.bool)))) (.pair (.sl (.pair (.int .i64) (.pair (.int .i64) (.pair (.bool) (.pair (.bool) (.pair (.bool) (.pair (.bool) (.bool)))))))) (.pair (.arr 2 (.pair (.pair (.arr 4 (.int .u64)) (.pair (.arr 4 (.int .u64)) (.int .i64))) (.pair (.pair (.bool) (.sl (.pair (.bool) (.bool)))) (.bool)))) (.pair (.sl (.int .u8)) (.pair (.pair (.sl (.sl (.int .u8))) (.sl (.int .u8))) (.int .i64))))))⟩
theorem ti58_ok : TIok Tryd.prog 58 ti58 := TIok.mk1 (by kernel_rfl) (by kernel_rfl) (by kernel_rfl) (.inl rfl) (⟨_, Tryd.underlying58, by kernel_rfl⟩) (⟨by kernel_rfl, by kernel_rfl, by kernel_rfl, by kernel_rfl⟩)
/-- kernel.whole -/
def ti59 : TI := ⟨33, 392, .struct [(0, 45), (4, 46), (5, 57), (29, 24), (30, 27), (32, 3)], [.con (.slice none 0 0), .con (.slice none 0 0), .d (.int .i64) (0 : Int), .lit false, .con (.slice none 0 0), .d (.arr 2 (.pair (.pair (.arr 4 (.int .u64)) (.pair (.arr 4 (.int .u64)) (.int .i64))) (.pair (.pair (.bool) (.sl (.pair (.bool) (.bool)))) (.bool)))) (List.replicate 2 (Ty.zero (.pair (.pair (.arr 4 (.int .u64)) (.pair (.arr 4 (.int .u64)) (.int .i64))) (.pair (.pair (.bool) (.sl (.pair (.bool) (.bool)))) (.bool))))), .con (.slice none 0 0), .con (.slice none 0 0), .con (.slice none 0 0), .d (.int .i64) (0 : Int)], some (.pair (.pair (.sl (.int .u8)) (.pair (.sl (.int .u8)) (.pair (.int .i64) (.bool)))) (.pair (.sl (.pair (.int .i64) (.pair (.int .i64) (.pair (.bool) (.pair (.bool) (.pair (.bool) (.pair (.bool) (.bool)))))))) (.pair (.arr 2 (.pair (.pair (.arr 4 (.int .u64)) (.pair (.arr 4 (.int .u64)) (.int .i64))) (.pair (.pair (.bool) (.sl (.pair (.bool) (.bool)))) (.bool)))) (.pair (.sl (.int .u8)) (.pair (.pair (.sl (.sl (.int .u8))) (.sl (.int .u8))) (.int .i64))))))⟩
theorem ti59_ok : TIok Tryd.prog 59 ti59 := TIok.mk1 (by kernel_rfl) (by kernel_rfl) (by kernel_rfl) (.inl rfl) (⟨_, Tryd.underlying59, by kernel_rfl⟩) (⟨by kernel_rfl, by kernel_rfl, by kernel_rfl, by kernel_rfl⟩)
/-- [2]int -/
def ti60 : TI := ⟨2, 16, .arr 2 3, [.d (.arr 2 (.int .i64)) (List.replicate 2 (Ty.zero (.int .i64)))], some (.arr 2 (.int .i64))⟩
theorem ti60_ok : TIok Tryd.prog 60 ti60 := TIok.mk1 (by kernel_rfl) (by kernel_rfl) (by kernel_rfl) (.inl rfl) (Tryd.underlying60) (⟨by kernel_rfl, by kernel_rfl, by kernel_rfl, by kernel_rfl⟩)
/-- struct { device []uint8; fetched []uint8; tty api.Tty; lost int; taken int; asked int; serves int; pin int; saved [2]int } -/
def ti61 : TI := ⟨11, 152, .struct [(0, 24), (1, 24), (2, 27), (4, 3), (5, 3), (6, 3), (7, 3), (8, 3), (9, 60)], [.con (.slice none 0 0), .con (.slice none 0 0), .con (.slice none 0 0), .con (.slice none 0 0), .d (.int .i64) (0 : Int), .d (.int .i64) (0 : Int), .d (.int .i64) (0 : Int), .d (.int .i64) (0 : Int), .d (.int .i64) (0 : Int), .d (.arr 2 (.int .i64)) (List.replicate 2 (Ty.zero (.int .i64)))], some (.pair (.sl (.int .u8)) (.pair (.sl (.int .u8)) (.pair (.pair (.sl (.sl (.int .u8))) (.sl (.int .u8))) (.pair (.int .i64) (.pair (.int .i64) (.pair (.int .i64) (.pair (.int .i64) (.pair (.int .i64) (.arr 2 (.int .i64))))))))))⟩
theorem ti61_ok : TIok Tryd.prog 61 ti61 := TIok.mk1 (by kernel_rfl) (by kernel_rfl) (by kernel_rfl) (.inl rfl) (⟨_, Tryd.underlying61, by kernel_rfl⟩) (⟨by kernel_rfl, by kernel_rfl, by kernel_rfl, by kernel_rfl⟩)
/-- corebellref.YWhole -/
def ti62 : TI := ⟨11, 152, .struct [(0, 24), (1, 24), (2, 27), (4, 3), (5, 3), (6, 3), (7, 3), (8, 3), (9, 60)], [.con (.slice none 0 0), .con (.slice none 0 0), .con (.slice none 0 0), .con (.slice none 0 0), .d (.int .i64) (0 : Int), .d (.int .i64) (0 : Int), .d (.int .i64) (0 : Int), .d (.int .i64) (0 : Int), .d (.int .i64) (0 : Int), .d (.arr 2 (.int .i64)) (List.replicate 2 (Ty.zero (.int .i64)))], some (.pair (.sl (.int .u8)) (.pair (.sl (.int .u8)) (.pair (.pair (.sl (.sl (.int .u8))) (.sl (.int .u8))) (.pair (.int .i64) (.pair (.int .i64) (.pair (.int .i64) (.pair (.int .i64) (.pair (.int .i64) (.arr 2 (.int .i64))))))))))⟩
theorem ti62_ok : TIok Tryd.prog 62 ti62 := TIok.mk1 (by kernel_rfl) (by kernel_rfl) (by kernel_rfl) (.inl rfl) (⟨_, Tryd.underlying62, by kernel_rfl⟩) (⟨by kernel_rfl, by kernel_rfl, by kernel_rfl, by kernel_rfl⟩)
/-- struct { Core int; Vec int; Level bool; Masked bool; Up bool; Kept bool; Sent bool } -/
def ti66 : TI := ⟨7, 24, .struct [(0, 3), (1, 3), (2, 4), (3, 4), (4, 4), (5, 4), (6, 4)], [.d (.int .i64) (0 : Int), .d (.int .i64) (0 : Int), .lit false, .lit false, .lit false, .lit false, .lit false], some (.pair (.int .i64) (.pair (.int .i64) (.pair (.bool) (.pair (.bool) (.pair (.bool) (.pair (.bool) (.bool)))))))⟩
theorem ti66_ok : TIok Tryd.prog 66 ti66 := TIok.mk1 (by kernel_rfl) (by kernel_rfl) (by kernel_rfl) (.inl rfl) (⟨_, Tryd.underlying66, by kernel_rfl⟩) (⟨by kernel_rfl, by kernel_rfl, by kernel_rfl, by kernel_rfl⟩)
/-- api.Pin -/
def ti67 : TI := ⟨7, 24, .struct [(0, 3), (1, 3), (2, 4), (3, 4), (4, 4), (5, 4), (6, 4)], [.d (.int .i64) (0 : Int), .d (.int .i64) (0 : Int), .lit false, .lit false, .lit false, .lit false, .lit false], some (.pair (.int .i64) (.pair (.int .i64) (.pair (.bool) (.pair (.bool) (.pair (.bool) (.pair (.bool) (.bool)))))))⟩
theorem ti67_ok : TIok Tryd.prog 67 ti67 := TIok.mk1 (by kernel_rfl) (by kernel_rfl) (by kernel_rfl) (.inl rfl) (⟨_, Tryd.underlying67, by kernel_rfl⟩) (⟨by kernel_rfl, by kernel_rfl, by kernel_rfl, by kernel_rfl⟩)
/-- struct { Kind int; Byte uint8 } -/
def ti71 : TI := ⟨2, 16, .struct [(0, 3), (1, 5)], [.d (.int .i64) (0 : Int), .d (.int .u8) (0 : Int)], some (.pair (.int .i64) (.int .u8))⟩
theorem ti71_ok : TIok Tryd.prog 71 ti71 := TIok.mk1 (by kernel_rfl) (by kernel_rfl) (by kernel_rfl) (.inl rfl) (⟨_, Tryd.underlying71, by kernel_rfl⟩) (⟨by kernel_rfl, by kernel_rfl, by kernel_rfl, by kernel_rfl⟩)
/-- api.UartOp -/
def ti72 : TI := ⟨2, 16, .struct [(0, 3), (1, 5)], [.d (.int .i64) (0 : Int), .d (.int .u8) (0 : Int)], some (.pair (.int .i64) (.int .u8))⟩
theorem ti72_ok : TIok Tryd.prog 72 ti72 := TIok.mk1 (by kernel_rfl) (by kernel_rfl) (by kernel_rfl) (.inl rfl) (⟨_, Tryd.underlying72, by kernel_rfl⟩) (⟨by kernel_rfl, by kernel_rfl, by kernel_rfl, by kernel_rfl⟩)
/-- *kernel.core -/
def ti76 : TI := ⟨1, 8, .scalar (.pointer 56), [.con (.pointer none)], none⟩
theorem ti76_ok : TIok Tryd.prog 76 ti76 := TIok.mk1 (by kernel_rfl) (by kernel_rfl) (by kernel_rfl) (.inr rfl) (⟨Tryd.underlying76, trivial⟩) (trivial)
/-- map[int]int -/
def ti77 : TI := ⟨1, 8, .scalar (.map 3 3), [.con (.map none)], none⟩
theorem ti77_ok : TIok Tryd.prog 77 ti77 := TIok.mk1 (by kernel_rfl) (by kernel_rfl) (by kernel_rfl) (.inr rfl) (⟨Tryd.underlying77, trivial⟩) (trivial)
/-- struct { Kind int; N int } -/
def ti84 : TI := ⟨2, 16, .struct [(0, 3), (1, 3)], [.d (.int .i64) (0 : Int), .d (.int .i64) (0 : Int)], some (.pair (.int .i64) (.int .i64))⟩
theorem ti84_ok : TIok Tryd.prog 84 ti84 := TIok.mk1 (by kernel_rfl) (by kernel_rfl) (by kernel_rfl) (.inl rfl) (⟨_, Tryd.underlying84, by kernel_rfl⟩) (⟨by kernel_rfl, by kernel_rfl, by kernel_rfl, by kernel_rfl⟩)
/-- api.LocalOp -/
def ti85 : TI := ⟨2, 16, .struct [(0, 3), (1, 3)], [.d (.int .i64) (0 : Int), .d (.int .i64) (0 : Int)], some (.pair (.int .i64) (.int .i64))⟩
theorem ti85_ok : TIok Tryd.prog 85 ti85 := TIok.mk1 (by kernel_rfl) (by kernel_rfl) (by kernel_rfl) (.inl rfl) (⟨_, Tryd.underlying85, by kernel_rfl⟩) (⟨by kernel_rfl, by kernel_rfl, by kernel_rfl, by kernel_rfl⟩)
/-- []api.Sent -/
def ti100 : TI := ⟨1, 24, .slice 106, [.con (.slice none 0 0)], some (.sl (.pair (.int .i64) (.pair (.int .i64) (.int .i64))))⟩
theorem ti100_ok : TIok Tryd.prog 100 ti100 := TIok.mk1 (by kernel_rfl) (by kernel_rfl) (by kernel_rfl) (.inr rfl) (Tryd.underlying100) (⟨by kernel_rfl, by kernel_rfl, by kernel_rfl, by kernel_rfl⟩)
/-- struct { Kind int; Pin int } -/
def ti103 : TI := ⟨2, 16, .struct [(0, 3), (1, 3)], [.d (.int .i64) (0 : Int), .d (.int .i64) (0 : Int)], some (.pair (.int .i64) (.int .i64))⟩
theorem ti103_ok : TIok Tryd.prog 103 ti103 := TIok.mk1 (by kernel_rfl) (by kernel_rfl) (by kernel_rfl) (.inl rfl) (⟨_, Tryd.underlying103, by kernel_rfl⟩) (⟨by kernel_rfl, by kernel_rfl, by kernel_rfl, by kernel_rfl⟩)
/-- api.PinOp -/
def ti104 : TI := ⟨2, 16, .struct [(0, 3), (1, 3)], [.d (.int .i64) (0 : Int), .d (.int .i64) (0 : Int)], some (.pair (.int .i64) (.int .i64))⟩
theorem ti104_ok : TIok Tryd.prog 104 ti104 := TIok.mk1 (by kernel_rfl) (by kernel_rfl) (by kernel_rfl) (.inl rfl) (⟨_, Tryd.underlying104, by kernel_rfl⟩) (⟨by kernel_rfl, by kernel_rfl, by kernel_rfl, by kernel_rfl⟩)
/-- struct { Pin int; Core int; Vec int } -/
def ti105 : TI := ⟨3, 24, .struct [(0, 3), (1, 3), (2, 3)], [.d (.int .i64) (0 : Int), .d (.int .i64) (0 : Int), .d (.int .i64) (0 : Int)], some (.pair (.int .i64) (.pair (.int .i64) (.int .i64)))⟩
theorem ti105_ok : TIok Tryd.prog 105 ti105 := TIok.mk1 (by kernel_rfl) (by kernel_rfl) (by kernel_rfl) (.inl rfl) (⟨_, Tryd.underlying105, by kernel_rfl⟩) (⟨by kernel_rfl, by kernel_rfl, by kernel_rfl, by kernel_rfl⟩)
/-- api.Sent -/
def ti106 : TI := ⟨3, 24, .struct [(0, 3), (1, 3), (2, 3)], [.d (.int .i64) (0 : Int), .d (.int .i64) (0 : Int), .d (.int .i64) (0 : Int)], some (.pair (.int .i64) (.pair (.int .i64) (.int .i64)))⟩
theorem ti106_ok : TIok Tryd.prog 106 ti106 := TIok.mk1 (by kernel_rfl) (by kernel_rfl) (by kernel_rfl) (.inl rfl) (⟨_, Tryd.underlying106, by kernel_rfl⟩) (⟨by kernel_rfl, by kernel_rfl, by kernel_rfl, by kernel_rfl⟩)
/-- *api.Tty -/
def ti109 : TI := ⟨1, 8, .scalar (.pointer 27), [.con (.pointer none)], none⟩
theorem ti109_ok : TIok Tryd.prog 109 ti109 := TIok.mk1 (by kernel_rfl) (by kernel_rfl) (by kernel_rfl) (.inr rfl) (⟨Tryd.underlying109, trivial⟩) (trivial)
/-- struct { On bool; Irq bool } -/
def ti114 : TI := ⟨2, 2, .struct [(0, 4), (1, 4)], [.lit false, .lit false], some (.pair (.bool) (.bool))⟩
theorem ti114_ok : TIok Tryd.prog 114 ti114 := TIok.mk1 (by kernel_rfl) (by kernel_rfl) (by kernel_rfl) (.inl rfl) (⟨_, Tryd.underlying114, by kernel_rfl⟩) (⟨by kernel_rfl, by kernel_rfl, by kernel_rfl, by kernel_rfl⟩)
/-- api.Frame -/
def ti115 : TI := ⟨2, 2, .struct [(0, 4), (1, 4)], [.lit false, .lit false], some (.pair (.bool) (.bool))⟩
theorem ti115_ok : TIok Tryd.prog 115 ti115 := TIok.mk1 (by kernel_rfl) (by kernel_rfl) (by kernel_rfl) (.inl rfl) (⟨_, Tryd.underlying115, by kernel_rfl⟩) (⟨by kernel_rfl, by kernel_rfl, by kernel_rfl, by kernel_rfl⟩)
/-- *api.Pin -/
def ti122 : TI := ⟨1, 8, .scalar (.pointer 67), [.con (.pointer none)], none⟩
theorem ti122_ok : TIok Tryd.prog 122 ti122 := TIok.mk1 (by kernel_rfl) (by kernel_rfl) (by kernel_rfl) (.inr rfl) (⟨Tryd.underlying122, trivial⟩) (trivial)
/-- [64]uint8 -/
def ti128 : TI := ⟨64, 64, .arr 64 5, [.d (.arr 64 (.int .u8)) (List.replicate 64 (Ty.zero (.int .u8)))], some (.arr 64 (.int .u8))⟩
theorem ti128_ok : TIok Tryd.prog 128 ti128 := TIok.mk1 (by kernel_rfl) (by kernel_rfl) (by kernel_rfl) (.inl rfl) (Tryd.underlying128) (⟨by kernel_rfl, by kernel_rfl, by kernel_rfl, by kernel_rfl⟩)
/-- uint -/
def ti129 : TI := ⟨1, 8, .scalar (.int .u64), [.d (.int .u64) (0 : Int)], some (.int .u64)⟩
theorem ti129_ok : TIok Tryd.prog 129 ti129 := TIok.mk1 (by kernel_rfl) (by kernel_rfl) (by kernel_rfl) (.inr rfl) (⟨Tryd.underlying129, trivial⟩) (⟨by kernel_rfl, by kernel_rfl, by kernel_rfl, by kernel_rfl⟩)
/-- struct { _interface *abi.Type; concrete *abi.Type; asserted *abi.Type; missingMethod string } -/
def ti132 : TI := ⟨4, 40, .struct [(0, 17), (1, 17), (2, 17), (3, 9)], [.con (.pointer none), .con (.pointer none), .con (.pointer none), .d .str ([] : List Int)], none⟩
theorem ti132_ok : TIok Tryd.prog 132 ti132 := TIok.mk1 (by kernel_rfl) (by kernel_rfl) (by kernel_rfl) (.inl rfl) (⟨_, Tryd.underlying132, by kernel_rfl⟩) (trivial)
/-- runtime.TypeAssertionError -/
def ti133 : TI := ⟨4, 40, .struct [(0, 17), (1, 17), (2, 17), (3, 9)], [.con (.pointer none), .con (.pointer none), .con (.pointer none), .d .str ([] : List Int)], none⟩
theorem ti133_ok : TIok Tryd.prog 133 ti133 := TIok.mk1 (by kernel_rfl) (by kernel_rfl) (by kernel_rfl) (.inl rfl) (⟨_, Tryd.underlying133, by kernel_rfl⟩) (trivial)
/-- uint32 -/
def ti138 : TI := ⟨1, 4, .scalar (.int .u32), [.d (.int .u32) (0 : Int)], some (.int .u32)⟩
theorem ti138_ok : TIok Tryd.prog 138 ti138 := TIok.mk1 (by kernel_rfl) (by kernel_rfl) (by kernel_rfl) (.inr rfl) (⟨Tryd.underlying138, trivial⟩) (⟨by kernel_rfl, by kernel_rfl, by kernel_rfl, by kernel_rfl⟩)
/-- abi.TFlag -/
def ti139 : TI := ⟨1, 1, .scalar (.int .u8), [.d (.int .u8) (0 : Int)], some (.int .u8)⟩
theorem ti139_ok : TIok Tryd.prog 139 ti139 := TIok.mk1 (by kernel_rfl) (by kernel_rfl) (by kernel_rfl) (.inr rfl) (⟨Tryd.underlying139, trivial⟩) (⟨by kernel_rfl, by kernel_rfl, by kernel_rfl, by kernel_rfl⟩)
/-- abi.Kind -/
def ti140 : TI := ⟨1, 1, .scalar (.int .u8), [.d (.int .u8) (0 : Int)], some (.int .u8)⟩
theorem ti140_ok : TIok Tryd.prog 140 ti140 := TIok.mk1 (by kernel_rfl) (by kernel_rfl) (by kernel_rfl) (.inr rfl) (⟨Tryd.underlying140, trivial⟩) (⟨by kernel_rfl, by kernel_rfl, by kernel_rfl, by kernel_rfl⟩)
/-- *uint8 -/
def ti142 : TI := ⟨1, 8, .scalar (.pointer 5), [.con (.pointer none)], none⟩
theorem ti142_ok : TIok Tryd.prog 142 ti142 := TIok.mk1 (by kernel_rfl) (by kernel_rfl) (by kernel_rfl) (.inr rfl) (⟨Tryd.underlying142, trivial⟩) (trivial)
/-- abi.NameOff -/
def ti143 : TI := ⟨1, 4, .scalar (.int .i32), [.d (.int .i32) (0 : Int)], some (.int .i32)⟩
theorem ti143_ok : TIok Tryd.prog 143 ti143 := TIok.mk1 (by kernel_rfl) (by kernel_rfl) (by kernel_rfl) (.inr rfl) (⟨Tryd.underlying143, trivial⟩) (⟨by kernel_rfl, by kernel_rfl, by kernel_rfl, by kernel_rfl⟩)
/-- abi.TypeOff -/
def ti144 : TI := ⟨1, 4, .scalar (.int .i32), [.d (.int .i32) (0 : Int)], some (.int .i32)⟩
theorem ti144_ok : TIok Tryd.prog 144 ti144 := TIok.mk1 (by kernel_rfl) (by kernel_rfl) (by kernel_rfl) (.inr rfl) (⟨Tryd.underlying144, trivial⟩) (⟨by kernel_rfl, by kernel_rfl, by kernel_rfl, by kernel_rfl⟩)
theorem eq38_ok : EqTy Tryd.prog 38 (.pair (.int .i64) (.pair (.int .i64) (.pair (.int .i64) (.int .u8)))) := ⟨(Exists.intro _ (And.intro Tryd.underlying38 (And.intro (by kernel_rfl) (And.intro (by kernel_rfl) (And.intro (by kernel_rfl) (And.intro Tryd.underlying3 (And.intro (by kernel_rfl) (And.intro (by kernel_rfl) (And.intro Tryd.underlying3 (And.intro (by kernel_rfl) (And.intro (by kernel_rfl) (And.intro Tryd.underlying3 (And.intro (by kernel_rfl) (And.intro (by kernel_rfl) Tryd.underlying5)))))))))))))), rfl, rfl, by kernel_rfl, by kernel_rfl⟩
theorem eq48_ok : EqTy Tryd.prog 48 (.arr 4 (.int .u64)) := ⟨(Exists.intro 47 (And.intro Tryd.underlying48 (And.intro (by kernel_rfl) (And.intro (by kernel_rfl) Tryd.underlying47)))), rfl, rfl, by kernel_rfl, by kernel_rfl⟩
theorem eq49_ok : EqTy Tryd.prog 49 (.arr 4 (.int .u64)) := ⟨(Exists.intro 47 (And.intro Tryd.underlying49 (And.intro (by kernel_rfl) (And.intro (by kernel_rfl) Tryd.underlying47)))), rfl, rfl, by kernel_rfl, by kernel_rfl⟩
theorem eq51_ok : EqTy Tryd.prog 51 (.pair (.arr 4 (.int .u64)) (.pair (.arr 4 (.int .u64)) (.int .i64))) := ⟨(Exists.intro _ (And.intro Tryd.underlying51 (And.intro (by kernel_rfl) (And.intro (by kernel_rfl) (And.intro (by kernel_rfl) (And.intro (Exists.intro 47 (And.intro Tryd.underlying49 (And.intro (by kernel_rfl) (And.intro (by kernel_rfl) Tryd.underlying47)))) (And.intro (by kernel_rfl) (And.intro (by kernel_rfl) (And.intro (Exists.intro 47 (And.intro Tryd.underlying49 (And.intro (by kernel_rfl) (And.intro (by kernel_rfl) Tryd.underlying47)))) (And.intro (by kernel_rfl) (And.intro (by kernel_rfl) Tryd.underlying3))))))))))), rfl, rfl, by kernel_rfl, by kernel_rfl⟩
theorem eq60_ok : EqTy Tryd.prog 60 (.arr 2 (.int .i64)) := ⟨(Exists.intro 3 (And.intro Tryd.underlying60 (And.intro (by kernel_rfl) (And.intro (by kernel_rfl) Tryd.underlying3)))), rfl, rfl, by kernel_rfl, by kernel_rfl⟩
theorem eq67_ok : EqTy Tryd.prog 67 (.pair (.int .i64) (.pair (.int .i64) (.pair (.bool) (.pair (.bool) (.pair (.bool) (.pair (.bool) (.bool))))))) := ⟨(Exists.intro _ (And.intro Tryd.underlying67 (And.intro (by kernel_rfl) (And.intro (by kernel_rfl) (And.intro (by kernel_rfl) (And.intro Tryd.underlying3 (And.intro (by kernel_rfl) (And.intro (by kernel_rfl) (And.intro Tryd.underlying3 (And.intro (by kernel_rfl) (And.intro (by kernel_rfl) (And.intro Tryd.underlying4 (And.intro (by kernel_rfl) (And.intro (by kernel_rfl) (And.intro Tryd.underlying4 (And.intro (by kernel_rfl) (And.intro (by kernel_rfl) (And.intro Tryd.underlying4 (And.intro (by kernel_rfl) (And.intro (by kernel_rfl) (And.intro Tryd.underlying4 (And.intro (by kernel_rfl) (And.intro (by kernel_rfl) Tryd.underlying4))))))))))))))))))))))), rfl, rfl, by kernel_rfl, by kernel_rfl⟩
theorem eq72_ok : EqTy Tryd.prog 72 (.pair (.int .i64) (.int .u8)) := ⟨(Exists.intro _ (And.intro Tryd.underlying72 (And.intro (by kernel_rfl) (And.intro (by kernel_rfl) (And.intro (by kernel_rfl) (And.intro Tryd.underlying3 (And.intro (by kernel_rfl) (And.intro (by kernel_rfl) Tryd.underlying5)))))))), rfl, rfl, by kernel_rfl, by kernel_rfl⟩
theorem eq85_ok : EqTy Tryd.prog 85 (.pair (.int .i64) (.int .i64)) := ⟨(Exists.intro _ (And.intro Tryd.underlying85 (And.intro (by kernel_rfl) (And.intro (by kernel_rfl) (And.intro (by kernel_rfl) (And.intro Tryd.underlying3 (And.intro (by kernel_rfl) (And.intro (by kernel_rfl) Tryd.underlying3)))))))), rfl, rfl, by kernel_rfl, by kernel_rfl⟩
theorem eq104_ok : EqTy Tryd.prog 104 (.pair (.int .i64) (.int .i64)) := ⟨(Exists.intro _ (And.intro Tryd.underlying104 (And.intro (by kernel_rfl) (And.intro (by kernel_rfl) (And.intro (by kernel_rfl) (And.intro Tryd.underlying3 (And.intro (by kernel_rfl) (And.intro (by kernel_rfl) Tryd.underlying3)))))))), rfl, rfl, by kernel_rfl, by kernel_rfl⟩
theorem eq106_ok : EqTy Tryd.prog 106 (.pair (.int .i64) (.pair (.int .i64) (.int .i64))) := ⟨(Exists.intro _ (And.intro Tryd.underlying106 (And.intro (by kernel_rfl) (And.intro (by kernel_rfl) (And.intro (by kernel_rfl) (And.intro Tryd.underlying3 (And.intro (by kernel_rfl) (And.intro (by kernel_rfl) (And.intro Tryd.underlying3 (And.intro (by kernel_rfl) (And.intro (by kernel_rfl) Tryd.underlying3))))))))))), rfl, rfl, by kernel_rfl, by kernel_rfl⟩
theorem eq115_ok : EqTy Tryd.prog 115 (.pair (.bool) (.bool)) := ⟨(Exists.intro _ (And.intro Tryd.underlying115 (And.intro (by kernel_rfl) (And.intro (by kernel_rfl) (And.intro (by kernel_rfl) (And.intro Tryd.underlying4 (And.intro (by kernel_rfl) (And.intro (by kernel_rfl) Tryd.underlying4)))))))), rfl, rfl, by kernel_rfl, by kernel_rfl⟩
theorem eq128_ok : EqTy Tryd.prog 128 (.arr 64 (.int .u8)) := ⟨(Exists.intro 5 (And.intro Tryd.underlying128 (And.intro (by kernel_rfl) (And.intro (by kernel_rfl) Tryd.underlying5)))), rfl, rfl, by kernel_rfl, by kernel_rfl⟩
def env : Env := { tys := [(2, ti2), (3, ti3), (4, ti4), (5, ti5), (6, ti6), (7, ti7), (8, ti8), (9, ti9), (10, ti10), (11, ti11), (12, ti12), (13, ti13), (14, ti14), (15, ti15), (16, ti16), (17, ti17), (18, ti18), (19, ti19), (21, ti21), (22, ti22), (23, ti23), (24, ti24), (25, ti25), (26, ti26), (27, ti27), (28, ti28), (29, ti29), (35, ti35), (37, ti37), (38, ti38), (39, ti39), (40, ti40), (41, ti41), (44, ti44), (45, ti45), (46, ti46), (47, ti47), (48, ti48), (49, ti49), (50, ti50), (51, ti51), (52, ti52), (53, ti53), (54, ti54), (55, ti55), (56, ti56), (57, ti57), (58, ti58), (59, ti59), (60, ti60), (61, ti61), (62, ti62), (66, ti66), (67, ti67), (71, ti71), (72, ti72), (76, ti76), (77, ti77), (84, ti84), (85, ti85), (100, ti100), (103, ti103), (104, ti104), (105, ti105), (106, ti106), (109, ti109), (114, ti114), (115, ti115), (122, ti122), (128, ti128), (129, ti129), (132, ti132), (133, ti133), (138, ti138), (139, ti139), (140, ti140), (142, ti142), (143, ti143), (144, ti144)], eqs := [(38, .pair (.int .i64) (.pair (.int .i64) (.pair (.int .i64) (.int .u8)))), (48, .arr 4 (.int .u64)), (49, .arr 4 (.int .u64)), (51, .pair (.arr 4 (.int .u64)) (.pair (.arr 4 (.int .u64)) (.int .i64))), (60, .arr 2 (.int .i64)), (67, .pair (.int .i64) (.pair (.int .i64) (.pair (.bool) (.pair (.bool) (.pair (.bool) (.pair (.bool) (.bool))))))), (72, .pair (.int .i64) (.int .u8)), (85, .pair (.int .i64) (.int .i64)), (104, .pair (.int .i64) (.int .i64)), (106, .pair (.int .i64) (.pair (.int .i64) (.int .i64))), (115, .pair (.bool) (.bool)), (128, .arr 64 (.int .u8))] }
theorem env_ok : EnvOk Tryd.prog env := envOk_of_all (E := env) ⟨ti2_ok, ⟨ti3_ok, ⟨ti4_ok, ⟨ti5_ok, ⟨ti6_ok, ⟨ti7_ok, ⟨ti8_ok, ⟨ti9_ok, ⟨ti10_ok, ⟨ti11_ok, ⟨ti12_ok, ⟨ti13_ok, ⟨ti14_ok, ⟨ti15_ok, ⟨ti16_ok, ⟨ti17_ok, ⟨ti18_ok, ⟨ti19_ok, ⟨ti21_ok, ⟨ti22_ok, ⟨ti23_ok, ⟨ti24_ok, ⟨ti25_ok, ⟨ti26_ok, ⟨ti27_ok, ⟨ti28_ok, ⟨ti29_ok, ⟨ti35_ok, ⟨ti37_ok, ⟨ti38_ok, ⟨ti39_ok, ⟨ti40_ok, ⟨ti41_ok, ⟨ti44_ok, ⟨ti45_ok, ⟨ti46_ok, ⟨ti47_ok, ⟨ti48_ok, ⟨ti49_ok, ⟨ti50_ok, ⟨ti51_ok, ⟨ti52_ok, ⟨ti53_ok, ⟨ti54_ok, ⟨ti55_ok, ⟨ti56_ok, ⟨ti57_ok, ⟨ti58_ok, ⟨ti59_ok, ⟨ti60_ok, ⟨ti61_ok, ⟨ti62_ok, ⟨ti66_ok, ⟨ti67_ok, ⟨ti71_ok, ⟨ti72_ok, ⟨ti76_ok, ⟨ti77_ok, ⟨ti84_ok, ⟨ti85_ok, ⟨ti100_ok, ⟨ti103_ok, ⟨ti104_ok, ⟨ti105_ok, ⟨ti106_ok, ⟨ti109_ok, ⟨ti114_ok, ⟨ti115_ok, ⟨ti122_ok, ⟨ti128_ok, ⟨ti129_ok, ⟨ti132_ok, ⟨ti133_ok, ⟨ti138_ok, ⟨ti139_ok, ⟨ti140_ok, ⟨ti142_ok, ⟨ti143_ok, ⟨ti144_ok, trivial⟩⟩⟩⟩⟩⟩⟩⟩⟩⟩⟩⟩⟩⟩⟩⟩⟩⟩⟩⟩⟩⟩⟩⟩⟩⟩⟩⟩⟩⟩⟩⟩⟩⟩⟩⟩⟩⟩⟩⟩⟩⟩⟩⟩⟩⟩⟩⟩⟩⟩⟩⟩⟩⟩⟩⟩⟩⟩⟩⟩⟩⟩⟩⟩⟩⟩⟩⟩⟩⟩⟩⟩⟩⟩⟩⟩⟩⟩⟩ ⟨eq38_ok, ⟨eq48_ok, ⟨eq49_ok, ⟨eq51_ok, ⟨eq60_ok, ⟨eq67_ok, ⟨eq72_ok, ⟨eq85_ok, ⟨eq104_ok, ⟨eq106_ok, ⟨eq115_ok, ⟨eq128_ok, trivial⟩⟩⟩⟩⟩⟩⟩⟩⟩⟩⟩⟩
end Go.Proofs.YtppgbcmeagbalaaDoor
