/-
  The types of the translation, as the executor wants them, with the proof that they are as the program says. Written by genenv.py.
-/
import Derived.Test.YtdhldloajddfiaaGreatDoorRows
import Derived.Test.YtdhldloajddfiaaGreatDoorSxP4
namespace Go.Proofs.YtdhldloajddfiaaGreatDoor
open Go.Sx
@[reducible] def tyboundsError : Ty := .pair (.int .i64) (.pair (.int .i64) (.pair (.bool) (.int .u8)))
@[reducible] def tyerrorAddressString : Ty := .pair (.str) (.int .u64)
@[reducible] def tyTty : Ty := .pair (.sl (.sl (.int .u8))) (.sl (.int .u8))
@[reducible] def tyPipe : Ty := .pair (.sl (.int .u8)) (.pair (.int .i64) (.int .i64))
@[reducible] def tyPipeOp : Ty := .pair (.int .i64) (.pair (.int .i64) (.sl (.int .u8)))
@[reducible] def tyWhole : Ty := .pair (.sl (.int .u8)) (.pair (.sl (.int .u8)) (.pair (.pair (.sl (.sl (.int .u8))) (.sl (.int .u8))) (.pair (.int .i64) (.int .i64))))
@[reducible] def tyKernAns : Ty := .pair (.int .i64) (.sl (.int .u8))
@[reducible] def tyKernOp : Ty := .pair (.int .i64) (.pair (.int .i64) (.pair (.int .i64) (.int .u8)))
@[reducible] def tyUart : Ty := .pair (.sl (.int .u8)) (.pair (.sl (.int .u8)) (.pair (.int .i64) (.bool)))
@[reducible] def tyLocal : Ty := .pair (.arr 4 (.int .u64)) (.pair (.arr 4 (.int .u64)) (.int .i64))
@[reducible] def tyCore : Ty := .pair (.bool) (.sl (.pair (.bool) (.bool)))
@[reducible] def tycore : Ty := .pair (.pair (.arr 4 (.int .u64)) (.pair (.arr 4 (.int .u64)) (.int .i64))) (.pair (.pair (.bool) (.sl (.pair (.bool) (.bool)))) (.bool))
@[reducible] def tywhole : Ty := .pair (.pair (.sl (.int .u8)) (.pair (.sl (.int .u8)) (.pair (.int .i64) (.bool)))) (.pair (.sl (.pair (.int .i64) (.pair (.int .i64) (.pair (.bool) (.pair (.bool) (.pair (.bool) (.pair (.bool) (.bool)))))))) (.pair (.arr 2 (.pair (.pair (.arr 4 (.int .u64)) (.pair (.arr 4 (.int .u64)) (.int .i64))) (.pair (.pair (.bool) (.sl (.pair (.bool) (.bool)))) (.bool)))) (.pair (.sl (.int .u8)) (.pair (.pair (.sl (.sl (.int .u8))) (.sl (.int .u8))) (.int .i64)))))
@[reducible] def tyPin : Ty := .pair (.int .i64) (.pair (.int .i64) (.pair (.bool) (.pair (.bool) (.pair (.bool) (.pair (.bool) (.bool))))))
@[reducible] def tyUartOp : Ty := .pair (.int .i64) (.int .u8)
@[reducible] def tyLocalOp : Ty := .pair (.int .i64) (.int .i64)
@[reducible] def tyPinOp : Ty := .pair (.int .i64) (.int .i64)
@[reducible] def tySent : Ty := .pair (.int .i64) (.pair (.int .i64) (.int .i64))
@[reducible] def tyFrame : Ty := .pair (.bool) (.bool)
@[reducible] def tyNumError : Ty := .pair (.str) (.pair (.str) (.err))
/-- func() -/
def ti1 : TI := ⟨1, 8, .scalar (.func #[] #[] false), [.con .nilFunc], none⟩
theorem ti1_ok : TIok Tryz.prog 1 ti1 := TIok.mk1 (by kernel_rfl) (by kernel_rfl) (by kernel_rfl) (.inr rfl) (⟨Tryz.underlying1, trivial⟩) (trivial)
/-- int64 -/
def ti2 : TI := ⟨1, 8, .scalar (.int .i64), [.d (.int .i64) (0 : Int)], some (.int .i64)⟩
theorem ti2_ok : TIok Tryz.prog 2 ti2 := TIok.mk1 (by kernel_rfl) (by kernel_rfl) (by kernel_rfl) (.inr rfl) (⟨Tryz.underlying2, trivial⟩) (⟨by kernel_rfl, by kernel_rfl, by kernel_rfl, by kernel_rfl⟩)
/-- int -/
def ti3 : TI := ⟨1, 8, .scalar (.int .i64), [.d (.int .i64) (0 : Int)], some (.int .i64)⟩
theorem ti3_ok : TIok Tryz.prog 3 ti3 := TIok.mk1 (by kernel_rfl) (by kernel_rfl) (by kernel_rfl) (.inr rfl) (⟨Tryz.underlying3, trivial⟩) (⟨by kernel_rfl, by kernel_rfl, by kernel_rfl, by kernel_rfl⟩)
/-- bool -/
def ti4 : TI := ⟨1, 1, .scalar .bool, [.lit false], some (.bool)⟩
theorem ti4_ok : TIok Tryz.prog 4 ti4 := TIok.mk1 (by kernel_rfl) (by kernel_rfl) (by kernel_rfl) (.inr rfl) (⟨Tryz.underlying4, trivial⟩) (⟨by kernel_rfl, by kernel_rfl, by kernel_rfl, by kernel_rfl⟩)
/-- uint8 -/
def ti5 : TI := ⟨1, 1, .scalar (.int .u8), [.d (.int .u8) (0 : Int)], some (.int .u8)⟩
theorem ti5_ok : TIok Tryz.prog 5 ti5 := TIok.mk1 (by kernel_rfl) (by kernel_rfl) (by kernel_rfl) (.inr rfl) (⟨Tryz.underlying5, trivial⟩) (⟨by kernel_rfl, by kernel_rfl, by kernel_rfl, by kernel_rfl⟩)
/-- abi.BoundsErrorCode -/
def ti6 : TI := ⟨1, 1, .scalar (.int .u8), [.d (.int .u8) (0 : Int)], some (.int .u8)⟩
theorem ti6_ok : TIok Tryz.prog 6 ti6 := TIok.mk1 (by kernel_rfl) (by kernel_rfl) (by kernel_rfl) (.inr rfl) (⟨Tryz.underlying6, trivial⟩) (⟨by kernel_rfl, by kernel_rfl, by kernel_rfl, by kernel_rfl⟩)
/-- struct { x int64; y int; signed bool; code abi.BoundsErrorCode } -/
def ti7 : TI := ⟨4, 24, .struct [(0, 2), (1, 3), (2, 4), (3, 6)], [.d (.int .i64) (0 : Int), .d (.int .i64) (0 : Int), .lit false, .d (.int .u8) (0 : Int)], some (.pair (.int .i64) (.pair (.int .i64) (.pair (.bool) (.int .u8))))⟩
theorem ti7_ok : TIok Tryz.prog 7 ti7 := TIok.mk1 (by kernel_rfl) (by kernel_rfl) (by kernel_rfl) (.inl rfl) (⟨_, Tryz.underlying7, by kernel_rfl⟩) (⟨by kernel_rfl, by kernel_rfl, by kernel_rfl, by kernel_rfl⟩)
/-- runtime.boundsError -/
def ti8 : TI := ⟨4, 24, .struct [(0, 2), (1, 3), (2, 4), (3, 6)], [.d (.int .i64) (0 : Int), .d (.int .i64) (0 : Int), .lit false, .d (.int .u8) (0 : Int)], some (.pair (.int .i64) (.pair (.int .i64) (.pair (.bool) (.int .u8))))⟩
theorem ti8_ok : TIok Tryz.prog 8 ti8 := TIok.mk1 (by kernel_rfl) (by kernel_rfl) (by kernel_rfl) (.inl rfl) (⟨_, Tryz.underlying8, by kernel_rfl⟩) (⟨by kernel_rfl, by kernel_rfl, by kernel_rfl, by kernel_rfl⟩)
/-- string -/
def ti9 : TI := ⟨1, 16, .scalar .string, [.d .str ([] : List Int)], some (.str)⟩
theorem ti9_ok : TIok Tryz.prog 9 ti9 := TIok.mk1 (by kernel_rfl) (by kernel_rfl) (by kernel_rfl) (.inr rfl) (⟨Tryz.underlying9, trivial⟩) (⟨by kernel_rfl, by kernel_rfl, by kernel_rfl, by kernel_rfl⟩)
/-- runtime.errorString -/
def ti10 : TI := ⟨1, 16, .scalar .string, [.d .str ([] : List Int)], some (.str)⟩
theorem ti10_ok : TIok Tryz.prog 10 ti10 := TIok.mk1 (by kernel_rfl) (by kernel_rfl) (by kernel_rfl) (.inr rfl) (⟨Tryz.underlying10, trivial⟩) (⟨by kernel_rfl, by kernel_rfl, by kernel_rfl, by kernel_rfl⟩)
/-- runtime.plainError -/
def ti11 : TI := ⟨1, 16, .scalar .string, [.d .str ([] : List Int)], some (.str)⟩
theorem ti11_ok : TIok Tryz.prog 11 ti11 := TIok.mk1 (by kernel_rfl) (by kernel_rfl) (by kernel_rfl) (.inr rfl) (⟨Tryz.underlying11, trivial⟩) (⟨by kernel_rfl, by kernel_rfl, by kernel_rfl, by kernel_rfl⟩)
/-- uintptr -/
def ti12 : TI := ⟨1, 8, .scalar (.int .u64), [.d (.int .u64) (0 : Int)], some (.int .u64)⟩
theorem ti12_ok : TIok Tryz.prog 12 ti12 := TIok.mk1 (by kernel_rfl) (by kernel_rfl) (by kernel_rfl) (.inr rfl) (⟨Tryz.underlying12, trivial⟩) (⟨by kernel_rfl, by kernel_rfl, by kernel_rfl, by kernel_rfl⟩)
/-- struct { msg string; addr uintptr } -/
def ti13 : TI := ⟨2, 24, .struct [(0, 9), (1, 12)], [.d .str ([] : List Int), .d (.int .u64) (0 : Int)], some (.pair (.str) (.int .u64))⟩
theorem ti13_ok : TIok Tryz.prog 13 ti13 := TIok.mk1 (by kernel_rfl) (by kernel_rfl) (by kernel_rfl) (.inl rfl) (⟨_, Tryz.underlying13, by kernel_rfl⟩) (⟨by kernel_rfl, by kernel_rfl, by kernel_rfl, by kernel_rfl⟩)
/-- runtime.errorAddressString -/
def ti14 : TI := ⟨2, 24, .struct [(0, 9), (1, 12)], [.d .str ([] : List Int), .d (.int .u64) (0 : Int)], some (.pair (.str) (.int .u64))⟩
theorem ti14_ok : TIok Tryz.prog 14 ti14 := TIok.mk1 (by kernel_rfl) (by kernel_rfl) (by kernel_rfl) (.inl rfl) (⟨_, Tryz.underlying14, by kernel_rfl⟩) (⟨by kernel_rfl, by kernel_rfl, by kernel_rfl, by kernel_rfl⟩)
/-- *runtime.TypeAssertionError -/
def ti15 : TI := ⟨1, 8, .scalar (.pointer 209), [.con (.pointer none)], none⟩
theorem ti15_ok : TIok Tryz.prog 15 ti15 := TIok.mk1 (by kernel_rfl) (by kernel_rfl) (by kernel_rfl) (.inr rfl) (⟨Tryz.underlying15, trivial⟩) (trivial)
/-- *runtime.PanicNilError -/
def ti16 : TI := ⟨1, 8, .scalar (.pointer 212), [.con (.pointer none)], none⟩
theorem ti16_ok : TIok Tryz.prog 16 ti16 := TIok.mk1 (by kernel_rfl) (by kernel_rfl) (by kernel_rfl) (.inr rfl) (⟨Tryz.underlying16, trivial⟩) (trivial)
/-- *abi.Type -/
def ti17 : TI := ⟨1, 8, .scalar (.pointer 219), [.con (.pointer none)], none⟩
theorem ti17_ok : TIok Tryz.prog 17 ti17 := TIok.mk1 (by kernel_rfl) (by kernel_rfl) (by kernel_rfl) (.inr rfl) (⟨Tryz.underlying17, trivial⟩) (trivial)
/-- struct { typ *abi.Type } -/
def ti18 : TI := ⟨1, 8, .struct [(0, 17)], [.con (.pointer none)], none⟩
theorem ti18_ok : TIok Tryz.prog 18 ti18 := TIok.mk1 (by kernel_rfl) (by kernel_rfl) (by kernel_rfl) (.inl rfl) (⟨_, Tryz.underlying18, by kernel_rfl⟩) (trivial)
/-- maps.unhashableTypeError -/
def ti19 : TI := ⟨1, 8, .struct [(0, 17)], [.con (.pointer none)], none⟩
theorem ti19_ok : TIok Tryz.prog 19 ti19 := TIok.mk1 (by kernel_rfl) (by kernel_rfl) (by kernel_rfl) (.inl rfl) (⟨_, Tryz.underlying19, by kernel_rfl⟩) (trivial)
/-- int32 -/
def ti21 : TI := ⟨1, 4, .scalar (.int .i32), [.d (.int .i32) (0 : Int)], some (.int .i32)⟩
theorem ti21_ok : TIok Tryz.prog 21 ti21 := TIok.mk1 (by kernel_rfl) (by kernel_rfl) (by kernel_rfl) (.inr rfl) (⟨Tryz.underlying21, trivial⟩) (⟨by kernel_rfl, by kernel_rfl, by kernel_rfl, by kernel_rfl⟩)
/-- []uint8 -/
def ti22 : TI := ⟨1, 24, .slice 5, [.con (.slice none 0 0)], some (.sl (.int .u8))⟩
theorem ti22_ok : TIok Tryz.prog 22 ti22 := TIok.mk1 (by kernel_rfl) (by kernel_rfl) (by kernel_rfl) (.inr rfl) (Tryz.underlying22) (⟨by kernel_rfl, by kernel_rfl, by kernel_rfl, by kernel_rfl⟩)
/-- func() bool -/
def ti23 : TI := ⟨1, 8, .scalar (.func #[] #[4] false), [.con .nilFunc], none⟩
theorem ti23_ok : TIok Tryz.prog 23 ti23 := TIok.mk1 (by kernel_rfl) (by kernel_rfl) (by kernel_rfl) (.inr rfl) (⟨Tryz.underlying23, trivial⟩) (trivial)
/-- [][]uint8 -/
def ti24 : TI := ⟨1, 24, .slice 22, [.con (.slice none 0 0)], some (.sl (.sl (.int .u8)))⟩
theorem ti24_ok : TIok Tryz.prog 24 ti24 := TIok.mk1 (by kernel_rfl) (by kernel_rfl) (by kernel_rfl) (.inr rfl) (Tryz.underlying24) (⟨by kernel_rfl, by kernel_rfl, by kernel_rfl, by kernel_rfl⟩)
/-- struct { Lines [][]uint8; Edit []uint8 } -/
def ti25 : TI := ⟨2, 48, .struct [(0, 24), (1, 22)], [.con (.slice none 0 0), .con (.slice none 0 0)], some (.pair (.sl (.sl (.int .u8))) (.sl (.int .u8)))⟩
theorem ti25_ok : TIok Tryz.prog 25 ti25 := TIok.mk1 (by kernel_rfl) (by kernel_rfl) (by kernel_rfl) (.inl rfl) (⟨_, Tryz.underlying25, by kernel_rfl⟩) (⟨by kernel_rfl, by kernel_rfl, by kernel_rfl, by kernel_rfl⟩)
/-- api.Tty -/
def ti26 : TI := ⟨2, 48, .struct [(0, 24), (1, 22)], [.con (.slice none 0 0), .con (.slice none 0 0)], some (.pair (.sl (.sl (.int .u8))) (.sl (.int .u8)))⟩
theorem ti26_ok : TIok Tryz.prog 26 ti26 := TIok.mk1 (by kernel_rfl) (by kernel_rfl) (by kernel_rfl) (.inl rfl) (⟨_, Tryz.underlying26, by kernel_rfl⟩) (⟨by kernel_rfl, by kernel_rfl, by kernel_rfl, by kernel_rfl⟩)
/-- func([]uint8) api.Tty -/
def ti27 : TI := ⟨1, 8, .scalar (.func #[22] #[26] false), [.con .nilFunc], none⟩
theorem ti27_ok : TIok Tryz.prog 27 ti27 := TIok.mk1 (by kernel_rfl) (by kernel_rfl) (by kernel_rfl) (.inr rfl) (⟨Tryz.underlying27, trivial⟩) (trivial)
/-- func(...[]uint8) []uint8 -/
def ti28 : TI := ⟨1, 8, .scalar (.func #[24] #[22] true), [.con .nilFunc], none⟩
theorem ti28_ok : TIok Tryz.prog 28 ti28 := TIok.mk1 (by kernel_rfl) (by kernel_rfl) (by kernel_rfl) (.inr rfl) (⟨Tryz.underlying28, trivial⟩) (trivial)
/-- struct { Has []uint8; Writers int; Readers int } -/
def ti29 : TI := ⟨3, 40, .struct [(0, 22), (1, 3), (2, 3)], [.con (.slice none 0 0), .d (.int .i64) (0 : Int), .d (.int .i64) (0 : Int)], some (.pair (.sl (.int .u8)) (.pair (.int .i64) (.int .i64)))⟩
theorem ti29_ok : TIok Tryz.prog 29 ti29 := TIok.mk1 (by kernel_rfl) (by kernel_rfl) (by kernel_rfl) (.inl rfl) (⟨_, Tryz.underlying29, by kernel_rfl⟩) (⟨by kernel_rfl, by kernel_rfl, by kernel_rfl, by kernel_rfl⟩)
/-- api.Pipe -/
def ti30 : TI := ⟨3, 40, .struct [(0, 22), (1, 3), (2, 3)], [.con (.slice none 0 0), .d (.int .i64) (0 : Int), .d (.int .i64) (0 : Int)], some (.pair (.sl (.int .u8)) (.pair (.int .i64) (.int .i64)))⟩
theorem ti30_ok : TIok Tryz.prog 30 ti30 := TIok.mk1 (by kernel_rfl) (by kernel_rfl) (by kernel_rfl) (.inl rfl) (⟨_, Tryz.underlying30, by kernel_rfl⟩) (⟨by kernel_rfl, by kernel_rfl, by kernel_rfl, by kernel_rfl⟩)
/-- api.Errno -/
def ti31 : TI := ⟨1, 8, .scalar (.int .i64), [.d (.int .i64) (0 : Int)], some (.int .i64)⟩
theorem ti31_ok : TIok Tryz.prog 31 ti31 := TIok.mk1 (by kernel_rfl) (by kernel_rfl) (by kernel_rfl) (.inr rfl) (⟨Tryz.underlying31, trivial⟩) (⟨by kernel_rfl, by kernel_rfl, by kernel_rfl, by kernel_rfl⟩)
/-- func(api.Tty, int) (api.Tty, []uint8, api.Errno) -/
def ti33 : TI := ⟨1, 8, .scalar (.func #[26, 3] #[26, 22, 31] false), [.con .nilFunc], none⟩
theorem ti33_ok : TIok Tryz.prog 33 ti33 := TIok.mk1 (by kernel_rfl) (by kernel_rfl) (by kernel_rfl) (.inr rfl) (⟨Tryz.underlying33, trivial⟩) (trivial)
/-- func(api.Pipe, api.PipeOp) (api.Pipe, int, []uint8, api.Errno) -/
def ti35 : TI := ⟨1, 8, .scalar (.func #[30, 37] #[30, 3, 22, 31] false), [.con .nilFunc], none⟩
theorem ti35_ok : TIok Tryz.prog 35 ti35 := TIok.mk1 (by kernel_rfl) (by kernel_rfl) (by kernel_rfl) (.inr rfl) (⟨Tryz.underlying35, trivial⟩) (trivial)
/-- struct { Kind int; Most int; Data []uint8 } -/
def ti36 : TI := ⟨3, 40, .struct [(0, 3), (1, 3), (2, 22)], [.d (.int .i64) (0 : Int), .d (.int .i64) (0 : Int), .con (.slice none 0 0)], some (.pair (.int .i64) (.pair (.int .i64) (.sl (.int .u8))))⟩
theorem ti36_ok : TIok Tryz.prog 36 ti36 := TIok.mk1 (by kernel_rfl) (by kernel_rfl) (by kernel_rfl) (.inl rfl) (⟨_, Tryz.underlying36, by kernel_rfl⟩) (⟨by kernel_rfl, by kernel_rfl, by kernel_rfl, by kernel_rfl⟩)
/-- api.PipeOp -/
def ti37 : TI := ⟨3, 40, .struct [(0, 3), (1, 3), (2, 22)], [.d (.int .i64) (0 : Int), .d (.int .i64) (0 : Int), .con (.slice none 0 0)], some (.pair (.int .i64) (.pair (.int .i64) (.sl (.int .u8))))⟩
theorem ti37_ok : TIok Tryz.prog 37 ti37 := TIok.mk1 (by kernel_rfl) (by kernel_rfl) (by kernel_rfl) (.inl rfl) (⟨_, Tryz.underlying37, by kernel_rfl⟩) (⟨by kernel_rfl, by kernel_rfl, by kernel_rfl, by kernel_rfl⟩)
/-- func([]uint8, int, int) bool -/
def ti38 : TI := ⟨1, 8, .scalar (.func #[22, 3, 3] #[4] false), [.con .nilFunc], none⟩
theorem ti38_ok : TIok Tryz.prog 38 ti38 := TIok.mk1 (by kernel_rfl) (by kernel_rfl) (by kernel_rfl) (.inr rfl) (⟨Tryz.underlying38, trivial⟩) (trivial)
/-- func(int) string -/
def ti39 : TI := ⟨1, 8, .scalar (.func #[3] #[9] false), [.con .nilFunc], none⟩
theorem ti39_ok : TIok Tryz.prog 39 ti39 := TIok.mk1 (by kernel_rfl) (by kernel_rfl) (by kernel_rfl) (.inr rfl) (⟨Tryz.underlying39, trivial⟩) (trivial)
/-- func([]uint8) []uint8 -/
def ti40 : TI := ⟨1, 8, .scalar (.func #[22] #[22] false), [.con .nilFunc], none⟩
theorem ti40_ok : TIok Tryz.prog 40 ti40 := TIok.mk1 (by kernel_rfl) (by kernel_rfl) (by kernel_rfl) (.inr rfl) (⟨Tryz.underlying40, trivial⟩) (trivial)
/-- func(string, int) string -/
def ti41 : TI := ⟨1, 8, .scalar (.func #[9, 3] #[9] false), [.con .nilFunc], none⟩
theorem ti41_ok : TIok Tryz.prog 41 ti41 := TIok.mk1 (by kernel_rfl) (by kernel_rfl) (by kernel_rfl) (.inr rfl) (⟨Tryz.underlying41, trivial⟩) (trivial)
/-- func(int64, int) string -/
def ti42 : TI := ⟨1, 8, .scalar (.func #[2, 3] #[9] false), [.con .nilFunc], none⟩
theorem ti42_ok : TIok Tryz.prog 42 ti42 := TIok.mk1 (by kernel_rfl) (by kernel_rfl) (by kernel_rfl) (.inr rfl) (⟨Tryz.underlying42, trivial⟩) (trivial)
/-- []string -/
def ti43 : TI := ⟨1, 24, .slice 9, [.con (.slice none 0 0)], some (.sl (.str))⟩
theorem ti43_ok : TIok Tryz.prog 43 ti43 := TIok.mk1 (by kernel_rfl) (by kernel_rfl) (by kernel_rfl) (.inr rfl) (Tryz.underlying43) (⟨by kernel_rfl, by kernel_rfl, by kernel_rfl, by kernel_rfl⟩)
/-- func(string) ([]string, api.Errno) -/
def ti45 : TI := ⟨1, 8, .scalar (.func #[9] #[43, 31] false), [.con .nilFunc], none⟩
theorem ti45_ok : TIok Tryz.prog 45 ti45 := TIok.mk1 (by kernel_rfl) (by kernel_rfl) (by kernel_rfl) (.inr rfl) (⟨Tryz.underlying45, trivial⟩) (trivial)
/-- func([]uint8, int) bool -/
def ti46 : TI := ⟨1, 8, .scalar (.func #[22, 3] #[4] false), [.con .nilFunc], none⟩
theorem ti46_ok : TIok Tryz.prog 46 ti46 := TIok.mk1 (by kernel_rfl) (by kernel_rfl) (by kernel_rfl) (.inr rfl) (⟨Tryz.underlying46, trivial⟩) (trivial)
/-- func(api.Tty, uint8) (api.Tty, api.Errno) -/
def ti48 : TI := ⟨1, 8, .scalar (.func #[26, 5] #[26, 31] false), [.con .nilFunc], none⟩
theorem ti48_ok : TIok Tryz.prog 48 ti48 := TIok.mk1 (by kernel_rfl) (by kernel_rfl) (by kernel_rfl) (.inr rfl) (⟨Tryz.underlying48, trivial⟩) (trivial)
/-- func([]uint8, int) []uint8 -/
def ti49 : TI := ⟨1, 8, .scalar (.func #[22, 3] #[22] false), [.con .nilFunc], none⟩
theorem ti49_ok : TIok Tryz.prog 49 ti49 := TIok.mk1 (by kernel_rfl) (by kernel_rfl) (by kernel_rfl) (.inr rfl) (⟨Tryz.underlying49, trivial⟩) (trivial)
/-- func(api.Tty) bool -/
def ti50 : TI := ⟨1, 8, .scalar (.func #[26] #[4] false), [.con .nilFunc], none⟩
theorem ti50_ok : TIok Tryz.prog 50 ti50 := TIok.mk1 (by kernel_rfl) (by kernel_rfl) (by kernel_rfl) (.inr rfl) (⟨Tryz.underlying50, trivial⟩) (trivial)
/-- func(api.Tty) api.Tty -/
def ti51 : TI := ⟨1, 8, .scalar (.func #[26] #[26] false), [.con .nilFunc], none⟩
theorem ti51_ok : TIok Tryz.prog 51 ti51 := TIok.mk1 (by kernel_rfl) (by kernel_rfl) (by kernel_rfl) (.inr rfl) (⟨Tryz.underlying51, trivial⟩) (trivial)
/-- func(api.Errno) (api.Pipe, int, []uint8, api.Errno) -/
def ti52 : TI := ⟨1, 8, .scalar (.func #[31] #[30, 3, 22, 31] false), [.con .nilFunc], none⟩
theorem ti52_ok : TIok Tryz.prog 52 ti52 := TIok.mk1 (by kernel_rfl) (by kernel_rfl) (by kernel_rfl) (.inr rfl) (⟨Tryz.underlying52, trivial⟩) (trivial)
/-- func(api.Pipe) bool -/
def ti53 : TI := ⟨1, 8, .scalar (.func #[30] #[4] false), [.con .nilFunc], none⟩
theorem ti53_ok : TIok Tryz.prog 53 ti53 := TIok.mk1 (by kernel_rfl) (by kernel_rfl) (by kernel_rfl) (.inr rfl) (⟨Tryz.underlying53, trivial⟩) (trivial)
/-- *int -/
def ti54 : TI := ⟨1, 8, .scalar (.pointer 3), [.con (.pointer none)], none⟩
theorem ti54_ok : TIok Tryz.prog 54 ti54 := TIok.mk1 (by kernel_rfl) (by kernel_rfl) (by kernel_rfl) (.inr rfl) (⟨Tryz.underlying54, trivial⟩) (trivial)
/-- map[int]*int -/
def ti55 : TI := ⟨1, 8, .scalar (.map 3 54), [.con (.map none)], none⟩
theorem ti55_ok : TIok Tryz.prog 55 ti55 := TIok.mk1 (by kernel_rfl) (by kernel_rfl) (by kernel_rfl) (.inr rfl) (⟨Tryz.underlying55, trivial⟩) (trivial)
/-- uint -/
def ti56 : TI := ⟨1, 8, .scalar (.int .u64), [.d (.int .u64) (0 : Int)], some (.int .u64)⟩
theorem ti56_ok : TIok Tryz.prog 56 ti56 := TIok.mk1 (by kernel_rfl) (by kernel_rfl) (by kernel_rfl) (.inr rfl) (⟨Tryz.underlying56, trivial⟩) (⟨by kernel_rfl, by kernel_rfl, by kernel_rfl, by kernel_rfl⟩)
/-- func(uint, uint) (uint, uint) -/
def ti58 : TI := ⟨1, 8, .scalar (.func #[56, 56] #[56, 56] false), [.con .nilFunc], none⟩
theorem ti58_ok : TIok Tryz.prog 58 ti58 := TIok.mk1 (by kernel_rfl) (by kernel_rfl) (by kernel_rfl) (.inr rfl) (⟨Tryz.underlying58, trivial⟩) (trivial)
/-- func(string, string) bool -/
def ti59 : TI := ⟨1, 8, .scalar (.func #[9, 9] #[4] false), [.con .nilFunc], none⟩
theorem ti59_ok : TIok Tryz.prog 59 ti59 := TIok.mk1 (by kernel_rfl) (by kernel_rfl) (by kernel_rfl) (.inr rfl) (⟨Tryz.underlying59, trivial⟩) (trivial)
/-- *strings.Builder -/
def ti60 : TI := ⟨1, 8, .scalar (.pointer 62), [.con (.pointer none)], none⟩
theorem ti60_ok : TIok Tryz.prog 60 ti60 := TIok.mk1 (by kernel_rfl) (by kernel_rfl) (by kernel_rfl) (.inr rfl) (⟨Tryz.underlying60, trivial⟩) (trivial)
/-- struct { addr *strings.Builder; buf []uint8 } -/
def ti61 : TI := ⟨2, 32, .struct [(0, 60), (1, 22)], [.con (.pointer none), .con (.slice none 0 0)], none⟩
theorem ti61_ok : TIok Tryz.prog 61 ti61 := TIok.mk1 (by kernel_rfl) (by kernel_rfl) (by kernel_rfl) (.inl rfl) (⟨_, Tryz.underlying61, by kernel_rfl⟩) (trivial)
/-- strings.Builder -/
def ti62 : TI := ⟨2, 32, .struct [(0, 60), (1, 22)], [.con (.pointer none), .con (.slice none 0 0)], none⟩
theorem ti62_ok : TIok Tryz.prog 62 ti62 := TIok.mk1 (by kernel_rfl) (by kernel_rfl) (by kernel_rfl) (.inl rfl) (⟨_, Tryz.underlying62, by kernel_rfl⟩) (trivial)
/-- func(int) -/
def ti63 : TI := ⟨1, 8, .scalar (.func #[3] #[] false), [.con .nilFunc], none⟩
theorem ti63_ok : TIok Tryz.prog 63 ti63 := TIok.mk1 (by kernel_rfl) (by kernel_rfl) (by kernel_rfl) (.inr rfl) (⟨Tryz.underlying63, trivial⟩) (trivial)
/-- interface { Error() string } -/
def ti64 : TI := ⟨1, 16, .scalar (.interface #[("Error", 69)]), [.con .nilIface], some (.err)⟩
theorem ti64_ok : TIok Tryz.prog 64 ti64 := TIok.mk1 (by kernel_rfl) (by kernel_rfl) (by kernel_rfl) (.inr rfl) (⟨Tryz.underlying64, trivial⟩) (⟨by kernel_rfl, by kernel_rfl, by kernel_rfl, by kernel_rfl⟩)
/-- error -/
def ti65 : TI := ⟨1, 16, .scalar (.interface #[("Error", 69)]), [.con .nilIface], some (.err)⟩
theorem ti65_ok : TIok Tryz.prog 65 ti65 := TIok.mk1 (by kernel_rfl) (by kernel_rfl) (by kernel_rfl) (.inr rfl) (⟨Tryz.underlying65, trivial⟩) (⟨by kernel_rfl, by kernel_rfl, by kernel_rfl, by kernel_rfl⟩)
/-- func(string) (int, error) -/
def ti67 : TI := ⟨1, 8, .scalar (.func #[9] #[3, 65] false), [.con .nilFunc], none⟩
theorem ti67_ok : TIok Tryz.prog 67 ti67 := TIok.mk1 (by kernel_rfl) (by kernel_rfl) (by kernel_rfl) (.inr rfl) (⟨Tryz.underlying67, trivial⟩) (trivial)
/-- func() int -/
def ti68 : TI := ⟨1, 8, .scalar (.func #[] #[3] false), [.con .nilFunc], none⟩
theorem ti68_ok : TIok Tryz.prog 68 ti68 := TIok.mk1 (by kernel_rfl) (by kernel_rfl) (by kernel_rfl) (.inr rfl) (⟨Tryz.underlying68, trivial⟩) (trivial)
/-- func() string -/
def ti69 : TI := ⟨1, 8, .scalar (.func #[] #[9] false), [.con .nilFunc], none⟩
theorem ti69_ok : TIok Tryz.prog 69 ti69 := TIok.mk1 (by kernel_rfl) (by kernel_rfl) (by kernel_rfl) (.inr rfl) (⟨Tryz.underlying69, trivial⟩) (trivial)
/-- []api.KernOp -/
def ti70 : TI := ⟨1, 24, .slice 81, [.con (.slice none 0 0)], some (.sl (.pair (.int .i64) (.pair (.int .i64) (.pair (.int .i64) (.int .u8)))))⟩
theorem ti70_ok : TIok Tryz.prog 70 ti70 := TIok.mk1 (by kernel_rfl) (by kernel_rfl) (by kernel_rfl) (.inr rfl) (Tryz.underlying70) (⟨by kernel_rfl, by kernel_rfl, by kernel_rfl, by kernel_rfl⟩)
/-- func(string) ([]api.KernOp, int, api.Errno) -/
def ti72 : TI := ⟨1, 8, .scalar (.func #[9] #[70, 3, 31] false), [.con .nilFunc], none⟩
theorem ti72_ok : TIok Tryz.prog 72 ti72 := TIok.mk1 (by kernel_rfl) (by kernel_rfl) (by kernel_rfl) (.inr rfl) (⟨Tryz.underlying72, trivial⟩) (trivial)
/-- []api.KernAns -/
def ti73 : TI := ⟨1, 24, .slice 79, [.con (.slice none 0 0)], some (.sl (.pair (.int .i64) (.sl (.int .u8))))⟩
theorem ti73_ok : TIok Tryz.prog 73 ti73 := TIok.mk1 (by kernel_rfl) (by kernel_rfl) (by kernel_rfl) (.inr rfl) (Tryz.underlying73) (⟨by kernel_rfl, by kernel_rfl, by kernel_rfl, by kernel_rfl⟩)
/-- struct { Device []uint8; Fetched []uint8; Tty api.Tty; Lost int; Taken int } -/
def ti74 : TI := ⟨6, 112, .struct [(0, 22), (1, 22), (2, 26), (4, 3), (5, 3)], [.con (.slice none 0 0), .con (.slice none 0 0), .con (.slice none 0 0), .con (.slice none 0 0), .d (.int .i64) (0 : Int), .d (.int .i64) (0 : Int)], some (.pair (.sl (.int .u8)) (.pair (.sl (.int .u8)) (.pair (.pair (.sl (.sl (.int .u8))) (.sl (.int .u8))) (.pair (.int .i64) (.int .i64)))))⟩
theorem ti74_ok : TIok Tryz.prog 74 ti74 := TIok.mk1 (by kernel_rfl) (by kernel_rfl) (by kernel_rfl) (.inl rfl) (⟨_, Tryz.underlying74, by kernel_rfl⟩) (⟨by kernel_rfl, by kernel_rfl, by kernel_rfl, by kernel_rfl⟩)
/-- api.Whole -/
def ti75 : TI := ⟨6, 112, .struct [(0, 22), (1, 22), (2, 26), (4, 3), (5, 3)], [.con (.slice none 0 0), .con (.slice none 0 0), .con (.slice none 0 0), .con (.slice none 0 0), .d (.int .i64) (0 : Int), .d (.int .i64) (0 : Int)], some (.pair (.sl (.int .u8)) (.pair (.sl (.int .u8)) (.pair (.pair (.sl (.sl (.int .u8))) (.sl (.int .u8))) (.pair (.int .i64) (.int .i64)))))⟩
theorem ti75_ok : TIok Tryz.prog 75 ti75 := TIok.mk1 (by kernel_rfl) (by kernel_rfl) (by kernel_rfl) (.inl rfl) (⟨_, Tryz.underlying75, by kernel_rfl⟩) (⟨by kernel_rfl, by kernel_rfl, by kernel_rfl, by kernel_rfl⟩)
/-- func([]api.KernOp) ([]api.KernAns, api.Whole) -/
def ti77 : TI := ⟨1, 8, .scalar (.func #[70] #[73, 75] false), [.con .nilFunc], none⟩
theorem ti77_ok : TIok Tryz.prog 77 ti77 := TIok.mk1 (by kernel_rfl) (by kernel_rfl) (by kernel_rfl) (.inr rfl) (⟨Tryz.underlying77, trivial⟩) (trivial)
/-- struct { Err api.Errno; Data []uint8 } -/
def ti78 : TI := ⟨2, 32, .struct [(0, 31), (1, 22)], [.d (.int .i64) (0 : Int), .con (.slice none 0 0)], some (.pair (.int .i64) (.sl (.int .u8)))⟩
theorem ti78_ok : TIok Tryz.prog 78 ti78 := TIok.mk1 (by kernel_rfl) (by kernel_rfl) (by kernel_rfl) (.inl rfl) (⟨_, Tryz.underlying78, by kernel_rfl⟩) (⟨by kernel_rfl, by kernel_rfl, by kernel_rfl, by kernel_rfl⟩)
/-- api.KernAns -/
def ti79 : TI := ⟨2, 32, .struct [(0, 31), (1, 22)], [.d (.int .i64) (0 : Int), .con (.slice none 0 0)], some (.pair (.int .i64) (.sl (.int .u8)))⟩
theorem ti79_ok : TIok Tryz.prog 79 ti79 := TIok.mk1 (by kernel_rfl) (by kernel_rfl) (by kernel_rfl) (.inl rfl) (⟨_, Tryz.underlying79, by kernel_rfl⟩) (⟨by kernel_rfl, by kernel_rfl, by kernel_rfl, by kernel_rfl⟩)
/-- struct { Kind int; Core int; N int; Byte uint8 } -/
def ti80 : TI := ⟨4, 32, .struct [(0, 3), (1, 3), (2, 3), (3, 5)], [.d (.int .i64) (0 : Int), .d (.int .i64) (0 : Int), .d (.int .i64) (0 : Int), .d (.int .u8) (0 : Int)], some (.pair (.int .i64) (.pair (.int .i64) (.pair (.int .i64) (.int .u8))))⟩
theorem ti80_ok : TIok Tryz.prog 80 ti80 := TIok.mk1 (by kernel_rfl) (by kernel_rfl) (by kernel_rfl) (.inl rfl) (⟨_, Tryz.underlying80, by kernel_rfl⟩) (⟨by kernel_rfl, by kernel_rfl, by kernel_rfl, by kernel_rfl⟩)
/-- api.KernOp -/
def ti81 : TI := ⟨4, 32, .struct [(0, 3), (1, 3), (2, 3), (3, 5)], [.d (.int .i64) (0 : Int), .d (.int .i64) (0 : Int), .d (.int .i64) (0 : Int), .d (.int .u8) (0 : Int)], some (.pair (.int .i64) (.pair (.int .i64) (.pair (.int .i64) (.int .u8))))⟩
theorem ti81_ok : TIok Tryz.prog 81 ti81 := TIok.mk1 (by kernel_rfl) (by kernel_rfl) (by kernel_rfl) (.inl rfl) (⟨_, Tryz.underlying81, by kernel_rfl⟩) (⟨by kernel_rfl, by kernel_rfl, by kernel_rfl, by kernel_rfl⟩)
/-- func([]uint8) string -/
def ti82 : TI := ⟨1, 8, .scalar (.func #[22] #[9] false), [.con .nilFunc], none⟩
theorem ti82_ok : TIok Tryz.prog 82 ti82 := TIok.mk1 (by kernel_rfl) (by kernel_rfl) (by kernel_rfl) (.inr rfl) (⟨Tryz.underlying82, trivial⟩) (trivial)
/-- []int -/
def ti83 : TI := ⟨1, 24, .slice 3, [.con (.slice none 0 0)], some (.sl (.int .i64))⟩
theorem ti83_ok : TIok Tryz.prog 83 ti83 := TIok.mk1 (by kernel_rfl) (by kernel_rfl) (by kernel_rfl) (.inr rfl) (Tryz.underlying83) (⟨by kernel_rfl, by kernel_rfl, by kernel_rfl, by kernel_rfl⟩)
/-- func(*api.Tty, ...uint8) -/
def ti84 : TI := ⟨1, 8, .scalar (.func #[85, 22] #[] true), [.con .nilFunc], none⟩
theorem ti84_ok : TIok Tryz.prog 84 ti84 := TIok.mk1 (by kernel_rfl) (by kernel_rfl) (by kernel_rfl) (.inr rfl) (⟨Tryz.underlying84, trivial⟩) (trivial)
/-- *api.Tty -/
def ti85 : TI := ⟨1, 8, .scalar (.pointer 26), [.con (.pointer none)], none⟩
theorem ti85_ok : TIok Tryz.prog 85 ti85 := TIok.mk1 (by kernel_rfl) (by kernel_rfl) (by kernel_rfl) (.inr rfl) (⟨Tryz.underlying85, trivial⟩) (trivial)
/-- func([]uint8) int -/
def ti86 : TI := ⟨1, 8, .scalar (.func #[22] #[3] false), [.con .nilFunc], none⟩
theorem ti86_ok : TIok Tryz.prog 86 ti86 := TIok.mk1 (by kernel_rfl) (by kernel_rfl) (by kernel_rfl) (.inr rfl) (⟨Tryz.underlying86, trivial⟩) (trivial)
/-- func([][]uint8, func([]uint8) bool) bool -/
def ti87 : TI := ⟨1, 8, .scalar (.func #[24, 88] #[4] false), [.con .nilFunc], none⟩
theorem ti87_ok : TIok Tryz.prog 87 ti87 := TIok.mk1 (by kernel_rfl) (by kernel_rfl) (by kernel_rfl) (.inr rfl) (⟨Tryz.underlying87, trivial⟩) (trivial)
/-- func([]uint8) bool -/
def ti88 : TI := ⟨1, 8, .scalar (.func #[22] #[4] false), [.con .nilFunc], none⟩
theorem ti88_ok : TIok Tryz.prog 88 ti88 := TIok.mk1 (by kernel_rfl) (by kernel_rfl) (by kernel_rfl) (.inr rfl) (⟨Tryz.underlying88, trivial⟩) (trivial)
/-- uint32 -/
def ti89 : TI := ⟨1, 4, .scalar (.int .u32), [.d (.int .u32) (0 : Int)], some (.int .u32)⟩
theorem ti89_ok : TIok Tryz.prog 89 ti89 := TIok.mk1 (by kernel_rfl) (by kernel_rfl) (by kernel_rfl) (.inr rfl) (⟨Tryz.underlying89, trivial⟩) (⟨by kernel_rfl, by kernel_rfl, by kernel_rfl, by kernel_rfl⟩)
/-- func(uint32, uint32) (uint32, uint32) -/
def ti91 : TI := ⟨1, 8, .scalar (.func #[89, 89] #[89, 89] false), [.con .nilFunc], none⟩
theorem ti91_ok : TIok Tryz.prog 91 ti91 := TIok.mk1 (by kernel_rfl) (by kernel_rfl) (by kernel_rfl) (.inr rfl) (⟨Tryz.underlying91, trivial⟩) (trivial)
/-- uint64 -/
def ti92 : TI := ⟨1, 8, .scalar (.int .u64), [.d (.int .u64) (0 : Int)], some (.int .u64)⟩
theorem ti92_ok : TIok Tryz.prog 92 ti92 := TIok.mk1 (by kernel_rfl) (by kernel_rfl) (by kernel_rfl) (.inr rfl) (⟨Tryz.underlying92, trivial⟩) (⟨by kernel_rfl, by kernel_rfl, by kernel_rfl, by kernel_rfl⟩)
/-- func(uint64, uint64) (uint64, uint64) -/
def ti94 : TI := ⟨1, 8, .scalar (.func #[92, 92] #[92, 92] false), [.con .nilFunc], none⟩
theorem ti94_ok : TIok Tryz.prog 94 ti94 := TIok.mk1 (by kernel_rfl) (by kernel_rfl) (by kernel_rfl) (.inr rfl) (⟨Tryz.underlying94, trivial⟩) (trivial)
/-- *uint8 -/
def ti95 : TI := ⟨1, 8, .scalar (.pointer 5), [.con (.pointer none)], none⟩
theorem ti95_ok : TIok Tryz.prog 95 ti95 := TIok.mk1 (by kernel_rfl) (by kernel_rfl) (by kernel_rfl) (.inr rfl) (⟨Tryz.underlying95, trivial⟩) (trivial)
/-- [24]uint8 -/
def ti96 : TI := ⟨24, 24, .arr 24 5, [.d (.arr 24 (.int .u8)) (List.replicate 24 (Ty.zero (.int .u8)))], some (.arr 24 (.int .u8))⟩
theorem ti96_ok : TIok Tryz.prog 96 ti96 := TIok.mk1 (by kernel_rfl) (by kernel_rfl) (by kernel_rfl) (.inl rfl) (Tryz.underlying96) (⟨by kernel_rfl, by kernel_rfl, by kernel_rfl, by kernel_rfl⟩)
/-- func(uint64) int -/
def ti97 : TI := ⟨1, 8, .scalar (.func #[92] #[3] false), [.con .nilFunc], none⟩
theorem ti97_ok : TIok Tryz.prog 97 ti97 := TIok.mk1 (by kernel_rfl) (by kernel_rfl) (by kernel_rfl) (.inr rfl) (⟨Tryz.underlying97, trivial⟩) (trivial)
/-- func([]uint8, uint64) -/
def ti98 : TI := ⟨1, 8, .scalar (.func #[22, 92] #[] false), [.con .nilFunc], none⟩
theorem ti98_ok : TIok Tryz.prog 98 ti98 := TIok.mk1 (by kernel_rfl) (by kernel_rfl) (by kernel_rfl) (.inr rfl) (⟨Tryz.underlying98, trivial⟩) (trivial)
/-- func([]uint8, uint64, int, bool, bool) ([]uint8, string) -/
def ti100 : TI := ⟨1, 8, .scalar (.func #[22, 92, 3, 4, 4] #[22, 9] false), [.con .nilFunc], none⟩
theorem ti100_ok : TIok Tryz.prog 100 ti100 := TIok.mk1 (by kernel_rfl) (by kernel_rfl) (by kernel_rfl) (.inr rfl) (⟨Tryz.underlying100, trivial⟩) (trivial)
/-- func(string, string) (string, string, bool) -/
def ti102 : TI := ⟨1, 8, .scalar (.func #[9, 9] #[9, 9, 4] false), [.con .nilFunc], none⟩
theorem ti102_ok : TIok Tryz.prog 102 ti102 := TIok.mk1 (by kernel_rfl) (by kernel_rfl) (by kernel_rfl) (.inr rfl) (⟨Tryz.underlying102, trivial⟩) (trivial)
/-- func(string) (api.KernOp, bool) -/
def ti104 : TI := ⟨1, 8, .scalar (.func #[9] #[81, 4] false), [.con .nilFunc], none⟩
theorem ti104_ok : TIok Tryz.prog 104 ti104 := TIok.mk1 (by kernel_rfl) (by kernel_rfl) (by kernel_rfl) (.inr rfl) (⟨Tryz.underlying104, trivial⟩) (trivial)
/-- *kernel.whole -/
def ti105 : TI := ⟨1, 8, .scalar (.pointer 122), [.con (.pointer none)], none⟩
theorem ti105_ok : TIok Tryz.prog 105 ti105 := TIok.mk1 (by kernel_rfl) (by kernel_rfl) (by kernel_rfl) (.inr rfl) (⟨Tryz.underlying105, trivial⟩) (trivial)
/-- func() *kernel.whole -/
def ti106 : TI := ⟨1, 8, .scalar (.func #[] #[105] false), [.con .nilFunc], none⟩
theorem ti106_ok : TIok Tryz.prog 106 ti106 := TIok.mk1 (by kernel_rfl) (by kernel_rfl) (by kernel_rfl) (.inr rfl) (⟨Tryz.underlying106, trivial⟩) (trivial)
/-- func(api.KernOp) api.KernAns -/
def ti107 : TI := ⟨1, 8, .scalar (.func #[81] #[79] false), [.con .nilFunc], none⟩
theorem ti107_ok : TIok Tryz.prog 107 ti107 := TIok.mk1 (by kernel_rfl) (by kernel_rfl) (by kernel_rfl) (.inr rfl) (⟨Tryz.underlying107, trivial⟩) (trivial)
/-- struct { In []uint8; Out []uint8; Lost int; Asks bool } -/
def ti108 : TI := ⟨4, 64, .struct [(0, 22), (1, 22), (2, 3), (3, 4)], [.con (.slice none 0 0), .con (.slice none 0 0), .d (.int .i64) (0 : Int), .lit false], some (.pair (.sl (.int .u8)) (.pair (.sl (.int .u8)) (.pair (.int .i64) (.bool))))⟩
theorem ti108_ok : TIok Tryz.prog 108 ti108 := TIok.mk1 (by kernel_rfl) (by kernel_rfl) (by kernel_rfl) (.inl rfl) (⟨_, Tryz.underlying108, by kernel_rfl⟩) (⟨by kernel_rfl, by kernel_rfl, by kernel_rfl, by kernel_rfl⟩)
/-- api.Uart -/
def ti109 : TI := ⟨4, 64, .struct [(0, 22), (1, 22), (2, 3), (3, 4)], [.con (.slice none 0 0), .con (.slice none 0 0), .d (.int .i64) (0 : Int), .lit false], some (.pair (.sl (.int .u8)) (.pair (.sl (.int .u8)) (.pair (.int .i64) (.bool))))⟩
theorem ti109_ok : TIok Tryz.prog 109 ti109 := TIok.mk1 (by kernel_rfl) (by kernel_rfl) (by kernel_rfl) (.inl rfl) (⟨_, Tryz.underlying109, by kernel_rfl⟩) (⟨by kernel_rfl, by kernel_rfl, by kernel_rfl, by kernel_rfl⟩)
/-- []api.Pin -/
def ti110 : TI := ⟨1, 24, .slice 141, [.con (.slice none 0 0)], some (.sl (.pair (.int .i64) (.pair (.int .i64) (.pair (.bool) (.pair (.bool) (.pair (.bool) (.pair (.bool) (.bool))))))))⟩
theorem ti110_ok : TIok Tryz.prog 110 ti110 := TIok.mk1 (by kernel_rfl) (by kernel_rfl) (by kernel_rfl) (.inr rfl) (Tryz.underlying110) (⟨by kernel_rfl, by kernel_rfl, by kernel_rfl, by kernel_rfl⟩)
/-- [4]uint64 -/
def ti111 : TI := ⟨4, 32, .arr 4 92, [.d (.arr 4 (.int .u64)) (List.replicate 4 (Ty.zero (.int .u64)))], some (.arr 4 (.int .u64))⟩
theorem ti111_ok : TIok Tryz.prog 111 ti111 := TIok.mk1 (by kernel_rfl) (by kernel_rfl) (by kernel_rfl) (.inl rfl) (Tryz.underlying111) (⟨by kernel_rfl, by kernel_rfl, by kernel_rfl, by kernel_rfl⟩)
/-- api.Bits -/
def ti112 : TI := ⟨4, 32, .arr 4 92, [.d (.arr 4 (.int .u64)) (List.replicate 4 (Ty.zero (.int .u64)))], some (.arr 4 (.int .u64))⟩
theorem ti112_ok : TIok Tryz.prog 112 ti112 := TIok.mk1 (by kernel_rfl) (by kernel_rfl) (by kernel_rfl) (.inl rfl) (Tryz.underlying112) (⟨by kernel_rfl, by kernel_rfl, by kernel_rfl, by kernel_rfl⟩)
/-- struct { Asked api.Bits; Served api.Bits; Class int } -/
def ti113 : TI := ⟨9, 72, .struct [(0, 112), (4, 112), (8, 3)], [.d (.arr 4 (.int .u64)) (List.replicate 4 (Ty.zero (.int .u64))), .d (.arr 4 (.int .u64)) (List.replicate 4 (Ty.zero (.int .u64))), .d (.int .i64) (0 : Int)], some (.pair (.arr 4 (.int .u64)) (.pair (.arr 4 (.int .u64)) (.int .i64)))⟩
theorem ti113_ok : TIok Tryz.prog 113 ti113 := TIok.mk1 (by kernel_rfl) (by kernel_rfl) (by kernel_rfl) (.inl rfl) (⟨_, Tryz.underlying113, by kernel_rfl⟩) (⟨by kernel_rfl, by kernel_rfl, by kernel_rfl, by kernel_rfl⟩)
/-- api.Local -/
def ti114 : TI := ⟨9, 72, .struct [(0, 112), (4, 112), (8, 3)], [.d (.arr 4 (.int .u64)) (List.replicate 4 (Ty.zero (.int .u64))), .d (.arr 4 (.int .u64)) (List.replicate 4 (Ty.zero (.int .u64))), .d (.int .i64) (0 : Int)], some (.pair (.arr 4 (.int .u64)) (.pair (.arr 4 (.int .u64)) (.int .i64)))⟩
theorem ti114_ok : TIok Tryz.prog 114 ti114 := TIok.mk1 (by kernel_rfl) (by kernel_rfl) (by kernel_rfl) (.inl rfl) (⟨_, Tryz.underlying114, by kernel_rfl⟩) (⟨by kernel_rfl, by kernel_rfl, by kernel_rfl, by kernel_rfl⟩)
/-- []api.Frame -/
def ti115 : TI := ⟨1, 24, .slice 186, [.con (.slice none 0 0)], some (.sl (.pair (.bool) (.bool)))⟩
theorem ti115_ok : TIok Tryz.prog 115 ti115 := TIok.mk1 (by kernel_rfl) (by kernel_rfl) (by kernel_rfl) (.inr rfl) (Tryz.underlying115) (⟨by kernel_rfl, by kernel_rfl, by kernel_rfl, by kernel_rfl⟩)
/-- struct { On bool; Kept []api.Frame } -/
def ti116 : TI := ⟨2, 32, .struct [(0, 4), (1, 115)], [.lit false, .con (.slice none 0 0)], some (.pair (.bool) (.sl (.pair (.bool) (.bool))))⟩
theorem ti116_ok : TIok Tryz.prog 116 ti116 := TIok.mk1 (by kernel_rfl) (by kernel_rfl) (by kernel_rfl) (.inl rfl) (⟨_, Tryz.underlying116, by kernel_rfl⟩) (⟨by kernel_rfl, by kernel_rfl, by kernel_rfl, by kernel_rfl⟩)
/-- api.Core -/
def ti117 : TI := ⟨2, 32, .struct [(0, 4), (1, 115)], [.lit false, .con (.slice none 0 0)], some (.pair (.bool) (.sl (.pair (.bool) (.bool))))⟩
theorem ti117_ok : TIok Tryz.prog 117 ti117 := TIok.mk1 (by kernel_rfl) (by kernel_rfl) (by kernel_rfl) (.inl rfl) (⟨_, Tryz.underlying117, by kernel_rfl⟩) (⟨by kernel_rfl, by kernel_rfl, by kernel_rfl, by kernel_rfl⟩)
/-- struct { local api.Local; nest api.Core; serving bool } -/
def ti118 : TI := ⟨12, 112, .struct [(0, 114), (9, 117), (11, 4)], [.d (.arr 4 (.int .u64)) (List.replicate 4 (Ty.zero (.int .u64))), .d (.arr 4 (.int .u64)) (List.replicate 4 (Ty.zero (.int .u64))), .d (.int .i64) (0 : Int), .lit false, .con (.slice none 0 0), .lit false], some (.pair (.pair (.arr 4 (.int .u64)) (.pair (.arr 4 (.int .u64)) (.int .i64))) (.pair (.pair (.bool) (.sl (.pair (.bool) (.bool)))) (.bool)))⟩
theorem ti118_ok : TIok Tryz.prog 118 ti118 := TIok.mk1 (by kernel_rfl) (by kernel_rfl) (by kernel_rfl) (.inl rfl) (⟨_, Tryz.underlying118, by kernel_rfl⟩) (⟨by kernel_rfl, by kernel_rfl, by kernel_rfl, by kernel_rfl⟩)
/-- kernel.core -/
def ti119 : TI := ⟨12, 112, .struct [(0, 114), (9, 117), (11, 4)], [.d (.arr 4 (.int .u64)) (List.replicate 4 (Ty.zero (.int .u64))), .d (.arr 4 (.int .u64)) (List.replicate 4 (Ty.zero (.int .u64))), .d (.int .i64) (0 : Int), .lit false, .con (.slice none 0 0), .lit false], some (.pair (.pair (.arr 4 (.int .u64)) (.pair (.arr 4 (.int .u64)) (.int .i64))) (.pair (.pair (.bool) (.sl (.pair (.bool) (.bool)))) (.bool)))⟩
theorem ti119_ok : TIok Tryz.prog 119 ti119 := TIok.mk1 (by kernel_rfl) (by kernel_rfl) (by kernel_rfl) (.inl rfl) (⟨_, Tryz.underlying119, by kernel_rfl⟩) (⟨by kernel_rfl, by kernel_rfl, by kernel_rfl, by kernel_rfl⟩)
/-- [2]kernel.core -/
def ti120 : TI := ⟨24, 224, .arr 2 119, [.d (.arr 2 (.pair (.pair (.arr 4 (.int .u64)) (.pair (.arr 4 (.int .u64)) (.int .i64))) (.pair (.pair (.bool) (.sl (.pair (.bool) (.bool)))) (.bool)))) (List.replicate 2 (Ty.zero (.pair (.pair (.arr 4 (.int .u64)) (.pair (.arr 4 (.int .u64)) (.int .i64))) (.pair (.pair (.bool) (.sl (.pair (.bool) (.bool)))) (.bool)))))], some (.arr 2 (.pair (.pair (.arr 4 (.int .u64)) (.pair (.arr 4 (.int .u64)) (.int .i64))) (.pair (.pair (.bool) (.sl (.pair (.bool) (.bool)))) (.bool))))⟩
theorem ti120_ok : TIok Tryz.prog 120 ti120 := TIok.mk1 (by kernel_rfl) (by kernel_rfl) (by kernel_rfl) (.inl rfl) (Tryz.underlying120) (⟨by kernel_rfl, by kernel_rfl, by kernel_rfl, by kernel_rfl⟩)
/-- struct { uart api.Uart; pins []api.Pin; cores [2]kernel.core; fetched []uint8; tty api.Tty; taken int } -/
def ti121 : TI := ⟨33, 392, .struct [(0, 109), (4, 110), (5, 120), (29, 22), (30, 26), (32, 3)], [.con (.slice none 0 0), .con (.slice none 0 0), .d (.int .i64) (0 : Int), .lit false, .con (.slice none 0 0), .d (.arr 2 (.pair (.pair (.arr 4 (.int .u64)) (.pair (.arr 4 (.int .u64)) (.int .i64))) (.pair (.pair (.bool) (.sl (.pair (.bool) (.bool)))) (.bool)))) (List.replicate 2 (Ty.zero (.pair (.pair (.arr 4 (.int .u64)) (.pair (.arr 4 (.int .u64)) (.int .i64))) (.pair (.pair (.bool) (.sl (.pair (.bool) (.bool)))) (.bool))))), .con (.slice none 0 0), .con (.slice none 0 0), .con (.slice none 0 0), .d (.int .i64) (0 : Int)], some (.pair (.pair (.sl (.int .u8)) (.pair (.sl (.int .u8)) (.pair (.int .i64) (.bool)))) (.pair (.sl (.pair (.int .i64) (.pair (.int .i64) (.pair (.bool) (.pair (.bool) (.pair (.bool) (.pair (.bool) (.bool)))))))) (.pair (.arr 2 (.pair (.pair (.arr 4 (.int .u64)) (.pair (.arr 4 (.int .u64)) (.int .i64))) (.pair (.pair (.bool) (.sl (.pair (.bool) (.bool)))) (.bool)))) (.pair (.sl (.int .u8)) (.pair (.pair (.sl (.sl (.int .u8))) (.sl (.int .u8))) (.int .i64))))))⟩
theorem ti121_ok : TIok Tryz.prog 121 ti121 := TIok.mk1 (by kernel_rfl) (by kernel_rfl) (by kernel_rfl) (.inl rfl) (⟨_, Tryz.underlying121, by kernel_rfl⟩) (⟨by kernel_rfl, by kernel_rfl, by kernel_rfl, by kernel_rfl⟩)
/-- kernel.whole -/
def ti122 : TI := ⟨33, 392, .struct [(0, 109), (4, 110), (5, 120), (29, 22), (30, 26), (32, 3)], [.con (.slice none 0 0), .con (.slice none 0 0), .d (.int .i64) (0 : Int), .lit false, .con (.slice none 0 0), .d (.arr 2 (.pair (.pair (.arr 4 (.int .u64)) (.pair (.arr 4 (.int .u64)) (.int .i64))) (.pair (.pair (.bool) (.sl (.pair (.bool) (.bool)))) (.bool)))) (List.replicate 2 (Ty.zero (.pair (.pair (.arr 4 (.int .u64)) (.pair (.arr 4 (.int .u64)) (.int .i64))) (.pair (.pair (.bool) (.sl (.pair (.bool) (.bool)))) (.bool))))), .con (.slice none 0 0), .con (.slice none 0 0), .con (.slice none 0 0), .d (.int .i64) (0 : Int)], some (.pair (.pair (.sl (.int .u8)) (.pair (.sl (.int .u8)) (.pair (.int .i64) (.bool)))) (.pair (.sl (.pair (.int .i64) (.pair (.int .i64) (.pair (.bool) (.pair (.bool) (.pair (.bool) (.pair (.bool) (.bool)))))))) (.pair (.arr 2 (.pair (.pair (.arr 4 (.int .u64)) (.pair (.arr 4 (.int .u64)) (.int .i64))) (.pair (.pair (.bool) (.sl (.pair (.bool) (.bool)))) (.bool)))) (.pair (.sl (.int .u8)) (.pair (.pair (.sl (.sl (.int .u8))) (.sl (.int .u8))) (.int .i64))))))⟩
theorem ti122_ok : TIok Tryz.prog 122 ti122 := TIok.mk1 (by kernel_rfl) (by kernel_rfl) (by kernel_rfl) (.inl rfl) (⟨_, Tryz.underlying122, by kernel_rfl⟩) (⟨by kernel_rfl, by kernel_rfl, by kernel_rfl, by kernel_rfl⟩)
/-- func(uint8) error -/
def ti123 : TI := ⟨1, 8, .scalar (.func #[5] #[65] false), [.con .nilFunc], none⟩
theorem ti123_ok : TIok Tryz.prog 123 ti123 := TIok.mk1 (by kernel_rfl) (by kernel_rfl) (by kernel_rfl) (.inr rfl) (⟨Tryz.underlying123, trivial⟩) (trivial)
/-- func([][]uint8) [][]uint8 -/
def ti124 : TI := ⟨1, 8, .scalar (.func #[24] #[24] false), [.con .nilFunc], none⟩
theorem ti124_ok : TIok Tryz.prog 124 ti124 := TIok.mk1 (by kernel_rfl) (by kernel_rfl) (by kernel_rfl) (.inr rfl) (⟨Tryz.underlying124, trivial⟩) (trivial)
/-- func([][]uint8, func([]uint8) bool) int -/
def ti125 : TI := ⟨1, 8, .scalar (.func #[24, 88] #[3] false), [.con .nilFunc], none⟩
theorem ti125_ok : TIok Tryz.prog 125 ti125 := TIok.mk1 (by kernel_rfl) (by kernel_rfl) (by kernel_rfl) (.inr rfl) (⟨Tryz.underlying125, trivial⟩) (trivial)
/-- func(unsafe.Pointer) unsafe.Pointer -/
def ti127 : TI := ⟨1, 8, .scalar (.func #[126] #[126] false), [.con .nilFunc], none⟩
theorem ti127_ok : TIok Tryz.prog 127 ti127 := TIok.mk1 (by kernel_rfl) (by kernel_rfl) (by kernel_rfl) (.inr rfl) (⟨Tryz.underlying127, trivial⟩) (trivial)
/-- func(int) []uint8 -/
def ti128 : TI := ⟨1, 8, .scalar (.func #[3] #[22] false), [.con .nilFunc], none⟩
theorem ti128_ok : TIok Tryz.prog 128 ti128 := TIok.mk1 (by kernel_rfl) (by kernel_rfl) (by kernel_rfl) (.inr rfl) (⟨Tryz.underlying128, trivial⟩) (trivial)
/-- func(int) int -/
def ti129 : TI := ⟨1, 8, .scalar (.func #[3] #[3] false), [.con .nilFunc], none⟩
theorem ti129_ok : TIok Tryz.prog 129 ti129 := TIok.mk1 (by kernel_rfl) (by kernel_rfl) (by kernel_rfl) (.inr rfl) (⟨Tryz.underlying129, trivial⟩) (trivial)
/-- func(bool) int -/
def ti130 : TI := ⟨1, 8, .scalar (.func #[4] #[3] false), [.con .nilFunc], none⟩
theorem ti130_ok : TIok Tryz.prog 130 ti130 := TIok.mk1 (by kernel_rfl) (by kernel_rfl) (by kernel_rfl) (.inr rfl) (⟨Tryz.underlying130, trivial⟩) (trivial)
/-- [20]uint64 -/
def ti131 : TI := ⟨20, 160, .arr 20 92, [.d (.arr 20 (.int .u64)) (List.replicate 20 (Ty.zero (.int .u64)))], some (.arr 20 (.int .u64))⟩
theorem ti131_ok : TIok Tryz.prog 131 ti131 := TIok.mk1 (by kernel_rfl) (by kernel_rfl) (by kernel_rfl) (.inl rfl) (Tryz.underlying131) (⟨by kernel_rfl, by kernel_rfl, by kernel_rfl, by kernel_rfl⟩)
/-- [65]uint8 -/
def ti132 : TI := ⟨65, 65, .arr 65 5, [.d (.arr 65 (.int .u8)) (List.replicate 65 (Ty.zero (.int .u8)))], some (.arr 65 (.int .u8))⟩
theorem ti132_ok : TIok Tryz.prog 132 ti132 := TIok.mk1 (by kernel_rfl) (by kernel_rfl) (by kernel_rfl) (.inl rfl) (Tryz.underlying132) (⟨by kernel_rfl, by kernel_rfl, by kernel_rfl, by kernel_rfl⟩)
/-- func(int) bool -/
def ti133 : TI := ⟨1, 8, .scalar (.func #[3] #[4] false), [.con .nilFunc], none⟩
theorem ti133_ok : TIok Tryz.prog 133 ti133 := TIok.mk1 (by kernel_rfl) (by kernel_rfl) (by kernel_rfl) (.inr rfl) (⟨Tryz.underlying133, trivial⟩) (trivial)
/-- func(uint) int -/
def ti134 : TI := ⟨1, 8, .scalar (.func #[56] #[3] false), [.con .nilFunc], none⟩
theorem ti134_ok : TIok Tryz.prog 134 ti134 := TIok.mk1 (by kernel_rfl) (by kernel_rfl) (by kernel_rfl) (.inr rfl) (⟨Tryz.underlying134, trivial⟩) (trivial)
/-- func() []string -/
def ti135 : TI := ⟨1, 8, .scalar (.func #[] #[43] false), [.con .nilFunc], none⟩
theorem ti135_ok : TIok Tryz.prog 135 ti135 := TIok.mk1 (by kernel_rfl) (by kernel_rfl) (by kernel_rfl) (.inr rfl) (⟨Tryz.underlying135, trivial⟩) (trivial)
/-- func(*api.KernOp) *int -/
def ti136 : TI := ⟨1, 8, .scalar (.func #[137] #[54] false), [.con .nilFunc], none⟩
theorem ti136_ok : TIok Tryz.prog 136 ti136 := TIok.mk1 (by kernel_rfl) (by kernel_rfl) (by kernel_rfl) (.inr rfl) (⟨Tryz.underlying136, trivial⟩) (trivial)
/-- *api.KernOp -/
def ti137 : TI := ⟨1, 8, .scalar (.pointer 81), [.con (.pointer none)], none⟩
theorem ti137_ok : TIok Tryz.prog 137 ti137 := TIok.mk1 (by kernel_rfl) (by kernel_rfl) (by kernel_rfl) (.inr rfl) (⟨Tryz.underlying137, trivial⟩) (trivial)
/-- func(api.KernOp) (string, bool) -/
def ti139 : TI := ⟨1, 8, .scalar (.func #[81] #[9, 4] false), [.con .nilFunc], none⟩
theorem ti139_ok : TIok Tryz.prog 139 ti139 := TIok.mk1 (by kernel_rfl) (by kernel_rfl) (by kernel_rfl) (.inr rfl) (⟨Tryz.underlying139, trivial⟩) (trivial)
/-- struct { Core int; Vec int; Level bool; Masked bool; Up bool; Kept bool; Sent bool } -/
def ti140 : TI := ⟨7, 24, .struct [(0, 3), (1, 3), (2, 4), (3, 4), (4, 4), (5, 4), (6, 4)], [.d (.int .i64) (0 : Int), .d (.int .i64) (0 : Int), .lit false, .lit false, .lit false, .lit false, .lit false], some (.pair (.int .i64) (.pair (.int .i64) (.pair (.bool) (.pair (.bool) (.pair (.bool) (.pair (.bool) (.bool)))))))⟩
theorem ti140_ok : TIok Tryz.prog 140 ti140 := TIok.mk1 (by kernel_rfl) (by kernel_rfl) (by kernel_rfl) (.inl rfl) (⟨_, Tryz.underlying140, by kernel_rfl⟩) (⟨by kernel_rfl, by kernel_rfl, by kernel_rfl, by kernel_rfl⟩)
/-- api.Pin -/
def ti141 : TI := ⟨7, 24, .struct [(0, 3), (1, 3), (2, 4), (3, 4), (4, 4), (5, 4), (6, 4)], [.d (.int .i64) (0 : Int), .d (.int .i64) (0 : Int), .lit false, .lit false, .lit false, .lit false, .lit false], some (.pair (.int .i64) (.pair (.int .i64) (.pair (.bool) (.pair (.bool) (.pair (.bool) (.pair (.bool) (.bool)))))))⟩
theorem ti141_ok : TIok Tryz.prog 141 ti141 := TIok.mk1 (by kernel_rfl) (by kernel_rfl) (by kernel_rfl) (.inl rfl) (⟨_, Tryz.underlying141, by kernel_rfl⟩) (⟨by kernel_rfl, by kernel_rfl, by kernel_rfl, by kernel_rfl⟩)
/-- func(api.Errno) api.KernAns -/
def ti142 : TI := ⟨1, 8, .scalar (.func #[31] #[79] false), [.con .nilFunc], none⟩
theorem ti142_ok : TIok Tryz.prog 142 ti142 := TIok.mk1 (by kernel_rfl) (by kernel_rfl) (by kernel_rfl) (.inr rfl) (⟨Tryz.underlying142, trivial⟩) (trivial)
/-- func(api.UartOp) (uint8, api.Errno) -/
def ti144 : TI := ⟨1, 8, .scalar (.func #[146] #[5, 31] false), [.con .nilFunc], none⟩
theorem ti144_ok : TIok Tryz.prog 144 ti144 := TIok.mk1 (by kernel_rfl) (by kernel_rfl) (by kernel_rfl) (.inr rfl) (⟨Tryz.underlying144, trivial⟩) (trivial)
/-- struct { Kind int; Byte uint8 } -/
def ti145 : TI := ⟨2, 16, .struct [(0, 3), (1, 5)], [.d (.int .i64) (0 : Int), .d (.int .u8) (0 : Int)], some (.pair (.int .i64) (.int .u8))⟩
theorem ti145_ok : TIok Tryz.prog 145 ti145 := TIok.mk1 (by kernel_rfl) (by kernel_rfl) (by kernel_rfl) (.inl rfl) (⟨_, Tryz.underlying145, by kernel_rfl⟩) (⟨by kernel_rfl, by kernel_rfl, by kernel_rfl, by kernel_rfl⟩)
/-- api.UartOp -/
def ti146 : TI := ⟨2, 16, .struct [(0, 3), (1, 5)], [.d (.int .i64) (0 : Int), .d (.int .u8) (0 : Int)], some (.pair (.int .i64) (.int .u8))⟩
theorem ti146_ok : TIok Tryz.prog 146 ti146 := TIok.mk1 (by kernel_rfl) (by kernel_rfl) (by kernel_rfl) (.inl rfl) (⟨_, Tryz.underlying146, by kernel_rfl⟩) (⟨by kernel_rfl, by kernel_rfl, by kernel_rfl, by kernel_rfl⟩)
/-- func(int) api.Errno -/
def ti147 : TI := ⟨1, 8, .scalar (.func #[3] #[31] false), [.con .nilFunc], none⟩
theorem ti147_ok : TIok Tryz.prog 147 ti147 := TIok.mk1 (by kernel_rfl) (by kernel_rfl) (by kernel_rfl) (.inr rfl) (⟨Tryz.underlying147, trivial⟩) (trivial)
/-- *kernel.core -/
def ti148 : TI := ⟨1, 8, .scalar (.pointer 119), [.con (.pointer none)], none⟩
theorem ti148_ok : TIok Tryz.prog 148 ti148 := TIok.mk1 (by kernel_rfl) (by kernel_rfl) (by kernel_rfl) (.inr rfl) (⟨Tryz.underlying148, trivial⟩) (trivial)
/-- map[int]int -/
def ti149 : TI := ⟨1, 8, .scalar (.map 3 3), [.con (.map none)], none⟩
theorem ti149_ok : TIok Tryz.prog 149 ti149 := TIok.mk1 (by kernel_rfl) (by kernel_rfl) (by kernel_rfl) (.inr rfl) (⟨Tryz.underlying149, trivial⟩) (trivial)
/-- func(uint32) int -/
def ti150 : TI := ⟨1, 8, .scalar (.func #[89] #[3] false), [.con .nilFunc], none⟩
theorem ti150_ok : TIok Tryz.prog 150 ti150 := TIok.mk1 (by kernel_rfl) (by kernel_rfl) (by kernel_rfl) (.inr rfl) (⟨Tryz.underlying150, trivial⟩) (trivial)
/-- func(string, string) int -/
def ti151 : TI := ⟨1, 8, .scalar (.func #[9, 9] #[3] false), [.con .nilFunc], none⟩
theorem ti151_ok : TIok Tryz.prog 151 ti151 := TIok.mk1 (by kernel_rfl) (by kernel_rfl) (by kernel_rfl) (.inr rfl) (⟨Tryz.underlying151, trivial⟩) (trivial)
/-- func(string, string, int, int, error) error -/
def ti152 : TI := ⟨1, 8, .scalar (.func #[9, 9, 3, 3, 65] #[65] false), [.con .nilFunc], none⟩
theorem ti152_ok : TIok Tryz.prog 152 ti152 := TIok.mk1 (by kernel_rfl) (by kernel_rfl) (by kernel_rfl) (.inr rfl) (⟨Tryz.underlying152, trivial⟩) (trivial)
/-- func(api.Uart, api.UartOp) (api.Uart, uint8, api.Errno) -/
def ti154 : TI := ⟨1, 8, .scalar (.func #[109, 146] #[109, 5, 31] false), [.con .nilFunc], none⟩
theorem ti154_ok : TIok Tryz.prog 154 ti154 := TIok.mk1 (by kernel_rfl) (by kernel_rfl) (by kernel_rfl) (.inr rfl) (⟨Tryz.underlying154, trivial⟩) (trivial)
/-- func(api.Local, api.LocalOp) (api.Local, int, api.Errno) -/
def ti156 : TI := ⟨1, 8, .scalar (.func #[114, 158] #[114, 3, 31] false), [.con .nilFunc], none⟩
theorem ti156_ok : TIok Tryz.prog 156 ti156 := TIok.mk1 (by kernel_rfl) (by kernel_rfl) (by kernel_rfl) (.inr rfl) (⟨Tryz.underlying156, trivial⟩) (trivial)
/-- struct { Kind int; N int } -/
def ti157 : TI := ⟨2, 16, .struct [(0, 3), (1, 3)], [.d (.int .i64) (0 : Int), .d (.int .i64) (0 : Int)], some (.pair (.int .i64) (.int .i64))⟩
theorem ti157_ok : TIok Tryz.prog 157 ti157 := TIok.mk1 (by kernel_rfl) (by kernel_rfl) (by kernel_rfl) (.inl rfl) (⟨_, Tryz.underlying157, by kernel_rfl⟩) (⟨by kernel_rfl, by kernel_rfl, by kernel_rfl, by kernel_rfl⟩)
/-- api.LocalOp -/
def ti158 : TI := ⟨2, 16, .struct [(0, 3), (1, 3)], [.d (.int .i64) (0 : Int), .d (.int .i64) (0 : Int)], some (.pair (.int .i64) (.int .i64))⟩
theorem ti158_ok : TIok Tryz.prog 158 ti158 := TIok.mk1 (by kernel_rfl) (by kernel_rfl) (by kernel_rfl) (.inl rfl) (⟨_, Tryz.underlying158, by kernel_rfl⟩) (⟨by kernel_rfl, by kernel_rfl, by kernel_rfl, by kernel_rfl⟩)
/-- func(api.Local) int -/
def ti159 : TI := ⟨1, 8, .scalar (.func #[114] #[3] false), [.con .nilFunc], none⟩
theorem ti159_ok : TIok Tryz.prog 159 ti159 := TIok.mk1 (by kernel_rfl) (by kernel_rfl) (by kernel_rfl) (.inr rfl) (⟨Tryz.underlying159, trivial⟩) (trivial)
/-- func(api.Core, int) (api.Core, api.Errno) -/
def ti161 : TI := ⟨1, 8, .scalar (.func #[117, 3] #[117, 31] false), [.con .nilFunc], none⟩
theorem ti161_ok : TIok Tryz.prog 161 ti161 := TIok.mk1 (by kernel_rfl) (by kernel_rfl) (by kernel_rfl) (.inr rfl) (⟨Tryz.underlying161, trivial⟩) (trivial)
/-- [32]uint8 -/
def ti162 : TI := ⟨32, 32, .arr 32 5, [.d (.arr 32 (.int .u8)) (List.replicate 32 (Ty.zero (.int .u8)))], some (.arr 32 (.int .u8))⟩
theorem ti162_ok : TIok Tryz.prog 162 ti162 := TIok.mk1 (by kernel_rfl) (by kernel_rfl) (by kernel_rfl) (.inl rfl) (Tryz.underlying162) (⟨by kernel_rfl, by kernel_rfl, by kernel_rfl, by kernel_rfl⟩)
/-- [64]uint8 -/
def ti163 : TI := ⟨64, 64, .arr 64 5, [.d (.arr 64 (.int .u8)) (List.replicate 64 (Ty.zero (.int .u8)))], some (.arr 64 (.int .u8))⟩
theorem ti163_ok : TIok Tryz.prog 163 ti163 := TIok.mk1 (by kernel_rfl) (by kernel_rfl) (by kernel_rfl) (.inl rfl) (Tryz.underlying163) (⟨by kernel_rfl, by kernel_rfl, by kernel_rfl, by kernel_rfl⟩)
/-- func(string, uint8) int -/
def ti164 : TI := ⟨1, 8, .scalar (.func #[9, 5] #[3] false), [.con .nilFunc], none⟩
theorem ti164_ok : TIok Tryz.prog 164 ti164 := TIok.mk1 (by kernel_rfl) (by kernel_rfl) (by kernel_rfl) (.inr rfl) (⟨Tryz.underlying164, trivial⟩) (trivial)
/-- strconv.Error -/
def ti165 : TI := ⟨1, 8, .scalar (.int .i64), [.d (.int .i64) (0 : Int)], some (.int .i64)⟩
theorem ti165_ok : TIok Tryz.prog 165 ti165 := TIok.mk1 (by kernel_rfl) (by kernel_rfl) (by kernel_rfl) (.inr rfl) (⟨Tryz.underlying165, trivial⟩) (⟨by kernel_rfl, by kernel_rfl, by kernel_rfl, by kernel_rfl⟩)
/-- func(string, int, int) (int64, error) -/
def ti167 : TI := ⟨1, 8, .scalar (.func #[9, 3, 3] #[2, 65] false), [.con .nilFunc], none⟩
theorem ti167_ok : TIok Tryz.prog 167 ti167 := TIok.mk1 (by kernel_rfl) (by kernel_rfl) (by kernel_rfl) (.inr rfl) (⟨Tryz.underlying167, trivial⟩) (trivial)
/-- *strconv.NumError -/
def ti168 : TI := ⟨1, 8, .scalar (.pointer 193), [.con (.pointer none)], none⟩
theorem ti168_ok : TIok Tryz.prog 168 ti168 := TIok.mk1 (by kernel_rfl) (by kernel_rfl) (by kernel_rfl) (.inr rfl) (⟨Tryz.underlying168, trivial⟩) (trivial)
/-- func(string, string) *strconv.NumError -/
def ti169 : TI := ⟨1, 8, .scalar (.func #[9, 9] #[168] false), [.con .nilFunc], none⟩
theorem ti169_ok : TIok Tryz.prog 169 ti169 := TIok.mk1 (by kernel_rfl) (by kernel_rfl) (by kernel_rfl) (.inr rfl) (⟨Tryz.underlying169, trivial⟩) (trivial)
/-- func(string, string, int) *strconv.NumError -/
def ti170 : TI := ⟨1, 8, .scalar (.func #[9, 9, 3] #[168] false), [.con .nilFunc], none⟩
theorem ti170_ok : TIok Tryz.prog 170 ti170 := TIok.mk1 (by kernel_rfl) (by kernel_rfl) (by kernel_rfl) (.inr rfl) (⟨Tryz.underlying170, trivial⟩) (trivial)
/-- func(api.Errno) (api.Uart, uint8, api.Errno) -/
def ti171 : TI := ⟨1, 8, .scalar (.func #[31] #[109, 5, 31] false), [.con .nilFunc], none⟩
theorem ti171_ok : TIok Tryz.prog 171 ti171 := TIok.mk1 (by kernel_rfl) (by kernel_rfl) (by kernel_rfl) (.inr rfl) (⟨Tryz.underlying171, trivial⟩) (trivial)
/-- func(api.Uart) bool -/
def ti172 : TI := ⟨1, 8, .scalar (.func #[109] #[4] false), [.con .nilFunc], none⟩
theorem ti172_ok : TIok Tryz.prog 172 ti172 := TIok.mk1 (by kernel_rfl) (by kernel_rfl) (by kernel_rfl) (.inr rfl) (⟨Tryz.underlying172, trivial⟩) (trivial)
/-- func(api.Errno) (api.Local, int, api.Errno) -/
def ti173 : TI := ⟨1, 8, .scalar (.func #[31] #[114, 3, 31] false), [.con .nilFunc], none⟩
theorem ti173_ok : TIok Tryz.prog 173 ti173 := TIok.mk1 (by kernel_rfl) (by kernel_rfl) (by kernel_rfl) (.inr rfl) (⟨Tryz.underlying173, trivial⟩) (trivial)
/-- func(api.Local) bool -/
def ti174 : TI := ⟨1, 8, .scalar (.func #[114] #[4] false), [.con .nilFunc], none⟩
theorem ti174_ok : TIok Tryz.prog 174 ti174 := TIok.mk1 (by kernel_rfl) (by kernel_rfl) (by kernel_rfl) (.inr rfl) (⟨Tryz.underlying174, trivial⟩) (trivial)
/-- func(api.Bits, int) api.Bits -/
def ti175 : TI := ⟨1, 8, .scalar (.func #[112, 3] #[112] false), [.con .nilFunc], none⟩
theorem ti175_ok : TIok Tryz.prog 175 ti175 := TIok.mk1 (by kernel_rfl) (by kernel_rfl) (by kernel_rfl) (.inr rfl) (⟨Tryz.underlying175, trivial⟩) (trivial)
/-- func(api.Bits) int -/
def ti176 : TI := ⟨1, 8, .scalar (.func #[112] #[3] false), [.con .nilFunc], none⟩
theorem ti176_ok : TIok Tryz.prog 176 ti176 := TIok.mk1 (by kernel_rfl) (by kernel_rfl) (by kernel_rfl) (.inr rfl) (⟨Tryz.underlying176, trivial⟩) (trivial)
/-- []api.Sent -/
def ti177 : TI := ⟨1, 24, .slice 183, [.con (.slice none 0 0)], some (.sl (.pair (.int .i64) (.pair (.int .i64) (.int .i64))))⟩
theorem ti177_ok : TIok Tryz.prog 177 ti177 := TIok.mk1 (by kernel_rfl) (by kernel_rfl) (by kernel_rfl) (.inr rfl) (Tryz.underlying177) (⟨by kernel_rfl, by kernel_rfl, by kernel_rfl, by kernel_rfl⟩)
/-- func([]api.Pin, api.PinOp) ([]api.Pin, []api.Sent, api.Errno) -/
def ti179 : TI := ⟨1, 8, .scalar (.func #[110, 181] #[110, 177, 31] false), [.con .nilFunc], none⟩
theorem ti179_ok : TIok Tryz.prog 179 ti179 := TIok.mk1 (by kernel_rfl) (by kernel_rfl) (by kernel_rfl) (.inr rfl) (⟨Tryz.underlying179, trivial⟩) (trivial)
/-- struct { Kind int; Pin int } -/
def ti180 : TI := ⟨2, 16, .struct [(0, 3), (1, 3)], [.d (.int .i64) (0 : Int), .d (.int .i64) (0 : Int)], some (.pair (.int .i64) (.int .i64))⟩
theorem ti180_ok : TIok Tryz.prog 180 ti180 := TIok.mk1 (by kernel_rfl) (by kernel_rfl) (by kernel_rfl) (.inl rfl) (⟨_, Tryz.underlying180, by kernel_rfl⟩) (⟨by kernel_rfl, by kernel_rfl, by kernel_rfl, by kernel_rfl⟩)
/-- api.PinOp -/
def ti181 : TI := ⟨2, 16, .struct [(0, 3), (1, 3)], [.d (.int .i64) (0 : Int), .d (.int .i64) (0 : Int)], some (.pair (.int .i64) (.int .i64))⟩
theorem ti181_ok : TIok Tryz.prog 181 ti181 := TIok.mk1 (by kernel_rfl) (by kernel_rfl) (by kernel_rfl) (.inl rfl) (⟨_, Tryz.underlying181, by kernel_rfl⟩) (⟨by kernel_rfl, by kernel_rfl, by kernel_rfl, by kernel_rfl⟩)
/-- struct { Pin int; Core int; Vec int } -/
def ti182 : TI := ⟨3, 24, .struct [(0, 3), (1, 3), (2, 3)], [.d (.int .i64) (0 : Int), .d (.int .i64) (0 : Int), .d (.int .i64) (0 : Int)], some (.pair (.int .i64) (.pair (.int .i64) (.int .i64)))⟩
theorem ti182_ok : TIok Tryz.prog 182 ti182 := TIok.mk1 (by kernel_rfl) (by kernel_rfl) (by kernel_rfl) (.inl rfl) (⟨_, Tryz.underlying182, by kernel_rfl⟩) (⟨by kernel_rfl, by kernel_rfl, by kernel_rfl, by kernel_rfl⟩)
/-- api.Sent -/
def ti183 : TI := ⟨3, 24, .struct [(0, 3), (1, 3), (2, 3)], [.d (.int .i64) (0 : Int), .d (.int .i64) (0 : Int), .d (.int .i64) (0 : Int)], some (.pair (.int .i64) (.pair (.int .i64) (.int .i64)))⟩
theorem ti183_ok : TIok Tryz.prog 183 ti183 := TIok.mk1 (by kernel_rfl) (by kernel_rfl) (by kernel_rfl) (.inl rfl) (⟨_, Tryz.underlying183, by kernel_rfl⟩) (⟨by kernel_rfl, by kernel_rfl, by kernel_rfl, by kernel_rfl⟩)
/-- func(api.Core) bool -/
def ti184 : TI := ⟨1, 8, .scalar (.func #[117] #[4] false), [.con .nilFunc], none⟩
theorem ti184_ok : TIok Tryz.prog 184 ti184 := TIok.mk1 (by kernel_rfl) (by kernel_rfl) (by kernel_rfl) (.inr rfl) (⟨Tryz.underlying184, trivial⟩) (trivial)
/-- struct { On bool; Irq bool } -/
def ti185 : TI := ⟨2, 2, .struct [(0, 4), (1, 4)], [.lit false, .lit false], some (.pair (.bool) (.bool))⟩
theorem ti185_ok : TIok Tryz.prog 185 ti185 := TIok.mk1 (by kernel_rfl) (by kernel_rfl) (by kernel_rfl) (.inl rfl) (⟨_, Tryz.underlying185, by kernel_rfl⟩) (⟨by kernel_rfl, by kernel_rfl, by kernel_rfl, by kernel_rfl⟩)
/-- api.Frame -/
def ti186 : TI := ⟨2, 2, .struct [(0, 4), (1, 4)], [.lit false, .lit false], some (.pair (.bool) (.bool))⟩
theorem ti186_ok : TIok Tryz.prog 186 ti186 := TIok.mk1 (by kernel_rfl) (by kernel_rfl) (by kernel_rfl) (.inl rfl) (⟨_, Tryz.underlying186, by kernel_rfl⟩) (⟨by kernel_rfl, by kernel_rfl, by kernel_rfl, by kernel_rfl⟩)
/-- func([]api.Frame) []api.Frame -/
def ti187 : TI := ⟨1, 8, .scalar (.func #[115] #[115] false), [.con .nilFunc], none⟩
theorem ti187_ok : TIok Tryz.prog 187 ti187 := TIok.mk1 (by kernel_rfl) (by kernel_rfl) (by kernel_rfl) (.inr rfl) (⟨Tryz.underlying187, trivial⟩) (trivial)
/-- func(string) (uint32, uint32) -/
def ti188 : TI := ⟨1, 8, .scalar (.func #[9] #[89, 89] false), [.con .nilFunc], none⟩
theorem ti188_ok : TIok Tryz.prog 188 ti188 := TIok.mk1 (by kernel_rfl) (by kernel_rfl) (by kernel_rfl) (.inr rfl) (⟨Tryz.underlying188, trivial⟩) (trivial)
/-- func(string, int, int) (uint64, error) -/
def ti190 : TI := ⟨1, 8, .scalar (.func #[9, 3, 3] #[92, 65] false), [.con .nilFunc], none⟩
theorem ti190_ok : TIok Tryz.prog 190 ti190 := TIok.mk1 (by kernel_rfl) (by kernel_rfl) (by kernel_rfl) (.inr rfl) (⟨Tryz.underlying190, trivial⟩) (trivial)
/-- func(string) string -/
def ti191 : TI := ⟨1, 8, .scalar (.func #[9] #[9] false), [.con .nilFunc], none⟩
theorem ti191_ok : TIok Tryz.prog 191 ti191 := TIok.mk1 (by kernel_rfl) (by kernel_rfl) (by kernel_rfl) (.inr rfl) (⟨Tryz.underlying191, trivial⟩) (trivial)
/-- struct { Func string; Num string; Err error } -/
def ti192 : TI := ⟨3, 48, .struct [(0, 9), (1, 9), (2, 65)], [.d .str ([] : List Int), .d .str ([] : List Int), .con .nilIface], some (.pair (.str) (.pair (.str) (.err)))⟩
theorem ti192_ok : TIok Tryz.prog 192 ti192 := TIok.mk1 (by kernel_rfl) (by kernel_rfl) (by kernel_rfl) (.inl rfl) (⟨_, Tryz.underlying192, by kernel_rfl⟩) (⟨by kernel_rfl, by kernel_rfl, by kernel_rfl, by kernel_rfl⟩)
/-- strconv.NumError -/
def ti193 : TI := ⟨3, 48, .struct [(0, 9), (1, 9), (2, 65)], [.d .str ([] : List Int), .d .str ([] : List Int), .con .nilIface], some (.pair (.str) (.pair (.str) (.err)))⟩
theorem ti193_ok : TIok Tryz.prog 193 ti193 := TIok.mk1 (by kernel_rfl) (by kernel_rfl) (by kernel_rfl) (.inl rfl) (⟨_, Tryz.underlying193, by kernel_rfl⟩) (⟨by kernel_rfl, by kernel_rfl, by kernel_rfl, by kernel_rfl⟩)
/-- func(string) error -/
def ti194 : TI := ⟨1, 8, .scalar (.func #[9] #[65] false), [.con .nilFunc], none⟩
theorem ti194_ok : TIok Tryz.prog 194 ti194 := TIok.mk1 (by kernel_rfl) (by kernel_rfl) (by kernel_rfl) (.inr rfl) (⟨Tryz.underlying194, trivial⟩) (trivial)
/-- func(api.Bits, int) int -/
def ti195 : TI := ⟨1, 8, .scalar (.func #[112, 3] #[3] false), [.con .nilFunc], none⟩
theorem ti195_ok : TIok Tryz.prog 195 ti195 := TIok.mk1 (by kernel_rfl) (by kernel_rfl) (by kernel_rfl) (.inr rfl) (⟨Tryz.underlying195, trivial⟩) (trivial)
/-- func([]api.Pin) bool -/
def ti196 : TI := ⟨1, 8, .scalar (.func #[110] #[4] false), [.con .nilFunc], none⟩
theorem ti196_ok : TIok Tryz.prog 196 ti196 := TIok.mk1 (by kernel_rfl) (by kernel_rfl) (by kernel_rfl) (.inr rfl) (⟨Tryz.underlying196, trivial⟩) (trivial)
/-- func([]api.Pin) []api.Pin -/
def ti197 : TI := ⟨1, 8, .scalar (.func #[110] #[110] false), [.con .nilFunc], none⟩
theorem ti197_ok : TIok Tryz.prog 197 ti197 := TIok.mk1 (by kernel_rfl) (by kernel_rfl) (by kernel_rfl) (.inr rfl) (⟨Tryz.underlying197, trivial⟩) (trivial)
/-- *api.Pin -/
def ti198 : TI := ⟨1, 8, .scalar (.pointer 141), [.con (.pointer none)], none⟩
theorem ti198_ok : TIok Tryz.prog 198 ti198 := TIok.mk1 (by kernel_rfl) (by kernel_rfl) (by kernel_rfl) (.inr rfl) (⟨Tryz.underlying198, trivial⟩) (trivial)
/-- func(*api.Pin, bool) bool -/
def ti199 : TI := ⟨1, 8, .scalar (.func #[198, 4] #[4] false), [.con .nilFunc], none⟩
theorem ti199_ok : TIok Tryz.prog 199 ti199 := TIok.mk1 (by kernel_rfl) (by kernel_rfl) (by kernel_rfl) (.inr rfl) (⟨Tryz.underlying199, trivial⟩) (trivial)
/-- func(uint8) uint8 -/
def ti200 : TI := ⟨1, 8, .scalar (.func #[5] #[5] false), [.con .nilFunc], none⟩
theorem ti200_ok : TIok Tryz.prog 200 ti200 := TIok.mk1 (by kernel_rfl) (by kernel_rfl) (by kernel_rfl) (.inr rfl) (⟨Tryz.underlying200, trivial⟩) (trivial)
/-- func(string) bool -/
def ti201 : TI := ⟨1, 8, .scalar (.func #[9] #[4] false), [.con .nilFunc], none⟩
theorem ti201_ok : TIok Tryz.prog 201 ti201 := TIok.mk1 (by kernel_rfl) (by kernel_rfl) (by kernel_rfl) (.inr rfl) (⟨Tryz.underlying201, trivial⟩) (trivial)
/-- *errors.errorString -/
def ti202 : TI := ⟨1, 8, .scalar (.pointer 204), [.con (.pointer none)], none⟩
theorem ti202_ok : TIok Tryz.prog 202 ti202 := TIok.mk1 (by kernel_rfl) (by kernel_rfl) (by kernel_rfl) (.inr rfl) (⟨Tryz.underlying202, trivial⟩) (trivial)
/-- struct { s string } -/
def ti203 : TI := ⟨1, 16, .struct [(0, 9)], [.d .str ([] : List Int)], none⟩
theorem ti203_ok : TIok Tryz.prog 203 ti203 := TIok.mk1 (by kernel_rfl) (by kernel_rfl) (by kernel_rfl) (.inl rfl) (⟨_, Tryz.underlying203, by kernel_rfl⟩) (trivial)
/-- errors.errorString -/
def ti204 : TI := ⟨1, 16, .struct [(0, 9)], [.d .str ([] : List Int)], none⟩
theorem ti204_ok : TIok Tryz.prog 204 ti204 := TIok.mk1 (by kernel_rfl) (by kernel_rfl) (by kernel_rfl) (.inl rfl) (⟨_, Tryz.underlying204, by kernel_rfl⟩) (trivial)
/-- func([]api.Pin, func(api.Pin) bool) bool -/
def ti205 : TI := ⟨1, 8, .scalar (.func #[110, 206] #[4] false), [.con .nilFunc], none⟩
theorem ti205_ok : TIok Tryz.prog 205 ti205 := TIok.mk1 (by kernel_rfl) (by kernel_rfl) (by kernel_rfl) (.inr rfl) (⟨Tryz.underlying205, trivial⟩) (trivial)
/-- func(api.Pin) bool -/
def ti206 : TI := ⟨1, 8, .scalar (.func #[141] #[4] false), [.con .nilFunc], none⟩
theorem ti206_ok : TIok Tryz.prog 206 ti206 := TIok.mk1 (by kernel_rfl) (by kernel_rfl) (by kernel_rfl) (.inr rfl) (⟨Tryz.underlying206, trivial⟩) (trivial)
/-- func([]api.Pin, func(api.Pin) bool) int -/
def ti207 : TI := ⟨1, 8, .scalar (.func #[110, 206] #[3] false), [.con .nilFunc], none⟩
theorem ti207_ok : TIok Tryz.prog 207 ti207 := TIok.mk1 (by kernel_rfl) (by kernel_rfl) (by kernel_rfl) (.inr rfl) (⟨Tryz.underlying207, trivial⟩) (trivial)
/-- struct { _interface *abi.Type; concrete *abi.Type; asserted *abi.Type; missingMethod string } -/
def ti208 : TI := ⟨4, 40, .struct [(0, 17), (1, 17), (2, 17), (3, 9)], [.con (.pointer none), .con (.pointer none), .con (.pointer none), .d .str ([] : List Int)], none⟩
theorem ti208_ok : TIok Tryz.prog 208 ti208 := TIok.mk1 (by kernel_rfl) (by kernel_rfl) (by kernel_rfl) (.inl rfl) (⟨_, Tryz.underlying208, by kernel_rfl⟩) (trivial)
/-- runtime.TypeAssertionError -/
def ti209 : TI := ⟨4, 40, .struct [(0, 17), (1, 17), (2, 17), (3, 9)], [.con (.pointer none), .con (.pointer none), .con (.pointer none), .d .str ([] : List Int)], none⟩
theorem ti209_ok : TIok Tryz.prog 209 ti209 := TIok.mk1 (by kernel_rfl) (by kernel_rfl) (by kernel_rfl) (.inl rfl) (⟨_, Tryz.underlying209, by kernel_rfl⟩) (trivial)
/-- abi.TFlag -/
def ti213 : TI := ⟨1, 1, .scalar (.int .u8), [.d (.int .u8) (0 : Int)], some (.int .u8)⟩
theorem ti213_ok : TIok Tryz.prog 213 ti213 := TIok.mk1 (by kernel_rfl) (by kernel_rfl) (by kernel_rfl) (.inr rfl) (⟨Tryz.underlying213, trivial⟩) (⟨by kernel_rfl, by kernel_rfl, by kernel_rfl, by kernel_rfl⟩)
/-- abi.Kind -/
def ti214 : TI := ⟨1, 1, .scalar (.int .u8), [.d (.int .u8) (0 : Int)], some (.int .u8)⟩
theorem ti214_ok : TIok Tryz.prog 214 ti214 := TIok.mk1 (by kernel_rfl) (by kernel_rfl) (by kernel_rfl) (.inr rfl) (⟨Tryz.underlying214, trivial⟩) (⟨by kernel_rfl, by kernel_rfl, by kernel_rfl, by kernel_rfl⟩)
/-- func(unsafe.Pointer, unsafe.Pointer) bool -/
def ti215 : TI := ⟨1, 8, .scalar (.func #[126, 126] #[4] false), [.con .nilFunc], none⟩
theorem ti215_ok : TIok Tryz.prog 215 ti215 := TIok.mk1 (by kernel_rfl) (by kernel_rfl) (by kernel_rfl) (.inr rfl) (⟨Tryz.underlying215, trivial⟩) (trivial)
/-- abi.NameOff -/
def ti216 : TI := ⟨1, 4, .scalar (.int .i32), [.d (.int .i32) (0 : Int)], some (.int .i32)⟩
theorem ti216_ok : TIok Tryz.prog 216 ti216 := TIok.mk1 (by kernel_rfl) (by kernel_rfl) (by kernel_rfl) (.inr rfl) (⟨Tryz.underlying216, trivial⟩) (⟨by kernel_rfl, by kernel_rfl, by kernel_rfl, by kernel_rfl⟩)
/-- abi.TypeOff -/
def ti217 : TI := ⟨1, 4, .scalar (.int .i32), [.d (.int .i32) (0 : Int)], some (.int .i32)⟩
theorem ti217_ok : TIok Tryz.prog 217 ti217 := TIok.mk1 (by kernel_rfl) (by kernel_rfl) (by kernel_rfl) (.inr rfl) (⟨Tryz.underlying217, trivial⟩) (⟨by kernel_rfl, by kernel_rfl, by kernel_rfl, by kernel_rfl⟩)
/-- struct { Size_ uintptr; PtrBytes uintptr; Hash uint32; TFlag abi.TFlag; Align_ uint8; FieldAlign_ uint8; Kind_ abi.Kind; Equal func(unsafe.Pointer, unsafe.Pointer) bool; GCData *uint8; Str abi.NameOff; PtrToThis abi.TypeOff } -/
def ti218 : TI := ⟨11, 48, .struct [(0, 12), (1, 12), (2, 89), (3, 213), (4, 5), (5, 5), (6, 214), (7, 215), (8, 95), (9, 216), (10, 217)], [.d (.int .u64) (0 : Int), .d (.int .u64) (0 : Int), .d (.int .u32) (0 : Int), .d (.int .u8) (0 : Int), .d (.int .u8) (0 : Int), .d (.int .u8) (0 : Int), .d (.int .u8) (0 : Int), .con .nilFunc, .con (.pointer none), .d (.int .i32) (0 : Int), .d (.int .i32) (0 : Int)], none⟩
theorem ti218_ok : TIok Tryz.prog 218 ti218 := TIok.mk1 (by kernel_rfl) (by kernel_rfl) (by kernel_rfl) (.inl rfl) (⟨_, Tryz.underlying218, by kernel_rfl⟩) (trivial)
/-- abi.Type -/
def ti219 : TI := ⟨11, 48, .struct [(0, 12), (1, 12), (2, 89), (3, 213), (4, 5), (5, 5), (6, 214), (7, 215), (8, 95), (9, 216), (10, 217)], [.d (.int .u64) (0 : Int), .d (.int .u64) (0 : Int), .d (.int .u32) (0 : Int), .d (.int .u8) (0 : Int), .d (.int .u8) (0 : Int), .d (.int .u8) (0 : Int), .d (.int .u8) (0 : Int), .con .nilFunc, .con (.pointer none), .d (.int .i32) (0 : Int), .d (.int .i32) (0 : Int)], none⟩
theorem ti219_ok : TIok Tryz.prog 219 ti219 := TIok.mk1 (by kernel_rfl) (by kernel_rfl) (by kernel_rfl) (.inl rfl) (⟨_, Tryz.underlying219, by kernel_rfl⟩) (trivial)
theorem eq81_ok : EqTy Tryz.prog 81 (.pair (.int .i64) (.pair (.int .i64) (.pair (.int .i64) (.int .u8)))) := ⟨(Exists.intro _ (And.intro Tryz.underlying81 (And.intro (by kernel_rfl) (And.intro (by kernel_rfl) (And.intro (by kernel_rfl) (And.intro Tryz.underlying3 (And.intro (by kernel_rfl) (And.intro (by kernel_rfl) (And.intro Tryz.underlying3 (And.intro (by kernel_rfl) (And.intro (by kernel_rfl) (And.intro Tryz.underlying3 (And.intro (by kernel_rfl) (And.intro (by kernel_rfl) Tryz.underlying5)))))))))))))), rfl, rfl, by kernel_rfl, by kernel_rfl⟩
theorem eq96_ok : EqTy Tryz.prog 96 (.arr 24 (.int .u8)) := ⟨(Exists.intro 5 (And.intro Tryz.underlying96 (And.intro (by kernel_rfl) (And.intro (by kernel_rfl) Tryz.underlying5)))), rfl, rfl, by kernel_rfl, by kernel_rfl⟩
theorem eq111_ok : EqTy Tryz.prog 111 (.arr 4 (.int .u64)) := ⟨(Exists.intro 92 (And.intro Tryz.underlying111 (And.intro (by kernel_rfl) (And.intro (by kernel_rfl) Tryz.underlying92)))), rfl, rfl, by kernel_rfl, by kernel_rfl⟩
theorem eq112_ok : EqTy Tryz.prog 112 (.arr 4 (.int .u64)) := ⟨(Exists.intro 92 (And.intro Tryz.underlying112 (And.intro (by kernel_rfl) (And.intro (by kernel_rfl) Tryz.underlying92)))), rfl, rfl, by kernel_rfl, by kernel_rfl⟩
theorem eq114_ok : EqTy Tryz.prog 114 (.pair (.arr 4 (.int .u64)) (.pair (.arr 4 (.int .u64)) (.int .i64))) := ⟨(Exists.intro _ (And.intro Tryz.underlying114 (And.intro (by kernel_rfl) (And.intro (by kernel_rfl) (And.intro (by kernel_rfl) (And.intro (Exists.intro 92 (And.intro Tryz.underlying112 (And.intro (by kernel_rfl) (And.intro (by kernel_rfl) Tryz.underlying92)))) (And.intro (by kernel_rfl) (And.intro (by kernel_rfl) (And.intro (Exists.intro 92 (And.intro Tryz.underlying112 (And.intro (by kernel_rfl) (And.intro (by kernel_rfl) Tryz.underlying92)))) (And.intro (by kernel_rfl) (And.intro (by kernel_rfl) Tryz.underlying3))))))))))), rfl, rfl, by kernel_rfl, by kernel_rfl⟩
theorem eq131_ok : EqTy Tryz.prog 131 (.arr 20 (.int .u64)) := ⟨(Exists.intro 92 (And.intro Tryz.underlying131 (And.intro (by kernel_rfl) (And.intro (by kernel_rfl) Tryz.underlying92)))), rfl, rfl, by kernel_rfl, by kernel_rfl⟩
theorem eq132_ok : EqTy Tryz.prog 132 (.arr 65 (.int .u8)) := ⟨(Exists.intro 5 (And.intro Tryz.underlying132 (And.intro (by kernel_rfl) (And.intro (by kernel_rfl) Tryz.underlying5)))), rfl, rfl, by kernel_rfl, by kernel_rfl⟩
theorem eq141_ok : EqTy Tryz.prog 141 (.pair (.int .i64) (.pair (.int .i64) (.pair (.bool) (.pair (.bool) (.pair (.bool) (.pair (.bool) (.bool))))))) := ⟨(Exists.intro _ (And.intro Tryz.underlying141 (And.intro (by kernel_rfl) (And.intro (by kernel_rfl) (And.intro (by kernel_rfl) (And.intro Tryz.underlying3 (And.intro (by kernel_rfl) (And.intro (by kernel_rfl) (And.intro Tryz.underlying3 (And.intro (by kernel_rfl) (And.intro (by kernel_rfl) (And.intro Tryz.underlying4 (And.intro (by kernel_rfl) (And.intro (by kernel_rfl) (And.intro Tryz.underlying4 (And.intro (by kernel_rfl) (And.intro (by kernel_rfl) (And.intro Tryz.underlying4 (And.intro (by kernel_rfl) (And.intro (by kernel_rfl) (And.intro Tryz.underlying4 (And.intro (by kernel_rfl) (And.intro (by kernel_rfl) Tryz.underlying4))))))))))))))))))))))), rfl, rfl, by kernel_rfl, by kernel_rfl⟩
theorem eq146_ok : EqTy Tryz.prog 146 (.pair (.int .i64) (.int .u8)) := ⟨(Exists.intro _ (And.intro Tryz.underlying146 (And.intro (by kernel_rfl) (And.intro (by kernel_rfl) (And.intro (by kernel_rfl) (And.intro Tryz.underlying3 (And.intro (by kernel_rfl) (And.intro (by kernel_rfl) Tryz.underlying5)))))))), rfl, rfl, by kernel_rfl, by kernel_rfl⟩
theorem eq158_ok : EqTy Tryz.prog 158 (.pair (.int .i64) (.int .i64)) := ⟨(Exists.intro _ (And.intro Tryz.underlying158 (And.intro (by kernel_rfl) (And.intro (by kernel_rfl) (And.intro (by kernel_rfl) (And.intro Tryz.underlying3 (And.intro (by kernel_rfl) (And.intro (by kernel_rfl) Tryz.underlying3)))))))), rfl, rfl, by kernel_rfl, by kernel_rfl⟩
theorem eq162_ok : EqTy Tryz.prog 162 (.arr 32 (.int .u8)) := ⟨(Exists.intro 5 (And.intro Tryz.underlying162 (And.intro (by kernel_rfl) (And.intro (by kernel_rfl) Tryz.underlying5)))), rfl, rfl, by kernel_rfl, by kernel_rfl⟩
theorem eq163_ok : EqTy Tryz.prog 163 (.arr 64 (.int .u8)) := ⟨(Exists.intro 5 (And.intro Tryz.underlying163 (And.intro (by kernel_rfl) (And.intro (by kernel_rfl) Tryz.underlying5)))), rfl, rfl, by kernel_rfl, by kernel_rfl⟩
theorem eq181_ok : EqTy Tryz.prog 181 (.pair (.int .i64) (.int .i64)) := ⟨(Exists.intro _ (And.intro Tryz.underlying181 (And.intro (by kernel_rfl) (And.intro (by kernel_rfl) (And.intro (by kernel_rfl) (And.intro Tryz.underlying3 (And.intro (by kernel_rfl) (And.intro (by kernel_rfl) Tryz.underlying3)))))))), rfl, rfl, by kernel_rfl, by kernel_rfl⟩
theorem eq183_ok : EqTy Tryz.prog 183 (.pair (.int .i64) (.pair (.int .i64) (.int .i64))) := ⟨(Exists.intro _ (And.intro Tryz.underlying183 (And.intro (by kernel_rfl) (And.intro (by kernel_rfl) (And.intro (by kernel_rfl) (And.intro Tryz.underlying3 (And.intro (by kernel_rfl) (And.intro (by kernel_rfl) (And.intro Tryz.underlying3 (And.intro (by kernel_rfl) (And.intro (by kernel_rfl) Tryz.underlying3))))))))))), rfl, rfl, by kernel_rfl, by kernel_rfl⟩
theorem eq186_ok : EqTy Tryz.prog 186 (.pair (.bool) (.bool)) := ⟨(Exists.intro _ (And.intro Tryz.underlying186 (And.intro (by kernel_rfl) (And.intro (by kernel_rfl) (And.intro (by kernel_rfl) (And.intro Tryz.underlying4 (And.intro (by kernel_rfl) (And.intro (by kernel_rfl) Tryz.underlying4)))))))), rfl, rfl, by kernel_rfl, by kernel_rfl⟩
def env : Env := { tys := [(1, ti1), (2, ti2), (3, ti3), (4, ti4), (5, ti5), (6, ti6), (7, ti7), (8, ti8), (9, ti9), (10, ti10), (11, ti11), (12, ti12), (13, ti13), (14, ti14), (15, ti15), (16, ti16), (17, ti17), (18, ti18), (19, ti19), (21, ti21), (22, ti22), (23, ti23), (24, ti24), (25, ti25), (26, ti26), (27, ti27), (28, ti28), (29, ti29), (30, ti30), (31, ti31), (33, ti33), (35, ti35), (36, ti36), (37, ti37), (38, ti38), (39, ti39), (40, ti40), (41, ti41), (42, ti42), (43, ti43), (45, ti45), (46, ti46), (48, ti48), (49, ti49), (50, ti50), (51, ti51), (52, ti52), (53, ti53), (54, ti54), (55, ti55), (56, ti56), (58, ti58), (59, ti59), (60, ti60), (61, ti61), (62, ti62), (63, ti63), (64, ti64), (65, ti65), (67, ti67), (68, ti68), (69, ti69), (70, ti70), (72, ti72), (73, ti73), (74, ti74), (75, ti75), (77, ti77), (78, ti78), (79, ti79), (80, ti80), (81, ti81), (82, ti82), (83, ti83), (84, ti84), (85, ti85), (86, ti86), (87, ti87), (88, ti88), (89, ti89), (91, ti91), (92, ti92), (94, ti94), (95, ti95), (96, ti96), (97, ti97), (98, ti98), (100, ti100), (102, ti102), (104, ti104), (105, ti105), (106, ti106), (107, ti107), (108, ti108), (109, ti109), (110, ti110), (111, ti111), (112, ti112), (113, ti113), (114, ti114), (115, ti115), (116, ti116), (117, ti117), (118, ti118), (119, ti119), (120, ti120), (121, ti121), (122, ti122), (123, ti123), (124, ti124), (125, ti125), (127, ti127), (128, ti128), (129, ti129), (130, ti130), (131, ti131), (132, ti132), (133, ti133), (134, ti134), (135, ti135), (136, ti136), (137, ti137), (139, ti139), (140, ti140), (141, ti141), (142, ti142), (144, ti144), (145, ti145), (146, ti146), (147, ti147), (148, ti148), (149, ti149), (150, ti150), (151, ti151), (152, ti152), (154, ti154), (156, ti156), (157, ti157), (158, ti158), (159, ti159), (161, ti161), (162, ti162), (163, ti163), (164, ti164), (165, ti165), (167, ti167), (168, ti168), (169, ti169), (170, ti170), (171, ti171), (172, ti172), (173, ti173), (174, ti174), (175, ti175), (176, ti176), (177, ti177), (179, ti179), (180, ti180), (181, ti181), (182, ti182), (183, ti183), (184, ti184), (185, ti185), (186, ti186), (187, ti187), (188, ti188), (190, ti190), (191, ti191), (192, ti192), (193, ti193), (194, ti194), (195, ti195), (196, ti196), (197, ti197), (198, ti198), (199, ti199), (200, ti200), (201, ti201), (202, ti202), (203, ti203), (204, ti204), (205, ti205), (206, ti206), (207, ti207), (208, ti208), (209, ti209), (213, ti213), (214, ti214), (215, ti215), (216, ti216), (217, ti217), (218, ti218), (219, ti219)], eqs := [(81, .pair (.int .i64) (.pair (.int .i64) (.pair (.int .i64) (.int .u8)))), (96, .arr 24 (.int .u8)), (111, .arr 4 (.int .u64)), (112, .arr 4 (.int .u64)), (114, .pair (.arr 4 (.int .u64)) (.pair (.arr 4 (.int .u64)) (.int .i64))), (131, .arr 20 (.int .u64)), (132, .arr 65 (.int .u8)), (141, .pair (.int .i64) (.pair (.int .i64) (.pair (.bool) (.pair (.bool) (.pair (.bool) (.pair (.bool) (.bool))))))), (146, .pair (.int .i64) (.int .u8)), (158, .pair (.int .i64) (.int .i64)), (162, .arr 32 (.int .u8)), (163, .arr 64 (.int .u8)), (181, .pair (.int .i64) (.int .i64)), (183, .pair (.int .i64) (.pair (.int .i64) (.int .i64))), (186, .pair (.bool) (.bool))] }
theorem env_ok : EnvOk Tryz.prog env := envOk_of_all (E := env) ⟨ti1_ok, ⟨ti2_ok, ⟨ti3_ok, ⟨ti4_ok, ⟨ti5_ok, ⟨ti6_ok, ⟨ti7_ok, ⟨ti8_ok, ⟨ti9_ok, ⟨ti10_ok, ⟨ti11_ok, ⟨ti12_ok, ⟨ti13_ok, ⟨ti14_ok, ⟨ti15_ok, ⟨ti16_ok, ⟨ti17_ok, ⟨ti18_ok, ⟨ti19_ok, ⟨ti21_ok, ⟨ti22_ok, ⟨ti23_ok, ⟨ti24_ok, ⟨ti25_ok, ⟨ti26_ok, ⟨ti27_ok, ⟨ti28_ok, ⟨ti29_ok, ⟨ti30_ok, ⟨ti31_ok, ⟨ti33_ok, ⟨ti35_ok, ⟨ti36_ok, ⟨ti37_ok, ⟨ti38_ok, ⟨ti39_ok, ⟨ti40_ok, ⟨ti41_ok, ⟨ti42_ok, ⟨ti43_ok, ⟨ti45_ok, ⟨ti46_ok, ⟨ti48_ok, ⟨ti49_ok, ⟨ti50_ok, ⟨ti51_ok, ⟨ti52_ok, ⟨ti53_ok, ⟨ti54_ok, ⟨ti55_ok, ⟨ti56_ok, ⟨ti58_ok, ⟨ti59_ok, ⟨ti60_ok, ⟨ti61_ok, ⟨ti62_ok, ⟨ti63_ok, ⟨ti64_ok, ⟨ti65_ok, ⟨ti67_ok, ⟨ti68_ok, ⟨ti69_ok, ⟨ti70_ok, ⟨ti72_ok, ⟨ti73_ok, ⟨ti74_ok, ⟨ti75_ok, ⟨ti77_ok, ⟨ti78_ok, ⟨ti79_ok, ⟨ti80_ok, ⟨ti81_ok, ⟨ti82_ok, ⟨ti83_ok, ⟨ti84_ok, ⟨ti85_ok, ⟨ti86_ok, ⟨ti87_ok, ⟨ti88_ok, ⟨ti89_ok, ⟨ti91_ok, ⟨ti92_ok, ⟨ti94_ok, ⟨ti95_ok, ⟨ti96_ok, ⟨ti97_ok, ⟨ti98_ok, ⟨ti100_ok, ⟨ti102_ok, ⟨ti104_ok, ⟨ti105_ok, ⟨ti106_ok, ⟨ti107_ok, ⟨ti108_ok, ⟨ti109_ok, ⟨ti110_ok, ⟨ti111_ok, ⟨ti112_ok, ⟨ti113_ok, ⟨ti114_ok, ⟨ti115_ok, ⟨ti116_ok, ⟨ti117_ok, ⟨ti118_ok, ⟨ti119_ok, ⟨ti120_ok, ⟨ti121_ok, ⟨ti122_ok, ⟨ti123_ok, ⟨ti124_ok, ⟨ti125_ok, ⟨ti127_ok, ⟨ti128_ok, ⟨ti129_ok, ⟨ti130_ok, ⟨ti131_ok, ⟨ti132_ok, ⟨ti133_ok, ⟨ti134_ok, ⟨ti135_ok, ⟨ti136_ok, ⟨ti137_ok, ⟨ti139_ok, ⟨ti140_ok, ⟨ti141_ok, ⟨ti142_ok, ⟨ti144_ok, ⟨ti145_ok, ⟨ti146_ok, ⟨ti147_ok, ⟨ti148_ok, ⟨ti149_ok, ⟨ti150_ok, ⟨ti151_ok, ⟨ti152_ok, ⟨ti154_ok, ⟨ti156_ok, ⟨ti157_ok, ⟨ti158_ok, ⟨ti159_ok, ⟨ti161_ok, ⟨ti162_ok, ⟨ti163_ok, ⟨ti164_ok, ⟨ti165_ok, ⟨ti167_ok, ⟨ti168_ok, ⟨ti169_ok, ⟨ti170_ok, ⟨ti171_ok, ⟨ti172_ok, ⟨ti173_ok, ⟨ti174_ok, ⟨ti175_ok, ⟨ti176_ok, ⟨ti177_ok, ⟨ti179_ok, ⟨ti180_ok, ⟨ti181_ok, ⟨ti182_ok, ⟨ti183_ok, ⟨ti184_ok, ⟨ti185_ok, ⟨ti186_ok, ⟨ti187_ok, ⟨ti188_ok, ⟨ti190_ok, ⟨ti191_ok, ⟨ti192_ok, ⟨ti193_ok, ⟨ti194_ok, ⟨ti195_ok, ⟨ti196_ok, ⟨ti197_ok, ⟨ti198_ok, ⟨ti199_ok, ⟨ti200_ok, ⟨ti201_ok, ⟨ti202_ok, ⟨ti203_ok, ⟨ti204_ok, ⟨ti205_ok, ⟨ti206_ok, ⟨ti207_ok, ⟨ti208_ok, ⟨ti209_ok, ⟨ti213_ok, ⟨ti214_ok, ⟨ti215_ok, ⟨ti216_ok, ⟨ti217_ok, ⟨ti218_ok, ⟨ti219_ok, trivial⟩⟩⟩⟩⟩⟩⟩⟩⟩⟩⟩⟩⟩⟩⟩⟩⟩⟩⟩⟩⟩⟩⟩⟩⟩⟩⟩⟩⟩⟩⟩⟩⟩⟩⟩⟩⟩⟩⟩⟩⟩⟩⟩⟩⟩⟩⟩⟩⟩⟩⟩⟩⟩⟩⟩⟩⟩⟩⟩⟩⟩⟩⟩⟩⟩⟩⟩⟩⟩⟩⟩⟩⟩⟩⟩⟩⟩⟩⟩⟩⟩⟩⟩⟩⟩⟩⟩⟩⟩⟩⟩⟩⟩⟩⟩⟩⟩⟩⟩⟩⟩⟩⟩⟩⟩⟩⟩⟩⟩⟩⟩⟩⟩⟩⟩⟩⟩⟩⟩⟩⟩⟩⟩⟩⟩⟩⟩⟩⟩⟩⟩⟩⟩⟩⟩⟩⟩⟩⟩⟩⟩⟩⟩⟩⟩⟩⟩⟩⟩⟩⟩⟩⟩⟩⟩⟩⟩⟩⟩⟩⟩⟩⟩⟩⟩⟩⟩⟩⟩⟩⟩⟩⟩⟩⟩⟩⟩⟩⟩⟩⟩⟩⟩⟩⟩⟩⟩⟩⟩⟩⟩⟩⟩ ⟨eq81_ok, ⟨eq96_ok, ⟨eq111_ok, ⟨eq112_ok, ⟨eq114_ok, ⟨eq131_ok, ⟨eq132_ok, ⟨eq141_ok, ⟨eq146_ok, ⟨eq158_ok, ⟨eq162_ok, ⟨eq163_ok, ⟨eq181_ok, ⟨eq183_ok, ⟨eq186_ok, trivial⟩⟩⟩⟩⟩⟩⟩⟩⟩⟩⟩⟩⟩⟩⟩
end Go.Proofs.YtdhldloajddfiaaGreatDoor
