/-
  The types of the translation, as the executor wants them, with the proof that they are as the program says. Written by genenv.py.
-/
import Derived.Test.YtjafnenkgmbgaaaDoorRows
import Derived.Test.YtjafnenkgmbgaaaDoorSxP5
namespace Go.Proofs.YtjafnenkgmbgaaaDoor
open Go.Sx
@[reducible] def tyboundsError : Ty := .pair (.int .i64) (.pair (.int .i64) (.pair (.bool) (.int .u8)))
@[reducible] def tyerrorAddressString : Ty := .pair (.str) (.int .u64)
@[reducible] def tyKernOp : Ty := .pair (.int .i64) (.pair (.int .i64) (.pair (.int .i64) (.int .u8)))
@[reducible] def tyNumError : Ty := .pair (.str) (.pair (.str) (.err))
/-- func() -/
def ti1 : TI := ⟨1, 8, .scalar (.func #[] #[] false), [.con .nilFunc], none⟩
theorem ti1_ok : TIok Tryd.prog 1 ti1 := TIok.mk1 (by kernel_rfl) (by kernel_rfl) (by kernel_rfl) (.inr rfl) (⟨Tryd.underlying1, trivial⟩) (trivial)
/-- int64 -/
def ti2 : TI := ⟨1, 8, .scalar (.int .i64), [.d (.int .i64) (0 : Int)], some (.int .i64)⟩
theorem ti2_ok : TIok Tryd.prog 2 ti2 := TIok.mk1 (by kernel_rfl) (by kernel_rfl) (by kernel_rfl) (.inr rfl) (⟨Tryd.underlying2, trivial⟩) (⟨by kernel_rfl, by kernel_rfl, by kernel_rfl, by kernel_rfl⟩)
/-- int -/
def ti3 : TI := ⟨1, 8, .scalar (.int .i64), [.d (.int .i64) (0 : Int)], some (.int .i64)⟩
theorem ti3_ok : TIok Tryd.prog 3 ti3 := TIok.mk1 (by kernel_rfl) (by kernel_rfl) (by kernel_rfl) (.inr rfl) (⟨Tryd.underlying3, trivial⟩) (⟨by kernel_rfl, by kernel_rfl, by kernel_rfl, by kernel_rfl⟩)
/-- bool -/
def ti4 : TI := ⟨1, 1, .scalar .bool, [.lit false], some (.bool)⟩
theorem ti4_ok : TIok Tryd.prog 4 ti4 := TIok.mk1 (by kernel_rfl) (by kernel_rfl) (by kernel_rfl) (.inr rfl) (⟨Tryd.underlying4, trivial⟩) (⟨by kernel_rfl, by kernel_rfl, by kernel_rfl, by kernel_rfl⟩)
/-- uint8 -/
def ti5 : TI := ⟨1, 1, .scalar (.int .u8), [.d (.int .u8) (0 : Int)], some (.int .u8)⟩
theorem ti5_ok : TIok Tryd.prog 5 ti5 := TIok.mk1 (by kernel_rfl) (by kernel_rfl) (by kernel_rfl) (.inr rfl) (⟨Tryd.underlying5, trivial⟩) (⟨by kernel_rfl, by kernel_rfl, by kernel_rfl, by kernel_rfl⟩)
/-- abi.BoundsErrorCode -/
def ti6 : TI := ⟨1, 1, .scalar (.int .u8), [.d (.int .u8) (0 : Int)], some (.int .u8)⟩
theorem ti6_ok : TIok Tryd.prog 6 ti6 := TIok.mk1 (by kernel_rfl) (by kernel_rfl) (by kernel_rfl) (.inr rfl) (⟨Tryd.underlying6, trivial⟩) (⟨by kernel_rfl, by kernel_rfl, by kernel_rfl, by kernel_rfl⟩)
/-- struct { x int64; y int; signed bool; code abi.BoundsErrorCode } -/
def ti7 : TI := ⟨4, 24, .struct [(0, 2), (1, 3), (2, 4), (3, 6)], [.d (.int .i64) (0 : Int), .d (.int .i64) (0 : Int), .lit false, .d (.int .u8) (0 : Int)], some (.pair (.int .i64) (.pair (.int .i64) (.pair (.bool) (.int .u8))))⟩
theorem ti7_ok : TIok Tryd.prog 7 ti7 := TIok.mk1 (by kernel_rfl) (by kernel_rfl) (by kernel_rfl) (.inl rfl) (⟨_, Tryd.underlying7, by kernel_rfl⟩) (⟨by kernel_rfl, by kernel_rfl, by kernel_rfl, by kernel_rfl⟩)
/-- runtime.boundsError -/
def ti8 : TI := ⟨4, 24, .struct [(0, 2), (1, 3), (2, 4), (3, 6)], [.d (.int .i64) (0 : Int), .d (.int .i64) (0 : Int), .lit false, .d (.int .u8) (0 : Int)], some (.pair (.int .i64) (.pair (.int .i64) (.pair (.bool) (.int .u8))))⟩
theorem ti8_ok : TIok Tryd.prog 8 ti8 := TIok.mk1 (by kernel_rfl) (by kernel_rfl) (by kernel_rfl) (.inl rfl) (⟨_, Tryd.underlying8, by kernel_rfl⟩) (⟨by kernel_rfl, by kernel_rfl, by kernel_rfl, by kernel_rfl⟩)
/-- string -/
def ti9 : TI := ⟨1, 16, .scalar .string, [.d .str ([] : List Int)], some (.str)⟩
theorem ti9_ok : TIok Tryd.prog 9 ti9 := TIok.mk1 (by kernel_rfl) (by kernel_rfl) (by kernel_rfl) (.inr rfl) (⟨Tryd.underlying9, trivial⟩) (⟨by kernel_rfl, by kernel_rfl, by kernel_rfl, by kernel_rfl⟩)
/-- runtime.errorString -/
def ti10 : TI := ⟨1, 16, .scalar .string, [.d .str ([] : List Int)], some (.str)⟩
theorem ti10_ok : TIok Tryd.prog 10 ti10 := TIok.mk1 (by kernel_rfl) (by kernel_rfl) (by kernel_rfl) (.inr rfl) (⟨Tryd.underlying10, trivial⟩) (⟨by kernel_rfl, by kernel_rfl, by kernel_rfl, by kernel_rfl⟩)
/-- runtime.plainError -/
def ti11 : TI := ⟨1, 16, .scalar .string, [.d .str ([] : List Int)], some (.str)⟩
theorem ti11_ok : TIok Tryd.prog 11 ti11 := TIok.mk1 (by kernel_rfl) (by kernel_rfl) (by kernel_rfl) (.inr rfl) (⟨Tryd.underlying11, trivial⟩) (⟨by kernel_rfl, by kernel_rfl, by kernel_rfl, by kernel_rfl⟩)
/-- uintptr -/
def ti12 : TI := ⟨1, 8, .scalar (.int .u64), [.d (.int .u64) (0 : Int)], some (.int .u64)⟩
theorem ti12_ok : TIok Tryd.prog 12 ti12 := TIok.mk1 (by kernel_rfl) (by kernel_rfl) (by kernel_rfl) (.inr rfl) (⟨Tryd.underlying12, trivial⟩) (⟨by kernel_rfl, by kernel_rfl, by kernel_rfl, by kernel_rfl⟩)
/-- struct { msg string; addr uintptr } -/
def ti13 : TI := ⟨2, 24, .struct [(0, 9), (1, 12)], [.d .str ([] : List Int), .d (.int .u64) (0 : Int)], some (.pair (.str) (.int .u64))⟩
theorem ti13_ok : TIok Tryd.prog 13 ti13 := TIok.mk1 (by kernel_rfl) (by kernel_rfl) (by kernel_rfl) (.inl rfl) (⟨_, Tryd.underlying13, by kernel_rfl⟩) (⟨by kernel_rfl, by kernel_rfl, by kernel_rfl, by kernel_rfl⟩)
/-- runtime.errorAddressString -/
def ti14 : TI := ⟨2, 24, .struct [(0, 9), (1, 12)], [.d .str ([] : List Int), .d (.int .u64) (0 : Int)], some (.pair (.str) (.int .u64))⟩
theorem ti14_ok : TIok Tryd.prog 14 ti14 := TIok.mk1 (by kernel_rfl) (by kernel_rfl) (by kernel_rfl) (.inl rfl) (⟨_, Tryd.underlying14, by kernel_rfl⟩) (⟨by kernel_rfl, by kernel_rfl, by kernel_rfl, by kernel_rfl⟩)
/-- *runtime.TypeAssertionError -/
def ti15 : TI := ⟨1, 8, .scalar (.pointer 100), [.con (.pointer none)], none⟩
theorem ti15_ok : TIok Tryd.prog 15 ti15 := TIok.mk1 (by kernel_rfl) (by kernel_rfl) (by kernel_rfl) (.inr rfl) (⟨Tryd.underlying15, trivial⟩) (trivial)
/-- *runtime.PanicNilError -/
def ti16 : TI := ⟨1, 8, .scalar (.pointer 103), [.con (.pointer none)], none⟩
theorem ti16_ok : TIok Tryd.prog 16 ti16 := TIok.mk1 (by kernel_rfl) (by kernel_rfl) (by kernel_rfl) (.inr rfl) (⟨Tryd.underlying16, trivial⟩) (trivial)
/-- *abi.Type -/
def ti17 : TI := ⟨1, 8, .scalar (.pointer 111), [.con (.pointer none)], none⟩
theorem ti17_ok : TIok Tryd.prog 17 ti17 := TIok.mk1 (by kernel_rfl) (by kernel_rfl) (by kernel_rfl) (.inr rfl) (⟨Tryd.underlying17, trivial⟩) (trivial)
/-- struct { typ *abi.Type } -/
def ti18 : TI := ⟨1, 8, .struct [(0, 17)], [.con (.pointer none)], none⟩
theorem ti18_ok : TIok Tryd.prog 18 ti18 := TIok.mk1 (by kernel_rfl) (by kernel_rfl) (by kernel_rfl) (.inl rfl) (⟨_, Tryd.underlying18, by kernel_rfl⟩) (trivial)
/-- maps.unhashableTypeError -/
def ti19 : TI := ⟨1, 8, .struct [(0, 17)], [.con (.pointer none)], none⟩
theorem ti19_ok : TIok Tryd.prog 19 ti19 := TIok.mk1 (by kernel_rfl) (by kernel_rfl) (by kernel_rfl) (.inl rfl) (⟨_, Tryd.underlying19, by kernel_rfl⟩) (trivial)
/-- int32 -/
def ti21 : TI := ⟨1, 4, .scalar (.int .i32), [.d (.int .i32) (0 : Int)], some (.int .i32)⟩
theorem ti21_ok : TIok Tryd.prog 21 ti21 := TIok.mk1 (by kernel_rfl) (by kernel_rfl) (by kernel_rfl) (.inr rfl) (⟨Tryd.underlying21, trivial⟩) (⟨by kernel_rfl, by kernel_rfl, by kernel_rfl, by kernel_rfl⟩)
/-- []api.KernOp -/
def ti22 : TI := ⟨1, 24, .slice 30, [.con (.slice none 0 0)], some (.sl (.pair (.int .i64) (.pair (.int .i64) (.pair (.int .i64) (.int .u8)))))⟩
theorem ti22_ok : TIok Tryd.prog 22 ti22 := TIok.mk1 (by kernel_rfl) (by kernel_rfl) (by kernel_rfl) (.inr rfl) (Tryd.underlying22) (⟨by kernel_rfl, by kernel_rfl, by kernel_rfl, by kernel_rfl⟩)
/-- api.Errno -/
def ti23 : TI := ⟨1, 8, .scalar (.int .i64), [.d (.int .i64) (0 : Int)], some (.int .i64)⟩
theorem ti23_ok : TIok Tryd.prog 23 ti23 := TIok.mk1 (by kernel_rfl) (by kernel_rfl) (by kernel_rfl) (.inr rfl) (⟨Tryd.underlying23, trivial⟩) (⟨by kernel_rfl, by kernel_rfl, by kernel_rfl, by kernel_rfl⟩)
/-- func([]api.KernOp) (string, api.Errno) -/
def ti25 : TI := ⟨1, 8, .scalar (.func #[22] #[9, 23] false), [.con .nilFunc], none⟩
theorem ti25_ok : TIok Tryd.prog 25 ti25 := TIok.mk1 (by kernel_rfl) (by kernel_rfl) (by kernel_rfl) (.inr rfl) (⟨Tryd.underlying25, trivial⟩) (trivial)
/-- func(string) ([]api.KernOp, int, api.Errno) -/
def ti27 : TI := ⟨1, 8, .scalar (.func #[9] #[22, 3, 23] false), [.con .nilFunc], none⟩
theorem ti27_ok : TIok Tryd.prog 27 ti27 := TIok.mk1 (by kernel_rfl) (by kernel_rfl) (by kernel_rfl) (.inr rfl) (⟨Tryd.underlying27, trivial⟩) (trivial)
/-- func([]api.KernOp, []api.KernOp) bool -/
def ti28 : TI := ⟨1, 8, .scalar (.func #[22, 22] #[4] false), [.con .nilFunc], none⟩
theorem ti28_ok : TIok Tryd.prog 28 ti28 := TIok.mk1 (by kernel_rfl) (by kernel_rfl) (by kernel_rfl) (.inr rfl) (⟨Tryd.underlying28, trivial⟩) (trivial)
/-- struct { Kind int; Core int; N int; Byte uint8 } -/
def ti29 : TI := ⟨4, 32, .struct [(0, 3), (1, 3), (2, 3), (3, 5)], [.d (.int .i64) (0 : Int), .d (.int .i64) (0 : Int), .d (.int .i64) (0 : Int), .d (.int .u8) (0 : Int)], some (.pair (.int .i64) (.pair (.int .i64) (.pair (.int .i64) (.int .u8))))⟩
theorem ti29_ok : TIok Tryd.prog 29 ti29 := TIok.mk1 (by kernel_rfl) (by kernel_rfl) (by kernel_rfl) (.inl rfl) (⟨_, Tryd.underlying29, by kernel_rfl⟩) (⟨by kernel_rfl, by kernel_rfl, by kernel_rfl, by kernel_rfl⟩)
/-- api.KernOp -/
def ti30 : TI := ⟨4, 32, .struct [(0, 3), (1, 3), (2, 3), (3, 5)], [.d (.int .i64) (0 : Int), .d (.int .i64) (0 : Int), .d (.int .i64) (0 : Int), .d (.int .u8) (0 : Int)], some (.pair (.int .i64) (.pair (.int .i64) (.pair (.int .i64) (.int .u8))))⟩
theorem ti30_ok : TIok Tryd.prog 30 ti30 := TIok.mk1 (by kernel_rfl) (by kernel_rfl) (by kernel_rfl) (.inl rfl) (⟨_, Tryd.underlying30, by kernel_rfl⟩) (⟨by kernel_rfl, by kernel_rfl, by kernel_rfl, by kernel_rfl⟩)
/-- func([]api.KernOp, string) bool -/
def ti31 : TI := ⟨1, 8, .scalar (.func #[22, 9] #[4] false), [.con .nilFunc], none⟩
theorem ti31_ok : TIok Tryd.prog 31 ti31 := TIok.mk1 (by kernel_rfl) (by kernel_rfl) (by kernel_rfl) (.inr rfl) (⟨Tryd.underlying31, trivial⟩) (trivial)
/-- *strings.Builder -/
def ti32 : TI := ⟨1, 8, .scalar (.pointer 35), [.con (.pointer none)], none⟩
theorem ti32_ok : TIok Tryd.prog 32 ti32 := TIok.mk1 (by kernel_rfl) (by kernel_rfl) (by kernel_rfl) (.inr rfl) (⟨Tryd.underlying32, trivial⟩) (trivial)
/-- []uint8 -/
def ti33 : TI := ⟨1, 24, .slice 5, [.con (.slice none 0 0)], some (.sl (.int .u8))⟩
theorem ti33_ok : TIok Tryd.prog 33 ti33 := TIok.mk1 (by kernel_rfl) (by kernel_rfl) (by kernel_rfl) (.inr rfl) (Tryd.underlying33) (⟨by kernel_rfl, by kernel_rfl, by kernel_rfl, by kernel_rfl⟩)
/-- struct { addr *strings.Builder; buf []uint8 } -/
def ti34 : TI := ⟨2, 32, .struct [(0, 32), (1, 33)], [.con (.pointer none), .con (.slice none 0 0)], none⟩
theorem ti34_ok : TIok Tryd.prog 34 ti34 := TIok.mk1 (by kernel_rfl) (by kernel_rfl) (by kernel_rfl) (.inl rfl) (⟨_, Tryd.underlying34, by kernel_rfl⟩) (trivial)
/-- strings.Builder -/
def ti35 : TI := ⟨2, 32, .struct [(0, 32), (1, 33)], [.con (.pointer none), .con (.slice none 0 0)], none⟩
theorem ti35_ok : TIok Tryd.prog 35 ti35 := TIok.mk1 (by kernel_rfl) (by kernel_rfl) (by kernel_rfl) (.inl rfl) (⟨_, Tryd.underlying35, by kernel_rfl⟩) (trivial)
/-- func(api.KernOp) (string, bool) -/
def ti37 : TI := ⟨1, 8, .scalar (.func #[30] #[9, 4] false), [.con .nilFunc], none⟩
theorem ti37_ok : TIok Tryd.prog 37 ti37 := TIok.mk1 (by kernel_rfl) (by kernel_rfl) (by kernel_rfl) (.inr rfl) (⟨Tryd.underlying37, trivial⟩) (trivial)
/-- interface { Error() string } -/
def ti38 : TI := ⟨1, 16, .scalar (.interface #[("Error", 42)]), [.con .nilIface], some (.err)⟩
theorem ti38_ok : TIok Tryd.prog 38 ti38 := TIok.mk1 (by kernel_rfl) (by kernel_rfl) (by kernel_rfl) (.inr rfl) (⟨Tryd.underlying38, trivial⟩) (⟨by kernel_rfl, by kernel_rfl, by kernel_rfl, by kernel_rfl⟩)
/-- error -/
def ti39 : TI := ⟨1, 16, .scalar (.interface #[("Error", 42)]), [.con .nilIface], some (.err)⟩
theorem ti39_ok : TIok Tryd.prog 39 ti39 := TIok.mk1 (by kernel_rfl) (by kernel_rfl) (by kernel_rfl) (.inr rfl) (⟨Tryd.underlying39, trivial⟩) (⟨by kernel_rfl, by kernel_rfl, by kernel_rfl, by kernel_rfl⟩)
/-- func(string) (int, error) -/
def ti41 : TI := ⟨1, 8, .scalar (.func #[9] #[3, 39] false), [.con .nilFunc], none⟩
theorem ti41_ok : TIok Tryd.prog 41 ti41 := TIok.mk1 (by kernel_rfl) (by kernel_rfl) (by kernel_rfl) (.inr rfl) (⟨Tryd.underlying41, trivial⟩) (trivial)
/-- func() string -/
def ti42 : TI := ⟨1, 8, .scalar (.func #[] #[9] false), [.con .nilFunc], none⟩
theorem ti42_ok : TIok Tryd.prog 42 ti42 := TIok.mk1 (by kernel_rfl) (by kernel_rfl) (by kernel_rfl) (.inr rfl) (⟨Tryd.underlying42, trivial⟩) (trivial)
/-- *int -/
def ti43 : TI := ⟨1, 8, .scalar (.pointer 3), [.con (.pointer none)], none⟩
theorem ti43_ok : TIok Tryd.prog 43 ti43 := TIok.mk1 (by kernel_rfl) (by kernel_rfl) (by kernel_rfl) (.inr rfl) (⟨Tryd.underlying43, trivial⟩) (trivial)
/-- func(*api.KernOp) (string, *int) -/
def ti45 : TI := ⟨1, 8, .scalar (.func #[46] #[9, 43] false), [.con .nilFunc], none⟩
theorem ti45_ok : TIok Tryd.prog 45 ti45 := TIok.mk1 (by kernel_rfl) (by kernel_rfl) (by kernel_rfl) (.inr rfl) (⟨Tryd.underlying45, trivial⟩) (trivial)
/-- *api.KernOp -/
def ti46 : TI := ⟨1, 8, .scalar (.pointer 30), [.con (.pointer none)], none⟩
theorem ti46_ok : TIok Tryd.prog 46 ti46 := TIok.mk1 (by kernel_rfl) (by kernel_rfl) (by kernel_rfl) (.inr rfl) (⟨Tryd.underlying46, trivial⟩) (trivial)
/-- func(int) string -/
def ti47 : TI := ⟨1, 8, .scalar (.func #[3] #[9] false), [.con .nilFunc], none⟩
theorem ti47_ok : TIok Tryd.prog 47 ti47 := TIok.mk1 (by kernel_rfl) (by kernel_rfl) (by kernel_rfl) (.inr rfl) (⟨Tryd.underlying47, trivial⟩) (trivial)
/-- func(string, string) (string, string, bool) -/
def ti49 : TI := ⟨1, 8, .scalar (.func #[9, 9] #[9, 9, 4] false), [.con .nilFunc], none⟩
theorem ti49_ok : TIok Tryd.prog 49 ti49 := TIok.mk1 (by kernel_rfl) (by kernel_rfl) (by kernel_rfl) (.inr rfl) (⟨Tryd.underlying49, trivial⟩) (trivial)
/-- func(string) (api.KernOp, bool) -/
def ti51 : TI := ⟨1, 8, .scalar (.func #[9] #[30, 4] false), [.con .nilFunc], none⟩
theorem ti51_ok : TIok Tryd.prog 51 ti51 := TIok.mk1 (by kernel_rfl) (by kernel_rfl) (by kernel_rfl) (.inr rfl) (⟨Tryd.underlying51, trivial⟩) (trivial)
/-- func(*api.KernOp) *int -/
def ti52 : TI := ⟨1, 8, .scalar (.func #[46] #[43] false), [.con .nilFunc], none⟩
theorem ti52_ok : TIok Tryd.prog 52 ti52 := TIok.mk1 (by kernel_rfl) (by kernel_rfl) (by kernel_rfl) (.inr rfl) (⟨Tryd.underlying52, trivial⟩) (trivial)
/-- []string -/
def ti53 : TI := ⟨1, 24, .slice 9, [.con (.slice none 0 0)], some (.sl (.str))⟩
theorem ti53_ok : TIok Tryd.prog 53 ti53 := TIok.mk1 (by kernel_rfl) (by kernel_rfl) (by kernel_rfl) (.inr rfl) (Tryd.underlying53) (⟨by kernel_rfl, by kernel_rfl, by kernel_rfl, by kernel_rfl⟩)
/-- func() []string -/
def ti54 : TI := ⟨1, 8, .scalar (.func #[] #[53] false), [.con .nilFunc], none⟩
theorem ti54_ok : TIok Tryd.prog 54 ti54 := TIok.mk1 (by kernel_rfl) (by kernel_rfl) (by kernel_rfl) (.inr rfl) (⟨Tryd.underlying54, trivial⟩) (trivial)
/-- *uint8 -/
def ti55 : TI := ⟨1, 8, .scalar (.pointer 5), [.con (.pointer none)], none⟩
theorem ti55_ok : TIok Tryd.prog 55 ti55 := TIok.mk1 (by kernel_rfl) (by kernel_rfl) (by kernel_rfl) (.inr rfl) (⟨Tryd.underlying55, trivial⟩) (trivial)
/-- uint64 -/
def ti56 : TI := ⟨1, 8, .scalar (.int .u64), [.d (.int .u64) (0 : Int)], some (.int .u64)⟩
theorem ti56_ok : TIok Tryd.prog 56 ti56 := TIok.mk1 (by kernel_rfl) (by kernel_rfl) (by kernel_rfl) (.inr rfl) (⟨Tryd.underlying56, trivial⟩) (⟨by kernel_rfl, by kernel_rfl, by kernel_rfl, by kernel_rfl⟩)
/-- func(string, int, int) (uint64, error) -/
def ti58 : TI := ⟨1, 8, .scalar (.func #[9, 3, 3] #[56, 39] false), [.con .nilFunc], none⟩
theorem ti58_ok : TIok Tryd.prog 58 ti58 := TIok.mk1 (by kernel_rfl) (by kernel_rfl) (by kernel_rfl) (.inr rfl) (⟨Tryd.underlying58, trivial⟩) (trivial)
/-- func(uint64, int) string -/
def ti59 : TI := ⟨1, 8, .scalar (.func #[56, 3] #[9] false), [.con .nilFunc], none⟩
theorem ti59_ok : TIok Tryd.prog 59 ti59 := TIok.mk1 (by kernel_rfl) (by kernel_rfl) (by kernel_rfl) (.inr rfl) (⟨Tryd.underlying59, trivial⟩) (trivial)
/-- func(unsafe.Pointer) unsafe.Pointer -/
def ti61 : TI := ⟨1, 8, .scalar (.func #[60] #[60] false), [.con .nilFunc], none⟩
theorem ti61_ok : TIok Tryd.prog 61 ti61 := TIok.mk1 (by kernel_rfl) (by kernel_rfl) (by kernel_rfl) (.inr rfl) (⟨Tryd.underlying61, trivial⟩) (trivial)
/-- func(int64, int) string -/
def ti62 : TI := ⟨1, 8, .scalar (.func #[2, 3] #[9] false), [.con .nilFunc], none⟩
theorem ti62_ok : TIok Tryd.prog 62 ti62 := TIok.mk1 (by kernel_rfl) (by kernel_rfl) (by kernel_rfl) (.inr rfl) (⟨Tryd.underlying62, trivial⟩) (trivial)
/-- func(string, string) int -/
def ti63 : TI := ⟨1, 8, .scalar (.func #[9, 9] #[3] false), [.con .nilFunc], none⟩
theorem ti63_ok : TIok Tryd.prog 63 ti63 := TIok.mk1 (by kernel_rfl) (by kernel_rfl) (by kernel_rfl) (.inr rfl) (⟨Tryd.underlying63, trivial⟩) (trivial)
/-- func(string, string, int, int, error) error -/
def ti64 : TI := ⟨1, 8, .scalar (.func #[9, 9, 3, 3, 39] #[39] false), [.con .nilFunc], none⟩
theorem ti64_ok : TIok Tryd.prog 64 ti64 := TIok.mk1 (by kernel_rfl) (by kernel_rfl) (by kernel_rfl) (.inr rfl) (⟨Tryd.underlying64, trivial⟩) (trivial)
/-- [24]uint8 -/
def ti65 : TI := ⟨24, 24, .arr 24 5, [.d (.arr 24 (.int .u8)) (List.replicate 24 (Ty.zero (.int .u8)))], some (.arr 24 (.int .u8))⟩
theorem ti65_ok : TIok Tryd.prog 65 ti65 := TIok.mk1 (by kernel_rfl) (by kernel_rfl) (by kernel_rfl) (.inl rfl) (Tryd.underlying65) (⟨by kernel_rfl, by kernel_rfl, by kernel_rfl, by kernel_rfl⟩)
/-- func(uint64) int -/
def ti66 : TI := ⟨1, 8, .scalar (.func #[56] #[3] false), [.con .nilFunc], none⟩
theorem ti66_ok : TIok Tryd.prog 66 ti66 := TIok.mk1 (by kernel_rfl) (by kernel_rfl) (by kernel_rfl) (.inr rfl) (⟨Tryd.underlying66, trivial⟩) (trivial)
/-- func([]uint8, uint64) -/
def ti67 : TI := ⟨1, 8, .scalar (.func #[33, 56] #[] false), [.con .nilFunc], none⟩
theorem ti67_ok : TIok Tryd.prog 67 ti67 := TIok.mk1 (by kernel_rfl) (by kernel_rfl) (by kernel_rfl) (.inr rfl) (⟨Tryd.underlying67, trivial⟩) (trivial)
/-- func([]uint8, uint64, int, bool, bool) ([]uint8, string) -/
def ti69 : TI := ⟨1, 8, .scalar (.func #[33, 56, 3, 4, 4] #[33, 9] false), [.con .nilFunc], none⟩
theorem ti69_ok : TIok Tryd.prog 69 ti69 := TIok.mk1 (by kernel_rfl) (by kernel_rfl) (by kernel_rfl) (.inr rfl) (⟨Tryd.underlying69, trivial⟩) (trivial)
/-- func(string, uint8) int -/
def ti70 : TI := ⟨1, 8, .scalar (.func #[9, 5] #[3] false), [.con .nilFunc], none⟩
theorem ti70_ok : TIok Tryd.prog 70 ti70 := TIok.mk1 (by kernel_rfl) (by kernel_rfl) (by kernel_rfl) (.inr rfl) (⟨Tryd.underlying70, trivial⟩) (trivial)
/-- func(int) int -/
def ti71 : TI := ⟨1, 8, .scalar (.func #[3] #[3] false), [.con .nilFunc], none⟩
theorem ti71_ok : TIok Tryd.prog 71 ti71 := TIok.mk1 (by kernel_rfl) (by kernel_rfl) (by kernel_rfl) (.inr rfl) (⟨Tryd.underlying71, trivial⟩) (trivial)
/-- uint -/
def ti72 : TI := ⟨1, 8, .scalar (.int .u64), [.d (.int .u64) (0 : Int)], some (.int .u64)⟩
theorem ti72_ok : TIok Tryd.prog 72 ti72 := TIok.mk1 (by kernel_rfl) (by kernel_rfl) (by kernel_rfl) (.inr rfl) (⟨Tryd.underlying72, trivial⟩) (⟨by kernel_rfl, by kernel_rfl, by kernel_rfl, by kernel_rfl⟩)
/-- strconv.Error -/
def ti73 : TI := ⟨1, 8, .scalar (.int .i64), [.d (.int .i64) (0 : Int)], some (.int .i64)⟩
theorem ti73_ok : TIok Tryd.prog 73 ti73 := TIok.mk1 (by kernel_rfl) (by kernel_rfl) (by kernel_rfl) (.inr rfl) (⟨Tryd.underlying73, trivial⟩) (⟨by kernel_rfl, by kernel_rfl, by kernel_rfl, by kernel_rfl⟩)
/-- func(string, int, int) (int64, error) -/
def ti75 : TI := ⟨1, 8, .scalar (.func #[9, 3, 3] #[2, 39] false), [.con .nilFunc], none⟩
theorem ti75_ok : TIok Tryd.prog 75 ti75 := TIok.mk1 (by kernel_rfl) (by kernel_rfl) (by kernel_rfl) (.inr rfl) (⟨Tryd.underlying75, trivial⟩) (trivial)
/-- *strconv.NumError -/
def ti76 : TI := ⟨1, 8, .scalar (.pointer 91), [.con (.pointer none)], none⟩
theorem ti76_ok : TIok Tryd.prog 76 ti76 := TIok.mk1 (by kernel_rfl) (by kernel_rfl) (by kernel_rfl) (.inr rfl) (⟨Tryd.underlying76, trivial⟩) (trivial)
/-- func(string, string) *strconv.NumError -/
def ti77 : TI := ⟨1, 8, .scalar (.func #[9, 9] #[76] false), [.con .nilFunc], none⟩
theorem ti77_ok : TIok Tryd.prog 77 ti77 := TIok.mk1 (by kernel_rfl) (by kernel_rfl) (by kernel_rfl) (.inr rfl) (⟨Tryd.underlying77, trivial⟩) (trivial)
/-- func(string, string, int) *strconv.NumError -/
def ti78 : TI := ⟨1, 8, .scalar (.func #[9, 9, 3] #[76] false), [.con .nilFunc], none⟩
theorem ti78_ok : TIok Tryd.prog 78 ti78 := TIok.mk1 (by kernel_rfl) (by kernel_rfl) (by kernel_rfl) (.inr rfl) (⟨Tryd.underlying78, trivial⟩) (trivial)
/-- func(uint8) uint8 -/
def ti79 : TI := ⟨1, 8, .scalar (.func #[5] #[5] false), [.con .nilFunc], none⟩
theorem ti79_ok : TIok Tryd.prog 79 ti79 := TIok.mk1 (by kernel_rfl) (by kernel_rfl) (by kernel_rfl) (.inr rfl) (⟨Tryd.underlying79, trivial⟩) (trivial)
/-- func(string) bool -/
def ti80 : TI := ⟨1, 8, .scalar (.func #[9] #[4] false), [.con .nilFunc], none⟩
theorem ti80_ok : TIok Tryd.prog 80 ti80 := TIok.mk1 (by kernel_rfl) (by kernel_rfl) (by kernel_rfl) (.inr rfl) (⟨Tryd.underlying80, trivial⟩) (trivial)
/-- func(bool) int -/
def ti81 : TI := ⟨1, 8, .scalar (.func #[4] #[3] false), [.con .nilFunc], none⟩
theorem ti81_ok : TIok Tryd.prog 81 ti81 := TIok.mk1 (by kernel_rfl) (by kernel_rfl) (by kernel_rfl) (.inr rfl) (⟨Tryd.underlying81, trivial⟩) (trivial)
/-- [20]uint64 -/
def ti82 : TI := ⟨20, 160, .arr 20 56, [.d (.arr 20 (.int .u64)) (List.replicate 20 (Ty.zero (.int .u64)))], some (.arr 20 (.int .u64))⟩
theorem ti82_ok : TIok Tryd.prog 82 ti82 := TIok.mk1 (by kernel_rfl) (by kernel_rfl) (by kernel_rfl) (.inl rfl) (Tryd.underlying82) (⟨by kernel_rfl, by kernel_rfl, by kernel_rfl, by kernel_rfl⟩)
/-- uint32 -/
def ti83 : TI := ⟨1, 4, .scalar (.int .u32), [.d (.int .u32) (0 : Int)], some (.int .u32)⟩
theorem ti83_ok : TIok Tryd.prog 83 ti83 := TIok.mk1 (by kernel_rfl) (by kernel_rfl) (by kernel_rfl) (.inr rfl) (⟨Tryd.underlying83, trivial⟩) (⟨by kernel_rfl, by kernel_rfl, by kernel_rfl, by kernel_rfl⟩)
/-- [65]uint8 -/
def ti84 : TI := ⟨65, 65, .arr 65 5, [.d (.arr 65 (.int .u8)) (List.replicate 65 (Ty.zero (.int .u8)))], some (.arr 65 (.int .u8))⟩
theorem ti84_ok : TIok Tryd.prog 84 ti84 := TIok.mk1 (by kernel_rfl) (by kernel_rfl) (by kernel_rfl) (.inl rfl) (Tryd.underlying84) (⟨by kernel_rfl, by kernel_rfl, by kernel_rfl, by kernel_rfl⟩)
/-- func(int) bool -/
def ti85 : TI := ⟨1, 8, .scalar (.func #[3] #[4] false), [.con .nilFunc], none⟩
theorem ti85_ok : TIok Tryd.prog 85 ti85 := TIok.mk1 (by kernel_rfl) (by kernel_rfl) (by kernel_rfl) (.inr rfl) (⟨Tryd.underlying85, trivial⟩) (trivial)
/-- func(uint) int -/
def ti86 : TI := ⟨1, 8, .scalar (.func #[72] #[3] false), [.con .nilFunc], none⟩
theorem ti86_ok : TIok Tryd.prog 86 ti86 := TIok.mk1 (by kernel_rfl) (by kernel_rfl) (by kernel_rfl) (.inr rfl) (⟨Tryd.underlying86, trivial⟩) (trivial)
/-- func(string) (uint32, uint32) -/
def ti88 : TI := ⟨1, 8, .scalar (.func #[9] #[83, 83] false), [.con .nilFunc], none⟩
theorem ti88_ok : TIok Tryd.prog 88 ti88 := TIok.mk1 (by kernel_rfl) (by kernel_rfl) (by kernel_rfl) (.inr rfl) (⟨Tryd.underlying88, trivial⟩) (trivial)
/-- func(string) string -/
def ti89 : TI := ⟨1, 8, .scalar (.func #[9] #[9] false), [.con .nilFunc], none⟩
theorem ti89_ok : TIok Tryd.prog 89 ti89 := TIok.mk1 (by kernel_rfl) (by kernel_rfl) (by kernel_rfl) (.inr rfl) (⟨Tryd.underlying89, trivial⟩) (trivial)
/-- struct { Func string; Num string; Err error } -/
def ti90 : TI := ⟨3, 48, .struct [(0, 9), (1, 9), (2, 39)], [.d .str ([] : List Int), .d .str ([] : List Int), .con .nilIface], some (.pair (.str) (.pair (.str) (.err)))⟩
theorem ti90_ok : TIok Tryd.prog 90 ti90 := TIok.mk1 (by kernel_rfl) (by kernel_rfl) (by kernel_rfl) (.inl rfl) (⟨_, Tryd.underlying90, by kernel_rfl⟩) (⟨by kernel_rfl, by kernel_rfl, by kernel_rfl, by kernel_rfl⟩)
/-- strconv.NumError -/
def ti91 : TI := ⟨3, 48, .struct [(0, 9), (1, 9), (2, 39)], [.d .str ([] : List Int), .d .str ([] : List Int), .con .nilIface], some (.pair (.str) (.pair (.str) (.err)))⟩
theorem ti91_ok : TIok Tryd.prog 91 ti91 := TIok.mk1 (by kernel_rfl) (by kernel_rfl) (by kernel_rfl) (.inl rfl) (⟨_, Tryd.underlying91, by kernel_rfl⟩) (⟨by kernel_rfl, by kernel_rfl, by kernel_rfl, by kernel_rfl⟩)
/-- func(string) error -/
def ti92 : TI := ⟨1, 8, .scalar (.func #[9] #[39] false), [.con .nilFunc], none⟩
theorem ti92_ok : TIok Tryd.prog 92 ti92 := TIok.mk1 (by kernel_rfl) (by kernel_rfl) (by kernel_rfl) (.inr rfl) (⟨Tryd.underlying92, trivial⟩) (trivial)
/-- func(uint32) int -/
def ti93 : TI := ⟨1, 8, .scalar (.func #[83] #[3] false), [.con .nilFunc], none⟩
theorem ti93_ok : TIok Tryd.prog 93 ti93 := TIok.mk1 (by kernel_rfl) (by kernel_rfl) (by kernel_rfl) (.inr rfl) (⟨Tryd.underlying93, trivial⟩) (trivial)
/-- *errors.errorString -/
def ti94 : TI := ⟨1, 8, .scalar (.pointer 96), [.con (.pointer none)], none⟩
theorem ti94_ok : TIok Tryd.prog 94 ti94 := TIok.mk1 (by kernel_rfl) (by kernel_rfl) (by kernel_rfl) (.inr rfl) (⟨Tryd.underlying94, trivial⟩) (trivial)
/-- struct { s string } -/
def ti95 : TI := ⟨1, 16, .struct [(0, 9)], [.d .str ([] : List Int)], none⟩
theorem ti95_ok : TIok Tryd.prog 95 ti95 := TIok.mk1 (by kernel_rfl) (by kernel_rfl) (by kernel_rfl) (.inl rfl) (⟨_, Tryd.underlying95, by kernel_rfl⟩) (trivial)
/-- errors.errorString -/
def ti96 : TI := ⟨1, 16, .struct [(0, 9)], [.d .str ([] : List Int)], none⟩
theorem ti96_ok : TIok Tryd.prog 96 ti96 := TIok.mk1 (by kernel_rfl) (by kernel_rfl) (by kernel_rfl) (.inl rfl) (⟨_, Tryd.underlying96, by kernel_rfl⟩) (trivial)
/-- [32]uint8 -/
def ti97 : TI := ⟨32, 32, .arr 32 5, [.d (.arr 32 (.int .u8)) (List.replicate 32 (Ty.zero (.int .u8)))], some (.arr 32 (.int .u8))⟩
theorem ti97_ok : TIok Tryd.prog 97 ti97 := TIok.mk1 (by kernel_rfl) (by kernel_rfl) (by kernel_rfl) (.inl rfl) (Tryd.underlying97) (⟨by kernel_rfl, by kernel_rfl, by kernel_rfl, by kernel_rfl⟩)
/-- [64]uint8 -/
def ti98 : TI := ⟨64, 64, .arr 64 5, [.d (.arr 64 (.int .u8)) (List.replicate 64 (Ty.zero (.int .u8)))], some (.arr 64 (.int .u8))⟩
theorem ti98_ok : TIok Tryd.prog 98 ti98 := TIok.mk1 (by kernel_rfl) (by kernel_rfl) (by kernel_rfl) (.inl rfl) (Tryd.underlying98) (⟨by kernel_rfl, by kernel_rfl, by kernel_rfl, by kernel_rfl⟩)
/-- struct { _interface *abi.Type; concrete *abi.Type; asserted *abi.Type; missingMethod string } -/
def ti99 : TI := ⟨4, 40, .struct [(0, 17), (1, 17), (2, 17), (3, 9)], [.con (.pointer none), .con (.pointer none), .con (.pointer none), .d .str ([] : List Int)], none⟩
theorem ti99_ok : TIok Tryd.prog 99 ti99 := TIok.mk1 (by kernel_rfl) (by kernel_rfl) (by kernel_rfl) (.inl rfl) (⟨_, Tryd.underlying99, by kernel_rfl⟩) (trivial)
/-- runtime.TypeAssertionError -/
def ti100 : TI := ⟨4, 40, .struct [(0, 17), (1, 17), (2, 17), (3, 9)], [.con (.pointer none), .con (.pointer none), .con (.pointer none), .d .str ([] : List Int)], none⟩
theorem ti100_ok : TIok Tryd.prog 100 ti100 := TIok.mk1 (by kernel_rfl) (by kernel_rfl) (by kernel_rfl) (.inl rfl) (⟨_, Tryd.underlying100, by kernel_rfl⟩) (trivial)
/-- func() int -/
def ti104 : TI := ⟨1, 8, .scalar (.func #[] #[3] false), [.con .nilFunc], none⟩
theorem ti104_ok : TIok Tryd.prog 104 ti104 := TIok.mk1 (by kernel_rfl) (by kernel_rfl) (by kernel_rfl) (.inr rfl) (⟨Tryd.underlying104, trivial⟩) (trivial)
/-- abi.TFlag -/
def ti105 : TI := ⟨1, 1, .scalar (.int .u8), [.d (.int .u8) (0 : Int)], some (.int .u8)⟩
theorem ti105_ok : TIok Tryd.prog 105 ti105 := TIok.mk1 (by kernel_rfl) (by kernel_rfl) (by kernel_rfl) (.inr rfl) (⟨Tryd.underlying105, trivial⟩) (⟨by kernel_rfl, by kernel_rfl, by kernel_rfl, by kernel_rfl⟩)
/-- abi.Kind -/
def ti106 : TI := ⟨1, 1, .scalar (.int .u8), [.d (.int .u8) (0 : Int)], some (.int .u8)⟩
theorem ti106_ok : TIok Tryd.prog 106 ti106 := TIok.mk1 (by kernel_rfl) (by kernel_rfl) (by kernel_rfl) (.inr rfl) (⟨Tryd.underlying106, trivial⟩) (⟨by kernel_rfl, by kernel_rfl, by kernel_rfl, by kernel_rfl⟩)
/-- func(unsafe.Pointer, unsafe.Pointer) bool -/
def ti107 : TI := ⟨1, 8, .scalar (.func #[60, 60] #[4] false), [.con .nilFunc], none⟩
theorem ti107_ok : TIok Tryd.prog 107 ti107 := TIok.mk1 (by kernel_rfl) (by kernel_rfl) (by kernel_rfl) (.inr rfl) (⟨Tryd.underlying107, trivial⟩) (trivial)
/-- abi.NameOff -/
def ti108 : TI := ⟨1, 4, .scalar (.int .i32), [.d (.int .i32) (0 : Int)], some (.int .i32)⟩
theorem ti108_ok : TIok Tryd.prog 108 ti108 := TIok.mk1 (by kernel_rfl) (by kernel_rfl) (by kernel_rfl) (.inr rfl) (⟨Tryd.underlying108, trivial⟩) (⟨by kernel_rfl, by kernel_rfl, by kernel_rfl, by kernel_rfl⟩)
/-- abi.TypeOff -/
def ti109 : TI := ⟨1, 4, .scalar (.int .i32), [.d (.int .i32) (0 : Int)], some (.int .i32)⟩
theorem ti109_ok : TIok Tryd.prog 109 ti109 := TIok.mk1 (by kernel_rfl) (by kernel_rfl) (by kernel_rfl) (.inr rfl) (⟨Tryd.underlying109, trivial⟩) (⟨by kernel_rfl, by kernel_rfl, by kernel_rfl, by kernel_rfl⟩)
/-- struct { Size_ uintptr; PtrBytes uintptr; Hash uint32; TFlag abi.TFlag; Align_ uint8; FieldAlign_ uint8; Kind_ abi.Kind; Equal func(unsafe.Pointer, unsafe.Pointer) bool; GCData *uint8; Str abi.NameOff; PtrToThis abi.TypeOff } -/
def ti110 : TI := ⟨11, 48, .struct [(0, 12), (1, 12), (2, 83), (3, 105), (4, 5), (5, 5), (6, 106), (7, 107), (8, 55), (9, 108), (10, 109)], [.d (.int .u64) (0 : Int), .d (.int .u64) (0 : Int), .d (.int .u32) (0 : Int), .d (.int .u8) (0 : Int), .d (.int .u8) (0 : Int), .d (.int .u8) (0 : Int), .d (.int .u8) (0 : Int), .con .nilFunc, .con (.pointer none), .d (.int .i32) (0 : Int), .d (.int .i32) (0 : Int)], none⟩
theorem ti110_ok : TIok Tryd.prog 110 ti110 := TIok.mk1 (by kernel_rfl) (by kernel_rfl) (by kernel_rfl) (.inl rfl) (⟨_, Tryd.underlying110, by kernel_rfl⟩) (trivial)
/-- abi.Type -/
def ti111 : TI := ⟨11, 48, .struct [(0, 12), (1, 12), (2, 83), (3, 105), (4, 5), (5, 5), (6, 106), (7, 107), (8, 55), (9, 108), (10, 109)], [.d (.int .u64) (0 : Int), .d (.int .u64) (0 : Int), .d (.int .u32) (0 : Int), .d (.int .u8) (0 : Int), .d (.int .u8) (0 : Int), .d (.int .u8) (0 : Int), .d (.int .u8) (0 : Int), .con .nilFunc, .con (.pointer none), .d (.int .i32) (0 : Int), .d (.int .i32) (0 : Int)], none⟩
theorem ti111_ok : TIok Tryd.prog 111 ti111 := TIok.mk1 (by kernel_rfl) (by kernel_rfl) (by kernel_rfl) (.inl rfl) (⟨_, Tryd.underlying111, by kernel_rfl⟩) (trivial)
theorem eq30_ok : EqTy Tryd.prog 30 (.pair (.int .i64) (.pair (.int .i64) (.pair (.int .i64) (.int .u8)))) := ⟨(Exists.intro _ (And.intro Tryd.underlying30 (And.intro (by kernel_rfl) (And.intro (by kernel_rfl) (And.intro (by kernel_rfl) (And.intro Tryd.underlying3 (And.intro (by kernel_rfl) (And.intro (by kernel_rfl) (And.intro Tryd.underlying3 (And.intro (by kernel_rfl) (And.intro (by kernel_rfl) (And.intro Tryd.underlying3 (And.intro (by kernel_rfl) (And.intro (by kernel_rfl) Tryd.underlying5)))))))))))))), rfl, rfl, by kernel_rfl, by kernel_rfl⟩
theorem eq65_ok : EqTy Tryd.prog 65 (.arr 24 (.int .u8)) := ⟨(Exists.intro 5 (And.intro Tryd.underlying65 (And.intro (by kernel_rfl) (And.intro (by kernel_rfl) Tryd.underlying5)))), rfl, rfl, by kernel_rfl, by kernel_rfl⟩
theorem eq82_ok : EqTy Tryd.prog 82 (.arr 20 (.int .u64)) := ⟨(Exists.intro 56 (And.intro Tryd.underlying82 (And.intro (by kernel_rfl) (And.intro (by kernel_rfl) Tryd.underlying56)))), rfl, rfl, by kernel_rfl, by kernel_rfl⟩
theorem eq84_ok : EqTy Tryd.prog 84 (.arr 65 (.int .u8)) := ⟨(Exists.intro 5 (And.intro Tryd.underlying84 (And.intro (by kernel_rfl) (And.intro (by kernel_rfl) Tryd.underlying5)))), rfl, rfl, by kernel_rfl, by kernel_rfl⟩
theorem eq97_ok : EqTy Tryd.prog 97 (.arr 32 (.int .u8)) := ⟨(Exists.intro 5 (And.intro Tryd.underlying97 (And.intro (by kernel_rfl) (And.intro (by kernel_rfl) Tryd.underlying5)))), rfl, rfl, by kernel_rfl, by kernel_rfl⟩
theorem eq98_ok : EqTy Tryd.prog 98 (.arr 64 (.int .u8)) := ⟨(Exists.intro 5 (And.intro Tryd.underlying98 (And.intro (by kernel_rfl) (And.intro (by kernel_rfl) Tryd.underlying5)))), rfl, rfl, by kernel_rfl, by kernel_rfl⟩
def env : Env := { tys := [(1, ti1), (2, ti2), (3, ti3), (4, ti4), (5, ti5), (6, ti6), (7, ti7), (8, ti8), (9, ti9), (10, ti10), (11, ti11), (12, ti12), (13, ti13), (14, ti14), (15, ti15), (16, ti16), (17, ti17), (18, ti18), (19, ti19), (21, ti21), (22, ti22), (23, ti23), (25, ti25), (27, ti27), (28, ti28), (29, ti29), (30, ti30), (31, ti31), (32, ti32), (33, ti33), (34, ti34), (35, ti35), (37, ti37), (38, ti38), (39, ti39), (41, ti41), (42, ti42), (43, ti43), (45, ti45), (46, ti46), (47, ti47), (49, ti49), (51, ti51), (52, ti52), (53, ti53), (54, ti54), (55, ti55), (56, ti56), (58, ti58), (59, ti59), (61, ti61), (62, ti62), (63, ti63), (64, ti64), (65, ti65), (66, ti66), (67, ti67), (69, ti69), (70, ti70), (71, ti71), (72, ti72), (73, ti73), (75, ti75), (76, ti76), (77, ti77), (78, ti78), (79, ti79), (80, ti80), (81, ti81), (82, ti82), (83, ti83), (84, ti84), (85, ti85), (86, ti86), (88, ti88), (89, ti89), (90, ti90), (91, ti91), (92, ti92), (93, ti93), (94, ti94), (95, ti95), (96, ti96), (97, ti97), (98, ti98), (99, ti99), (100, ti100), (104, ti104), (105, ti105), (106, ti106), (107, ti107), (108, ti108), (109, ti109), (110, ti110), (111, ti111)], eqs := [(30, .pair (.int .i64) (.pair (.int .i64) (.pair (.int .i64) (.int .u8)))), (65, .arr 24 (.int .u8)), (82, .arr 20 (.int .u64)), (84, .arr 65 (.int .u8)), (97, .arr 32 (.int .u8)), (98, .arr 64 (.int .u8))] }
theorem env_ok : EnvOk Tryd.prog env := envOk_of_all (E := env) ⟨ti1_ok, ⟨ti2_ok, ⟨ti3_ok, ⟨ti4_ok, ⟨ti5_ok, ⟨ti6_ok, ⟨ti7_ok, ⟨ti8_ok, ⟨ti9_ok, ⟨ti10_ok, ⟨ti11_ok, ⟨ti12_ok, ⟨ti13_ok, ⟨ti14_ok, ⟨ti15_ok, ⟨ti16_ok, ⟨ti17_ok, ⟨ti18_ok, ⟨ti19_ok, ⟨ti21_ok, ⟨ti22_ok, ⟨ti23_ok, ⟨ti25_ok, ⟨ti27_ok, ⟨ti28_ok, ⟨ti29_ok, ⟨ti30_ok, ⟨ti31_ok, ⟨ti32_ok, ⟨ti33_ok, ⟨ti34_ok, ⟨ti35_ok, ⟨ti37_ok, ⟨ti38_ok, ⟨ti39_ok, ⟨ti41_ok, ⟨ti42_ok, ⟨ti43_ok, ⟨ti45_ok, ⟨ti46_ok, ⟨ti47_ok, ⟨ti49_ok, ⟨ti51_ok, ⟨ti52_ok, ⟨ti53_ok, ⟨ti54_ok, ⟨ti55_ok, ⟨ti56_ok, ⟨ti58_ok, ⟨ti59_ok, ⟨ti61_ok, ⟨ti62_ok, ⟨ti63_ok, ⟨ti64_ok, ⟨ti65_ok, ⟨ti66_ok, ⟨ti67_ok, ⟨ti69_ok, ⟨ti70_ok, ⟨ti71_ok, ⟨ti72_ok, ⟨ti73_ok, ⟨ti75_ok, ⟨ti76_ok, ⟨ti77_ok, ⟨ti78_ok, ⟨ti79_ok, ⟨ti80_ok, ⟨ti81_ok, ⟨ti82_ok, ⟨ti83_ok, ⟨ti84_ok, ⟨ti85_ok, ⟨ti86_ok, ⟨ti88_ok, ⟨ti89_ok, ⟨ti90_ok, ⟨ti91_ok, ⟨ti92_ok, ⟨ti93_ok, ⟨ti94_ok, ⟨ti95_ok, ⟨ti96_ok, ⟨ti97_ok, ⟨ti98_ok, ⟨ti99_ok, ⟨ti100_ok, ⟨ti104_ok, ⟨ti105_ok, ⟨ti106_ok, ⟨ti107_ok, ⟨ti108_ok, ⟨ti109_ok, ⟨ti110_ok, ⟨ti111_ok, trivial⟩⟩⟩⟩⟩⟩⟩⟩⟩⟩⟩⟩⟩⟩⟩⟩⟩⟩⟩⟩⟩⟩⟩⟩⟩⟩⟩⟩⟩⟩⟩⟩⟩⟩⟩⟩⟩⟩⟩⟩⟩⟩⟩⟩⟩⟩⟩⟩⟩⟩⟩⟩⟩⟩⟩⟩⟩⟩⟩⟩⟩⟩⟩⟩⟩⟩⟩⟩⟩⟩⟩⟩⟩⟩⟩⟩⟩⟩⟩⟩⟩⟩⟩⟩⟩⟩⟩⟩⟩⟩⟩⟩⟩⟩⟩ ⟨eq30_ok, ⟨eq65_ok, ⟨eq82_ok, ⟨eq84_ok, ⟨eq97_ok, ⟨eq98_ok, trivial⟩⟩⟩⟩⟩⟩
end Go.Proofs.YtjafnenkgmbgaaaDoor
