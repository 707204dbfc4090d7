/-
  The types of the translation, as the executor wants them, with the proof that they are as the program says. Written by genenv.py.
-/
import Derived.Test.YtpnmfoojmodnlaaRows
import Derived.Test.YtpnmfoojmodnlaaSxW
namespace Go.Proofs.Ytpnmfoojmodnlaa
open Go.Sx
@[reducible] def tyboundsError : Ty := .pair (.int .i64) (.pair (.int .i64) (.pair (.bool) (.int .u8)))
@[reducible] def tyerrorAddressString : Ty := .pair (.str) (.int .u64)
@[reducible] def tySpan : Ty := .pair (.int .i64) (.int .i64)
@[reducible] def tyFired : Ty := .pair (.int .i64) (.int .i64)
@[reducible] def tyTimerOp : Ty := .pair (.int .i64) (.pair (.int .i64) (.int .i64))
@[reducible] def tyThread : Ty := .pair (.int .i64) (.pair (.int .i64) (.int .i64))
@[reducible] def tythread : Ty := .pair (.pair (.int .i64) (.pair (.int .i64) (.int .i64))) (.pair (.int .i64) (.pair (.int .i64) (.int .i64)))
@[reducible] def tytimer : Ty := .pair (.int .i64) (.int .i64)
/-- func() -/
def ti1 : TI := ⟨1, 8, .scalar (.func #[] #[] false), [.con .nilFunc], none⟩
theorem ti1_ok : TIok Try.prog 1 ti1 := TIok.mk1 (by kernel_rfl) (by kernel_rfl) (by kernel_rfl) (.inr rfl) (⟨Try.underlying1, trivial⟩) (trivial)
/-- int64 -/
def ti2 : TI := ⟨1, 8, .scalar (.int .i64), [.d (.int .i64) (0 : Int)], some (.int .i64)⟩
theorem ti2_ok : TIok Try.prog 2 ti2 := TIok.mk1 (by kernel_rfl) (by kernel_rfl) (by kernel_rfl) (.inr rfl) (⟨Try.underlying2, trivial⟩) (⟨by kernel_rfl, by kernel_rfl, by kernel_rfl, by kernel_rfl⟩)
/-- int -/
def ti3 : TI := ⟨1, 8, .scalar (.int .i64), [.d (.int .i64) (0 : Int)], some (.int .i64)⟩
theorem ti3_ok : TIok Try.prog 3 ti3 := TIok.mk1 (by kernel_rfl) (by kernel_rfl) (by kernel_rfl) (.inr rfl) (⟨Try.underlying3, trivial⟩) (⟨by kernel_rfl, by kernel_rfl, by kernel_rfl, by kernel_rfl⟩)
/-- bool -/
def ti4 : TI := ⟨1, 1, .scalar .bool, [.lit false], some (.bool)⟩
theorem ti4_ok : TIok Try.prog 4 ti4 := TIok.mk1 (by kernel_rfl) (by kernel_rfl) (by kernel_rfl) (.inr rfl) (⟨Try.underlying4, trivial⟩) (⟨by kernel_rfl, by kernel_rfl, by kernel_rfl, by kernel_rfl⟩)
/-- uint8 -/
def ti5 : TI := ⟨1, 1, .scalar (.int .u8), [.d (.int .u8) (0 : Int)], some (.int .u8)⟩
theorem ti5_ok : TIok Try.prog 5 ti5 := TIok.mk1 (by kernel_rfl) (by kernel_rfl) (by kernel_rfl) (.inr rfl) (⟨Try.underlying5, trivial⟩) (⟨by kernel_rfl, by kernel_rfl, by kernel_rfl, by kernel_rfl⟩)
/-- abi.BoundsErrorCode -/
def ti6 : TI := ⟨1, 1, .scalar (.int .u8), [.d (.int .u8) (0 : Int)], some (.int .u8)⟩
theorem ti6_ok : TIok Try.prog 6 ti6 := TIok.mk1 (by kernel_rfl) (by kernel_rfl) (by kernel_rfl) (.inr rfl) (⟨Try.underlying6, trivial⟩) (⟨by kernel_rfl, by kernel_rfl, by kernel_rfl, by kernel_rfl⟩)
/-- struct { x int64; y int; signed bool; code abi.BoundsErrorCode } -/
def ti7 : TI := ⟨4, 24, .struct [(0, 2), (1, 3), (2, 4), (3, 6)], [.d (.int .i64) (0 : Int), .d (.int .i64) (0 : Int), .lit false, .d (.int .u8) (0 : Int)], some (.pair (.int .i64) (.pair (.int .i64) (.pair (.bool) (.int .u8))))⟩
theorem ti7_ok : TIok Try.prog 7 ti7 := TIok.mk1 (by kernel_rfl) (by kernel_rfl) (by kernel_rfl) (.inl rfl) (⟨_, Try.underlying7, by kernel_rfl⟩) (⟨by kernel_rfl, by kernel_rfl, by kernel_rfl, by kernel_rfl⟩)
/-- runtime.boundsError -/
def ti8 : TI := ⟨4, 24, .struct [(0, 2), (1, 3), (2, 4), (3, 6)], [.d (.int .i64) (0 : Int), .d (.int .i64) (0 : Int), .lit false, .d (.int .u8) (0 : Int)], some (.pair (.int .i64) (.pair (.int .i64) (.pair (.bool) (.int .u8))))⟩
theorem ti8_ok : TIok Try.prog 8 ti8 := TIok.mk1 (by kernel_rfl) (by kernel_rfl) (by kernel_rfl) (.inl rfl) (⟨_, Try.underlying8, by kernel_rfl⟩) (⟨by kernel_rfl, by kernel_rfl, by kernel_rfl, by kernel_rfl⟩)
/-- string -/
def ti9 : TI := ⟨1, 16, .scalar .string, [.d .str ([] : List Int)], some (.str)⟩
theorem ti9_ok : TIok Try.prog 9 ti9 := TIok.mk1 (by kernel_rfl) (by kernel_rfl) (by kernel_rfl) (.inr rfl) (⟨Try.underlying9, trivial⟩) (⟨by kernel_rfl, by kernel_rfl, by kernel_rfl, by kernel_rfl⟩)
/-- runtime.errorString -/
def ti10 : TI := ⟨1, 16, .scalar .string, [.d .str ([] : List Int)], some (.str)⟩
theorem ti10_ok : TIok Try.prog 10 ti10 := TIok.mk1 (by kernel_rfl) (by kernel_rfl) (by kernel_rfl) (.inr rfl) (⟨Try.underlying10, trivial⟩) (⟨by kernel_rfl, by kernel_rfl, by kernel_rfl, by kernel_rfl⟩)
/-- runtime.plainError -/
def ti11 : TI := ⟨1, 16, .scalar .string, [.d .str ([] : List Int)], some (.str)⟩
theorem ti11_ok : TIok Try.prog 11 ti11 := TIok.mk1 (by kernel_rfl) (by kernel_rfl) (by kernel_rfl) (.inr rfl) (⟨Try.underlying11, trivial⟩) (⟨by kernel_rfl, by kernel_rfl, by kernel_rfl, by kernel_rfl⟩)
/-- uintptr -/
def ti12 : TI := ⟨1, 8, .scalar (.int .u64), [.d (.int .u64) (0 : Int)], some (.int .u64)⟩
theorem ti12_ok : TIok Try.prog 12 ti12 := TIok.mk1 (by kernel_rfl) (by kernel_rfl) (by kernel_rfl) (.inr rfl) (⟨Try.underlying12, trivial⟩) (⟨by kernel_rfl, by kernel_rfl, by kernel_rfl, by kernel_rfl⟩)
/-- struct { msg string; addr uintptr } -/
def ti13 : TI := ⟨2, 24, .struct [(0, 9), (1, 12)], [.d .str ([] : List Int), .d (.int .u64) (0 : Int)], some (.pair (.str) (.int .u64))⟩
theorem ti13_ok : TIok Try.prog 13 ti13 := TIok.mk1 (by kernel_rfl) (by kernel_rfl) (by kernel_rfl) (.inl rfl) (⟨_, Try.underlying13, by kernel_rfl⟩) (⟨by kernel_rfl, by kernel_rfl, by kernel_rfl, by kernel_rfl⟩)
/-- runtime.errorAddressString -/
def ti14 : TI := ⟨2, 24, .struct [(0, 9), (1, 12)], [.d .str ([] : List Int), .d (.int .u64) (0 : Int)], some (.pair (.str) (.int .u64))⟩
theorem ti14_ok : TIok Try.prog 14 ti14 := TIok.mk1 (by kernel_rfl) (by kernel_rfl) (by kernel_rfl) (.inl rfl) (⟨_, Try.underlying14, by kernel_rfl⟩) (⟨by kernel_rfl, by kernel_rfl, by kernel_rfl, by kernel_rfl⟩)
/-- *runtime.TypeAssertionError -/
def ti15 : TI := ⟨1, 8, .scalar (.pointer 165), [.con (.pointer none)], none⟩
theorem ti15_ok : TIok Try.prog 15 ti15 := TIok.mk1 (by kernel_rfl) (by kernel_rfl) (by kernel_rfl) (.inr rfl) (⟨Try.underlying15, trivial⟩) (trivial)
/-- *runtime.PanicNilError -/
def ti16 : TI := ⟨1, 8, .scalar (.pointer 168), [.con (.pointer none)], none⟩
theorem ti16_ok : TIok Try.prog 16 ti16 := TIok.mk1 (by kernel_rfl) (by kernel_rfl) (by kernel_rfl) (.inr rfl) (⟨Try.underlying16, trivial⟩) (trivial)
/-- *abi.Type -/
def ti17 : TI := ⟨1, 8, .scalar (.pointer 177), [.con (.pointer none)], none⟩
theorem ti17_ok : TIok Try.prog 17 ti17 := TIok.mk1 (by kernel_rfl) (by kernel_rfl) (by kernel_rfl) (.inr rfl) (⟨Try.underlying17, trivial⟩) (trivial)
/-- struct { typ *abi.Type } -/
def ti18 : TI := ⟨1, 8, .struct [(0, 17)], [.con (.pointer none)], none⟩
theorem ti18_ok : TIok Try.prog 18 ti18 := TIok.mk1 (by kernel_rfl) (by kernel_rfl) (by kernel_rfl) (.inl rfl) (⟨_, Try.underlying18, by kernel_rfl⟩) (trivial)
/-- maps.unhashableTypeError -/
def ti19 : TI := ⟨1, 8, .struct [(0, 17)], [.con (.pointer none)], none⟩
theorem ti19_ok : TIok Try.prog 19 ti19 := TIok.mk1 (by kernel_rfl) (by kernel_rfl) (by kernel_rfl) (.inl rfl) (⟨_, Try.underlying19, by kernel_rfl⟩) (trivial)
/-- int32 -/
def ti21 : TI := ⟨1, 4, .scalar (.int .i32), [.d (.int .i32) (0 : Int)], some (.int .i32)⟩
theorem ti21_ok : TIok Try.prog 21 ti21 := TIok.mk1 (by kernel_rfl) (by kernel_rfl) (by kernel_rfl) (.inr rfl) (⟨Try.underlying21, trivial⟩) (⟨by kernel_rfl, by kernel_rfl, by kernel_rfl, by kernel_rfl⟩)
/-- []api.Span -/
def ti22 : TI := ⟨1, 24, .slice 28, [.con (.slice none 0 0)], some (.sl (.pair (.int .i64) (.int .i64)))⟩
theorem ti22_ok : TIok Try.prog 22 ti22 := TIok.mk1 (by kernel_rfl) (by kernel_rfl) (by kernel_rfl) (.inr rfl) (Try.underlying22) (⟨by kernel_rfl, by kernel_rfl, by kernel_rfl, by kernel_rfl⟩)
/-- api.Errno -/
def ti23 : TI := ⟨1, 8, .scalar (.int .i64), [.d (.int .i64) (0 : Int)], some (.int .i64)⟩
theorem ti23_ok : TIok Try.prog 23 ti23 := TIok.mk1 (by kernel_rfl) (by kernel_rfl) (by kernel_rfl) (.inr rfl) (⟨Try.underlying23, trivial⟩) (⟨by kernel_rfl, by kernel_rfl, by kernel_rfl, by kernel_rfl⟩)
/-- func([]api.Span) ([]api.Span, api.Errno) -/
def ti25 : TI := ⟨1, 8, .scalar (.func #[22] #[22, 23] false), [.con .nilFunc], none⟩
theorem ti25_ok : TIok Try.prog 25 ti25 := TIok.mk1 (by kernel_rfl) (by kernel_rfl) (by kernel_rfl) (.inr rfl) (⟨Try.underlying25, trivial⟩) (trivial)
/-- func([]api.Span, []api.Span) bool -/
def ti26 : TI := ⟨1, 8, .scalar (.func #[22, 22] #[4] false), [.con .nilFunc], none⟩
theorem ti26_ok : TIok Try.prog 26 ti26 := TIok.mk1 (by kernel_rfl) (by kernel_rfl) (by kernel_rfl) (.inr rfl) (⟨Try.underlying26, trivial⟩) (trivial)
/-- struct { From int; To int } -/
def ti27 : TI := ⟨2, 16, .struct [(0, 3), (1, 3)], [.d (.int .i64) (0 : Int), .d (.int .i64) (0 : Int)], some (.pair (.int .i64) (.int .i64))⟩
theorem ti27_ok : TIok Try.prog 27 ti27 := TIok.mk1 (by kernel_rfl) (by kernel_rfl) (by kernel_rfl) (.inl rfl) (⟨_, Try.underlying27, by kernel_rfl⟩) (⟨by kernel_rfl, by kernel_rfl, by kernel_rfl, by kernel_rfl⟩)
/-- api.Span -/
def ti28 : TI := ⟨2, 16, .struct [(0, 3), (1, 3)], [.d (.int .i64) (0 : Int), .d (.int .i64) (0 : Int)], some (.pair (.int .i64) (.int .i64))⟩
theorem ti28_ok : TIok Try.prog 28 ti28 := TIok.mk1 (by kernel_rfl) (by kernel_rfl) (by kernel_rfl) (.inl rfl) (⟨_, Try.underlying28, by kernel_rfl⟩) (⟨by kernel_rfl, by kernel_rfl, by kernel_rfl, by kernel_rfl⟩)
/-- func([]api.Span) bool -/
def ti29 : TI := ⟨1, 8, .scalar (.func #[22] #[4] false), [.con .nilFunc], none⟩
theorem ti29_ok : TIok Try.prog 29 ti29 := TIok.mk1 (by kernel_rfl) (by kernel_rfl) (by kernel_rfl) (.inr rfl) (⟨Try.underlying29, trivial⟩) (trivial)
/-- []int -/
def ti30 : TI := ⟨1, 24, .slice 3, [.con (.slice none 0 0)], some (.sl (.int .i64))⟩
theorem ti30_ok : TIok Try.prog 30 ti30 := TIok.mk1 (by kernel_rfl) (by kernel_rfl) (by kernel_rfl) (.inr rfl) (Try.underlying30) (⟨by kernel_rfl, by kernel_rfl, by kernel_rfl, by kernel_rfl⟩)
/-- func(int, []int) (int, api.Errno) -/
def ti32 : TI := ⟨1, 8, .scalar (.func #[3, 30] #[3, 23] false), [.con .nilFunc], none⟩
theorem ti32_ok : TIok Try.prog 32 ti32 := TIok.mk1 (by kernel_rfl) (by kernel_rfl) (by kernel_rfl) (.inr rfl) (⟨Try.underlying32, trivial⟩) (trivial)
/-- func(int, []int) ([]int, api.Errno) -/
def ti34 : TI := ⟨1, 8, .scalar (.func #[3, 30] #[30, 23] false), [.con .nilFunc], none⟩
theorem ti34_ok : TIok Try.prog 34 ti34 := TIok.mk1 (by kernel_rfl) (by kernel_rfl) (by kernel_rfl) (.inr rfl) (⟨Try.underlying34, trivial⟩) (trivial)
/-- func([]int) api.Errno -/
def ti35 : TI := ⟨1, 8, .scalar (.func #[30] #[23] false), [.con .nilFunc], none⟩
theorem ti35_ok : TIok Try.prog 35 ti35 := TIok.mk1 (by kernel_rfl) (by kernel_rfl) (by kernel_rfl) (.inr rfl) (⟨Try.underlying35, trivial⟩) (trivial)
/-- func(int, []int) int -/
def ti36 : TI := ⟨1, 8, .scalar (.func #[3, 30] #[3] false), [.con .nilFunc], none⟩
theorem ti36_ok : TIok Try.prog 36 ti36 := TIok.mk1 (by kernel_rfl) (by kernel_rfl) (by kernel_rfl) (.inr rfl) (⟨Try.underlying36, trivial⟩) (trivial)
/-- func(int, []int) ([]int, []int) -/
def ti38 : TI := ⟨1, 8, .scalar (.func #[3, 30] #[30, 30] false), [.con .nilFunc], none⟩
theorem ti38_ok : TIok Try.prog 38 ti38 := TIok.mk1 (by kernel_rfl) (by kernel_rfl) (by kernel_rfl) (.inr rfl) (⟨Try.underlying38, trivial⟩) (trivial)
/-- func([]int, []int) bool -/
def ti39 : TI := ⟨1, 8, .scalar (.func #[30, 30] #[4] false), [.con .nilFunc], none⟩
theorem ti39_ok : TIok Try.prog 39 ti39 := TIok.mk1 (by kernel_rfl) (by kernel_rfl) (by kernel_rfl) (.inr rfl) (⟨Try.underlying39, trivial⟩) (trivial)
/-- func(...[]int) []int -/
def ti40 : TI := ⟨1, 8, .scalar (.func #[54] #[30] true), [.con .nilFunc], none⟩
theorem ti40_ok : TIok Try.prog 40 ti40 := TIok.mk1 (by kernel_rfl) (by kernel_rfl) (by kernel_rfl) (.inr rfl) (⟨Try.underlying40, trivial⟩) (trivial)
/-- func(int, []int) []int -/
def ti41 : TI := ⟨1, 8, .scalar (.func #[3, 30] #[30] false), [.con .nilFunc], none⟩
theorem ti41_ok : TIok Try.prog 41 ti41 := TIok.mk1 (by kernel_rfl) (by kernel_rfl) (by kernel_rfl) (.inr rfl) (⟨Try.underlying41, trivial⟩) (trivial)
/-- func(int, []int) bool -/
def ti42 : TI := ⟨1, 8, .scalar (.func #[3, 30] #[4] false), [.con .nilFunc], none⟩
theorem ti42_ok : TIok Try.prog 42 ti42 := TIok.mk1 (by kernel_rfl) (by kernel_rfl) (by kernel_rfl) (.inr rfl) (⟨Try.underlying42, trivial⟩) (trivial)
/-- []api.TimerOp -/
def ti43 : TI := ⟨1, 24, .slice 87, [.con (.slice none 0 0)], some (.sl (.pair (.int .i64) (.pair (.int .i64) (.int .i64))))⟩
theorem ti43_ok : TIok Try.prog 43 ti43 := TIok.mk1 (by kernel_rfl) (by kernel_rfl) (by kernel_rfl) (.inr rfl) (Try.underlying43) (⟨by kernel_rfl, by kernel_rfl, by kernel_rfl, by kernel_rfl⟩)
/-- []api.Errno -/
def ti44 : TI := ⟨1, 24, .slice 23, [.con (.slice none 0 0)], some (.sl (.int .i64))⟩
theorem ti44_ok : TIok Try.prog 44 ti44 := TIok.mk1 (by kernel_rfl) (by kernel_rfl) (by kernel_rfl) (.inr rfl) (Try.underlying44) (⟨by kernel_rfl, by kernel_rfl, by kernel_rfl, by kernel_rfl⟩)
/-- []api.Fired -/
def ti45 : TI := ⟨1, 24, .slice 51, [.con (.slice none 0 0)], some (.sl (.pair (.int .i64) (.int .i64)))⟩
theorem ti45_ok : TIok Try.prog 45 ti45 := TIok.mk1 (by kernel_rfl) (by kernel_rfl) (by kernel_rfl) (.inr rfl) (Try.underlying45) (⟨by kernel_rfl, by kernel_rfl, by kernel_rfl, by kernel_rfl⟩)
/-- func([]api.TimerOp) ([]api.Errno, []api.Fired, int, api.Errno) -/
def ti47 : TI := ⟨1, 8, .scalar (.func #[43] #[44, 45, 3, 23] false), [.con .nilFunc], none⟩
theorem ti47_ok : TIok Try.prog 47 ti47 := TIok.mk1 (by kernel_rfl) (by kernel_rfl) (by kernel_rfl) (.inr rfl) (⟨Try.underlying47, trivial⟩) (trivial)
/-- func([]api.Errno, []api.Errno) bool -/
def ti48 : TI := ⟨1, 8, .scalar (.func #[44, 44] #[4] false), [.con .nilFunc], none⟩
theorem ti48_ok : TIok Try.prog 48 ti48 := TIok.mk1 (by kernel_rfl) (by kernel_rfl) (by kernel_rfl) (.inr rfl) (⟨Try.underlying48, trivial⟩) (trivial)
/-- func([]api.Fired, []api.Fired) bool -/
def ti49 : TI := ⟨1, 8, .scalar (.func #[45, 45] #[4] false), [.con .nilFunc], none⟩
theorem ti49_ok : TIok Try.prog 49 ti49 := TIok.mk1 (by kernel_rfl) (by kernel_rfl) (by kernel_rfl) (.inr rfl) (⟨Try.underlying49, trivial⟩) (trivial)
/-- struct { At int; Id int } -/
def ti50 : TI := ⟨2, 16, .struct [(0, 3), (1, 3)], [.d (.int .i64) (0 : Int), .d (.int .i64) (0 : Int)], some (.pair (.int .i64) (.int .i64))⟩
theorem ti50_ok : TIok Try.prog 50 ti50 := TIok.mk1 (by kernel_rfl) (by kernel_rfl) (by kernel_rfl) (.inl rfl) (⟨_, Try.underlying50, by kernel_rfl⟩) (⟨by kernel_rfl, by kernel_rfl, by kernel_rfl, by kernel_rfl⟩)
/-- api.Fired -/
def ti51 : TI := ⟨2, 16, .struct [(0, 3), (1, 3)], [.d (.int .i64) (0 : Int), .d (.int .i64) (0 : Int)], some (.pair (.int .i64) (.int .i64))⟩
theorem ti51_ok : TIok Try.prog 51 ti51 := TIok.mk1 (by kernel_rfl) (by kernel_rfl) (by kernel_rfl) (.inl rfl) (⟨_, Try.underlying51, by kernel_rfl⟩) (⟨by kernel_rfl, by kernel_rfl, by kernel_rfl, by kernel_rfl⟩)
/-- func([]api.TimerOp) bool -/
def ti52 : TI := ⟨1, 8, .scalar (.func #[43] #[4] false), [.con .nilFunc], none⟩
theorem ti52_ok : TIok Try.prog 52 ti52 := TIok.mk1 (by kernel_rfl) (by kernel_rfl) (by kernel_rfl) (.inr rfl) (⟨Try.underlying52, trivial⟩) (trivial)
/-- []api.Thread -/
def ti53 : TI := ⟨1, 24, .slice 93, [.con (.slice none 0 0)], some (.sl (.pair (.int .i64) (.pair (.int .i64) (.int .i64))))⟩
theorem ti53_ok : TIok Try.prog 53 ti53 := TIok.mk1 (by kernel_rfl) (by kernel_rfl) (by kernel_rfl) (.inr rfl) (Try.underlying53) (⟨by kernel_rfl, by kernel_rfl, by kernel_rfl, by kernel_rfl⟩)
/-- [][]int -/
def ti54 : TI := ⟨1, 24, .slice 30, [.con (.slice none 0 0)], some (.sl (.sl (.int .i64)))⟩
theorem ti54_ok : TIok Try.prog 54 ti54 := TIok.mk1 (by kernel_rfl) (by kernel_rfl) (by kernel_rfl) (.inr rfl) (Try.underlying54) (⟨by kernel_rfl, by kernel_rfl, by kernel_rfl, by kernel_rfl⟩)
/-- func(int, int, []api.Thread, int) ([][]int, api.Errno) -/
def ti56 : TI := ⟨1, 8, .scalar (.func #[3, 3, 53, 3] #[54, 23] false), [.con .nilFunc], none⟩
theorem ti56_ok : TIok Try.prog 56 ti56 := TIok.mk1 (by kernel_rfl) (by kernel_rfl) (by kernel_rfl) (.inr rfl) (⟨Try.underlying56, trivial⟩) (trivial)
/-- func(int, int, []api.Thread) api.Errno -/
def ti57 : TI := ⟨1, 8, .scalar (.func #[3, 3, 53] #[23] false), [.con .nilFunc], none⟩
theorem ti57_ok : TIok Try.prog 57 ti57 := TIok.mk1 (by kernel_rfl) (by kernel_rfl) (by kernel_rfl) (.inr rfl) (⟨Try.underlying57, trivial⟩) (trivial)
/-- func([][]int, [][]int, func([]int, []int) bool) bool -/
def ti58 : TI := ⟨1, 8, .scalar (.func #[54, 54, 39] #[4] false), [.con .nilFunc], none⟩
theorem ti58_ok : TIok Try.prog 58 ti58 := TIok.mk1 (by kernel_rfl) (by kernel_rfl) (by kernel_rfl) (.inr rfl) (⟨Try.underlying58, trivial⟩) (trivial)
/-- func(int, int, []api.Thread, int) [][]int -/
def ti59 : TI := ⟨1, 8, .scalar (.func #[3, 3, 53, 3] #[54] false), [.con .nilFunc], none⟩
theorem ti59_ok : TIok Try.prog 59 ti59 := TIok.mk1 (by kernel_rfl) (by kernel_rfl) (by kernel_rfl) (.inr rfl) (⟨Try.underlying59, trivial⟩) (trivial)
/-- func(int, int, []api.Thread, int) bool -/
def ti60 : TI := ⟨1, 8, .scalar (.func #[3, 3, 53, 3] #[4] false), [.con .nilFunc], none⟩
theorem ti60_ok : TIok Try.prog 60 ti60 := TIok.mk1 (by kernel_rfl) (by kernel_rfl) (by kernel_rfl) (.inr rfl) (⟨Try.underlying60, trivial⟩) (trivial)
/-- func(iter.Seq[corebell/api.Span], func(api.Span, api.Span) int) []api.Span -/
def ti61 : TI := ⟨1, 8, .scalar (.func #[63, 65] #[22] false), [.con .nilFunc], none⟩
theorem ti61_ok : TIok Try.prog 61 ti61 := TIok.mk1 (by kernel_rfl) (by kernel_rfl) (by kernel_rfl) (.inr rfl) (⟨Try.underlying61, trivial⟩) (trivial)
/-- func(func(api.Span) bool) -/
def ti62 : TI := ⟨1, 8, .scalar (.func #[103] #[] false), [.con .nilFunc], none⟩
theorem ti62_ok : TIok Try.prog 62 ti62 := TIok.mk1 (by kernel_rfl) (by kernel_rfl) (by kernel_rfl) (.inr rfl) (⟨Try.underlying62, trivial⟩) (trivial)
/-- iter.Seq[corebell/api.Span] -/
def ti63 : TI := ⟨1, 8, .scalar (.func #[103] #[] false), [.con .nilFunc], none⟩
theorem ti63_ok : TIok Try.prog 63 ti63 := TIok.mk1 (by kernel_rfl) (by kernel_rfl) (by kernel_rfl) (.inr rfl) (⟨Try.underlying63, trivial⟩) (trivial)
/-- func([]api.Span) iter.Seq[corebell/api.Span] -/
def ti64 : TI := ⟨1, 8, .scalar (.func #[22] #[63] false), [.con .nilFunc], none⟩
theorem ti64_ok : TIok Try.prog 64 ti64 := TIok.mk1 (by kernel_rfl) (by kernel_rfl) (by kernel_rfl) (.inr rfl) (⟨Try.underlying64, trivial⟩) (trivial)
/-- func(api.Span, api.Span) int -/
def ti65 : TI := ⟨1, 8, .scalar (.func #[28, 28] #[3] false), [.con .nilFunc], none⟩
theorem ti65_ok : TIok Try.prog 65 ti65 := TIok.mk1 (by kernel_rfl) (by kernel_rfl) (by kernel_rfl) (.inr rfl) (⟨Try.underlying65, trivial⟩) (trivial)
/-- func([]api.Span, func(api.Span, api.Span) int) -/
def ti66 : TI := ⟨1, 8, .scalar (.func #[22, 65] #[] false), [.con .nilFunc], none⟩
theorem ti66_ok : TIok Try.prog 66 ti66 := TIok.mk1 (by kernel_rfl) (by kernel_rfl) (by kernel_rfl) (.inr rfl) (⟨Try.underlying66, trivial⟩) (trivial)
/-- func(iter.Seq[int]) []int -/
def ti67 : TI := ⟨1, 8, .scalar (.func #[69] #[30] false), [.con .nilFunc], none⟩
theorem ti67_ok : TIok Try.prog 67 ti67 := TIok.mk1 (by kernel_rfl) (by kernel_rfl) (by kernel_rfl) (.inr rfl) (⟨Try.underlying67, trivial⟩) (trivial)
/-- func(func(int) bool) -/
def ti68 : TI := ⟨1, 8, .scalar (.func #[76] #[] false), [.con .nilFunc], none⟩
theorem ti68_ok : TIok Try.prog 68 ti68 := TIok.mk1 (by kernel_rfl) (by kernel_rfl) (by kernel_rfl) (.inr rfl) (⟨Try.underlying68, trivial⟩) (trivial)
/-- iter.Seq[int] -/
def ti69 : TI := ⟨1, 8, .scalar (.func #[76] #[] false), [.con .nilFunc], none⟩
theorem ti69_ok : TIok Try.prog 69 ti69 := TIok.mk1 (by kernel_rfl) (by kernel_rfl) (by kernel_rfl) (.inr rfl) (⟨Try.underlying69, trivial⟩) (trivial)
/-- func([]int) iter.Seq[int] -/
def ti70 : TI := ⟨1, 8, .scalar (.func #[30] #[69] false), [.con .nilFunc], none⟩
theorem ti70_ok : TIok Try.prog 70 ti70 := TIok.mk1 (by kernel_rfl) (by kernel_rfl) (by kernel_rfl) (.inr rfl) (⟨Try.underlying70, trivial⟩) (trivial)
/-- func([]int, int) (int, bool) -/
def ti72 : TI := ⟨1, 8, .scalar (.func #[30, 3] #[3, 4] false), [.con .nilFunc], none⟩
theorem ti72_ok : TIok Try.prog 72 ti72 := TIok.mk1 (by kernel_rfl) (by kernel_rfl) (by kernel_rfl) (.inr rfl) (⟨Try.underlying72, trivial⟩) (trivial)
/-- func([]int) []int -/
def ti73 : TI := ⟨1, 8, .scalar (.func #[30] #[30] false), [.con .nilFunc], none⟩
theorem ti73_ok : TIok Try.prog 73 ti73 := TIok.mk1 (by kernel_rfl) (by kernel_rfl) (by kernel_rfl) (.inr rfl) (⟨Try.underlying73, trivial⟩) (trivial)
/-- func([]int) -/
def ti74 : TI := ⟨1, 8, .scalar (.func #[30] #[] false), [.con .nilFunc], none⟩
theorem ti74_ok : TIok Try.prog 74 ti74 := TIok.mk1 (by kernel_rfl) (by kernel_rfl) (by kernel_rfl) (.inr rfl) (⟨Try.underlying74, trivial⟩) (trivial)
/-- func([]int, func(int) bool) bool -/
def ti75 : TI := ⟨1, 8, .scalar (.func #[30, 76] #[4] false), [.con .nilFunc], none⟩
theorem ti75_ok : TIok Try.prog 75 ti75 := TIok.mk1 (by kernel_rfl) (by kernel_rfl) (by kernel_rfl) (.inr rfl) (⟨Try.underlying75, trivial⟩) (trivial)
/-- func(int) bool -/
def ti76 : TI := ⟨1, 8, .scalar (.func #[3] #[4] false), [.con .nilFunc], none⟩
theorem ti76_ok : TIok Try.prog 76 ti76 := TIok.mk1 (by kernel_rfl) (by kernel_rfl) (by kernel_rfl) (.inr rfl) (⟨Try.underlying76, trivial⟩) (trivial)
/-- func([]int, int) []int -/
def ti77 : TI := ⟨1, 8, .scalar (.func #[30, 3] #[30] false), [.con .nilFunc], none⟩
theorem ti77_ok : TIok Try.prog 77 ti77 := TIok.mk1 (by kernel_rfl) (by kernel_rfl) (by kernel_rfl) (.inr rfl) (⟨Try.underlying77, trivial⟩) (trivial)
/-- func([]int) int -/
def ti78 : TI := ⟨1, 8, .scalar (.func #[30] #[3] false), [.con .nilFunc], none⟩
theorem ti78_ok : TIok Try.prog 78 ti78 := TIok.mk1 (by kernel_rfl) (by kernel_rfl) (by kernel_rfl) (.inr rfl) (⟨Try.underlying78, trivial⟩) (trivial)
/-- *wheel.wheels -/
def ti79 : TI := ⟨1, 8, .scalar (.pointer 85), [.con (.pointer none)], none⟩
theorem ti79_ok : TIok Try.prog 79 ti79 := TIok.mk1 (by kernel_rfl) (by kernel_rfl) (by kernel_rfl) (.inr rfl) (⟨Try.underlying79, trivial⟩) (trivial)
/-- map[int]int -/
def ti80 : TI := ⟨1, 8, .scalar (.map 3 3), [.con (.map none)], none⟩
theorem ti80_ok : TIok Try.prog 80 ti80 := TIok.mk1 (by kernel_rfl) (by kernel_rfl) (by kernel_rfl) (.inr rfl) (⟨Try.underlying80, trivial⟩) (trivial)
/-- []wheel.timer -/
def ti81 : TI := ⟨1, 24, .slice 112, [.con (.slice none 0 0)], some (.sl (.pair (.int .i64) (.int .i64)))⟩
theorem ti81_ok : TIok Try.prog 81 ti81 := TIok.mk1 (by kernel_rfl) (by kernel_rfl) (by kernel_rfl) (.inr rfl) (Try.underlying81) (⟨by kernel_rfl, by kernel_rfl, by kernel_rfl, by kernel_rfl⟩)
/-- [8][]wheel.timer -/
def ti82 : TI := ⟨8, 192, .arr 8 81, [.con (.slice none 0 0), .con (.slice none 0 0), .con (.slice none 0 0), .con (.slice none 0 0), .con (.slice none 0 0), .con (.slice none 0 0), .con (.slice none 0 0), .con (.slice none 0 0)], some (.arr 8 (.sl (.pair (.int .i64) (.int .i64))))⟩
theorem ti82_ok : TIok Try.prog 82 ti82 := TIok.mk1 (by kernel_rfl) (by kernel_rfl) (by kernel_rfl) (.inl rfl) (Try.underlying82) (⟨by kernel_rfl, by kernel_rfl, by kernel_rfl, by kernel_rfl⟩)
/-- [3][8][]wheel.timer -/
def ti83 : TI := ⟨24, 576, .arr 3 82, [.con (.slice none 0 0), .con (.slice none 0 0), .con (.slice none 0 0), .con (.slice none 0 0), .con (.slice none 0 0), .con (.slice none 0 0), .con (.slice none 0 0), .con (.slice none 0 0), .con (.slice none 0 0), .con (.slice none 0 0), .con (.slice none 0 0), .con (.slice none 0 0), .con (.slice none 0 0), .con (.slice none 0 0), .con (.slice none 0 0), .con (.slice none 0 0), .con (.slice none 0 0), .con (.slice none 0 0), .con (.slice none 0 0), .con (.slice none 0 0), .con (.slice none 0 0), .con (.slice none 0 0), .con (.slice none 0 0), .con (.slice none 0 0)], some (.arr 3 (.arr 8 (.sl (.pair (.int .i64) (.int .i64)))))⟩
theorem ti83_ok : TIok Try.prog 83 ti83 := TIok.mk1 (by kernel_rfl) (by kernel_rfl) (by kernel_rfl) (.inl rfl) (Try.underlying83) (⟨by kernel_rfl, by kernel_rfl, by kernel_rfl, by kernel_rfl⟩)
/-- struct { now int; on [3][8][]wheel.timer; places map[int]int; fired []api.Fired } -/
def ti84 : TI := ⟨27, 616, .struct [(0, 3), (1, 83), (25, 80), (26, 45)], [.d (.int .i64) (0 : Int), .con (.slice none 0 0), .con (.slice none 0 0), .con (.slice none 0 0), .con (.slice none 0 0), .con (.slice none 0 0), .con (.slice none 0 0), .con (.slice none 0 0), .con (.slice none 0 0), .con (.slice none 0 0), .con (.slice none 0 0), .con (.slice none 0 0), .con (.slice none 0 0), .con (.slice none 0 0), .con (.slice none 0 0), .con (.slice none 0 0), .con (.slice none 0 0), .con (.slice none 0 0), .con (.slice none 0 0), .con (.slice none 0 0), .con (.slice none 0 0), .con (.slice none 0 0), .con (.slice none 0 0), .con (.slice none 0 0), .con (.slice none 0 0), .con (.map none), .con (.slice none 0 0)], none⟩
theorem ti84_ok : TIok Try.prog 84 ti84 := TIok.mk1 (by kernel_rfl) (by kernel_rfl) (by kernel_rfl) (.inl rfl) (⟨_, Try.underlying84, by kernel_rfl⟩) (trivial)
/-- wheel.wheels -/
def ti85 : TI := ⟨27, 616, .struct [(0, 3), (1, 83), (25, 80), (26, 45)], [.d (.int .i64) (0 : Int), .con (.slice none 0 0), .con (.slice none 0 0), .con (.slice none 0 0), .con (.slice none 0 0), .con (.slice none 0 0), .con (.slice none 0 0), .con (.slice none 0 0), .con (.slice none 0 0), .con (.slice none 0 0), .con (.slice none 0 0), .con (.slice none 0 0), .con (.slice none 0 0), .con (.slice none 0 0), .con (.slice none 0 0), .con (.slice none 0 0), .con (.slice none 0 0), .con (.slice none 0 0), .con (.slice none 0 0), .con (.slice none 0 0), .con (.slice none 0 0), .con (.slice none 0 0), .con (.slice none 0 0), .con (.slice none 0 0), .con (.slice none 0 0), .con (.map none), .con (.slice none 0 0)], none⟩
theorem ti85_ok : TIok Try.prog 85 ti85 := TIok.mk1 (by kernel_rfl) (by kernel_rfl) (by kernel_rfl) (.inl rfl) (⟨_, Try.underlying85, by kernel_rfl⟩) (trivial)
/-- struct { Kind int; Id int; Ticks int } -/
def ti86 : TI := ⟨3, 24, .struct [(0, 3), (1, 3), (2, 3)], [.d (.int .i64) (0 : Int), .d (.int .i64) (0 : Int), .d (.int .i64) (0 : Int)], some (.pair (.int .i64) (.pair (.int .i64) (.int .i64)))⟩
theorem ti86_ok : TIok Try.prog 86 ti86 := TIok.mk1 (by kernel_rfl) (by kernel_rfl) (by kernel_rfl) (.inl rfl) (⟨_, Try.underlying86, by kernel_rfl⟩) (⟨by kernel_rfl, by kernel_rfl, by kernel_rfl, by kernel_rfl⟩)
/-- api.TimerOp -/
def ti87 : TI := ⟨3, 24, .struct [(0, 3), (1, 3), (2, 3)], [.d (.int .i64) (0 : Int), .d (.int .i64) (0 : Int), .d (.int .i64) (0 : Int)], some (.pair (.int .i64) (.pair (.int .i64) (.int .i64)))⟩
theorem ti87_ok : TIok Try.prog 87 ti87 := TIok.mk1 (by kernel_rfl) (by kernel_rfl) (by kernel_rfl) (.inl rfl) (⟨_, Try.underlying87, by kernel_rfl⟩) (⟨by kernel_rfl, by kernel_rfl, by kernel_rfl, by kernel_rfl⟩)
/-- func(api.TimerOp) api.Errno -/
def ti88 : TI := ⟨1, 8, .scalar (.func #[87] #[23] false), [.con .nilFunc], none⟩
theorem ti88_ok : TIok Try.prog 88 ti88 := TIok.mk1 (by kernel_rfl) (by kernel_rfl) (by kernel_rfl) (.inr rfl) (⟨Try.underlying88, trivial⟩) (trivial)
/-- func([]api.Fired, func(api.Fired, api.Fired) int) -/
def ti89 : TI := ⟨1, 8, .scalar (.func #[45, 90] #[] false), [.con .nilFunc], none⟩
theorem ti89_ok : TIok Try.prog 89 ti89 := TIok.mk1 (by kernel_rfl) (by kernel_rfl) (by kernel_rfl) (.inr rfl) (⟨Try.underlying89, trivial⟩) (trivial)
/-- func(api.Fired, api.Fired) int -/
def ti90 : TI := ⟨1, 8, .scalar (.func #[51, 51] #[3] false), [.con .nilFunc], none⟩
theorem ti90_ok : TIok Try.prog 90 ti90 := TIok.mk1 (by kernel_rfl) (by kernel_rfl) (by kernel_rfl) (.inr rfl) (⟨Try.underlying90, trivial⟩) (trivial)
/-- []*cores.thread -/
def ti91 : TI := ⟨1, 24, .slice 94, [.con (.slice none 0 0)], some (.sl (.ref 0))⟩
theorem ti91_ok : TIok Try.prog 91 ti91 := TIok.mk1 (by kernel_rfl) (by kernel_rfl) (by kernel_rfl) (.inr rfl) (Try.underlying91) (⟨by kernel_rfl, by kernel_rfl, by kernel_rfl, by kernel_rfl⟩)
/-- struct { Come int; Level int; Work int } -/
def ti92 : TI := ⟨3, 24, .struct [(0, 3), (1, 3), (2, 3)], [.d (.int .i64) (0 : Int), .d (.int .i64) (0 : Int), .d (.int .i64) (0 : Int)], some (.pair (.int .i64) (.pair (.int .i64) (.int .i64)))⟩
theorem ti92_ok : TIok Try.prog 92 ti92 := TIok.mk1 (by kernel_rfl) (by kernel_rfl) (by kernel_rfl) (.inl rfl) (⟨_, Try.underlying92, by kernel_rfl⟩) (⟨by kernel_rfl, by kernel_rfl, by kernel_rfl, by kernel_rfl⟩)
/-- api.Thread -/
def ti93 : TI := ⟨3, 24, .struct [(0, 3), (1, 3), (2, 3)], [.d (.int .i64) (0 : Int), .d (.int .i64) (0 : Int), .d (.int .i64) (0 : Int)], some (.pair (.int .i64) (.pair (.int .i64) (.int .i64)))⟩
theorem ti93_ok : TIok Try.prog 93 ti93 := TIok.mk1 (by kernel_rfl) (by kernel_rfl) (by kernel_rfl) (.inl rfl) (⟨_, Try.underlying93, by kernel_rfl⟩) (⟨by kernel_rfl, by kernel_rfl, by kernel_rfl, by kernel_rfl⟩)
/-- *cores.thread -/
def ti94 : TI := ⟨1, 8, .scalar (.pointer 96), [.d (.ref 0) (-1 : Int)], some (.ref 0)⟩
theorem ti94_ok : TIok Try.prog 94 ti94 := TIok.mk1 (by kernel_rfl) (by kernel_rfl) (by kernel_rfl) (.inr rfl) (⟨Try.underlying94, trivial⟩) (⟨by kernel_rfl, by kernel_rfl, by kernel_rfl, by kernel_rfl⟩)
/-- struct { api.Thread; id int; turn int; used int } -/
def ti95 : TI := ⟨6, 48, .struct [(0, 93), (3, 3), (4, 3), (5, 3)], [.d (.int .i64) (0 : Int), .d (.int .i64) (0 : Int), .d (.int .i64) (0 : Int), .d (.int .i64) (0 : Int), .d (.int .i64) (0 : Int), .d (.int .i64) (0 : Int)], some (.pair (.pair (.int .i64) (.pair (.int .i64) (.int .i64))) (.pair (.int .i64) (.pair (.int .i64) (.int .i64))))⟩
theorem ti95_ok : TIok Try.prog 95 ti95 := TIok.mk1 (by kernel_rfl) (by kernel_rfl) (by kernel_rfl) (.inl rfl) (⟨_, Try.underlying95, by kernel_rfl⟩) (⟨by kernel_rfl, by kernel_rfl, by kernel_rfl, by kernel_rfl⟩)
/-- cores.thread -/
def ti96 : TI := ⟨6, 48, .struct [(0, 93), (3, 3), (4, 3), (5, 3)], [.d (.int .i64) (0 : Int), .d (.int .i64) (0 : Int), .d (.int .i64) (0 : Int), .d (.int .i64) (0 : Int), .d (.int .i64) (0 : Int), .d (.int .i64) (0 : Int)], some (.pair (.pair (.int .i64) (.pair (.int .i64) (.int .i64))) (.pair (.int .i64) (.pair (.int .i64) (.int .i64))))⟩
theorem ti96_ok : TIok Try.prog 96 ti96 := TIok.mk1 (by kernel_rfl) (by kernel_rfl) (by kernel_rfl) (.inl rfl) (⟨_, Try.underlying96, by kernel_rfl⟩) (⟨by kernel_rfl, by kernel_rfl, by kernel_rfl, by kernel_rfl⟩)
/-- func([]*cores.thread, func(*cores.thread, *cores.thread) int) -/
def ti97 : TI := ⟨1, 8, .scalar (.func #[91, 100] #[] false), [.con .nilFunc], none⟩
theorem ti97_ok : TIok Try.prog 97 ti97 := TIok.mk1 (by kernel_rfl) (by kernel_rfl) (by kernel_rfl) (.inr rfl) (⟨Try.underlying97, trivial⟩) (trivial)
/-- func(...int) int -/
def ti98 : TI := ⟨1, 8, .scalar (.func #[30] #[3] true), [.con .nilFunc], none⟩
theorem ti98_ok : TIok Try.prog 98 ti98 := TIok.mk1 (by kernel_rfl) (by kernel_rfl) (by kernel_rfl) (.inr rfl) (⟨Try.underlying98, trivial⟩) (trivial)
/-- func(int, int) int -/
def ti99 : TI := ⟨1, 8, .scalar (.func #[3, 3] #[3] false), [.con .nilFunc], none⟩
theorem ti99_ok : TIok Try.prog 99 ti99 := TIok.mk1 (by kernel_rfl) (by kernel_rfl) (by kernel_rfl) (.inr rfl) (⟨Try.underlying99, trivial⟩) (trivial)
/-- func(*cores.thread, *cores.thread) int -/
def ti100 : TI := ⟨1, 8, .scalar (.func #[94, 94] #[3] false), [.con .nilFunc], none⟩
theorem ti100_ok : TIok Try.prog 100 ti100 := TIok.mk1 (by kernel_rfl) (by kernel_rfl) (by kernel_rfl) (.inr rfl) (⟨Try.underlying100, trivial⟩) (trivial)
/-- func([]int, func(int) bool) []int -/
def ti101 : TI := ⟨1, 8, .scalar (.func #[30, 76] #[30] false), [.con .nilFunc], none⟩
theorem ti101_ok : TIok Try.prog 101 ti101 := TIok.mk1 (by kernel_rfl) (by kernel_rfl) (by kernel_rfl) (.inr rfl) (⟨Try.underlying101, trivial⟩) (trivial)
/-- func(iter.Seq[corebell/api.Span]) []api.Span -/
def ti102 : TI := ⟨1, 8, .scalar (.func #[63] #[22] false), [.con .nilFunc], none⟩
theorem ti102_ok : TIok Try.prog 102 ti102 := TIok.mk1 (by kernel_rfl) (by kernel_rfl) (by kernel_rfl) (.inr rfl) (⟨Try.underlying102, trivial⟩) (trivial)
/-- func(api.Span) bool -/
def ti103 : TI := ⟨1, 8, .scalar (.func #[28] #[4] false), [.con .nilFunc], none⟩
theorem ti103_ok : TIok Try.prog 103 ti103 := TIok.mk1 (by kernel_rfl) (by kernel_rfl) (by kernel_rfl) (.inr rfl) (⟨Try.underlying103, trivial⟩) (trivial)
/-- func([]api.Span, int, int, int, func(api.Span, api.Span) int) -/
def ti104 : TI := ⟨1, 8, .scalar (.func #[22, 3, 3, 3, 65] #[] false), [.con .nilFunc], none⟩
theorem ti104_ok : TIok Try.prog 104 ti104 := TIok.mk1 (by kernel_rfl) (by kernel_rfl) (by kernel_rfl) (.inr rfl) (⟨Try.underlying104, trivial⟩) (trivial)
/-- func(uint) int -/
def ti105 : TI := ⟨1, 8, .scalar (.func #[106] #[3] false), [.con .nilFunc], none⟩
theorem ti105_ok : TIok Try.prog 105 ti105 := TIok.mk1 (by kernel_rfl) (by kernel_rfl) (by kernel_rfl) (.inr rfl) (⟨Try.underlying105, trivial⟩) (trivial)
/-- uint -/
def ti106 : TI := ⟨1, 8, .scalar (.int .u64), [.d (.int .u64) (0 : Int)], some (.int .u64)⟩
theorem ti106_ok : TIok Try.prog 106 ti106 := TIok.mk1 (by kernel_rfl) (by kernel_rfl) (by kernel_rfl) (.inr rfl) (⟨Try.underlying106, trivial⟩) (⟨by kernel_rfl, by kernel_rfl, by kernel_rfl, by kernel_rfl⟩)
/-- func(int, int) bool -/
def ti107 : TI := ⟨1, 8, .scalar (.func #[3, 3] #[4] false), [.con .nilFunc], none⟩
theorem ti107_ok : TIok Try.prog 107 ti107 := TIok.mk1 (by kernel_rfl) (by kernel_rfl) (by kernel_rfl) (.inr rfl) (⟨Try.underlying107, trivial⟩) (trivial)
/-- func([]int, func(int) bool) int -/
def ti108 : TI := ⟨1, 8, .scalar (.func #[30, 76] #[3] false), [.con .nilFunc], none⟩
theorem ti108_ok : TIok Try.prog 108 ti108 := TIok.mk1 (by kernel_rfl) (by kernel_rfl) (by kernel_rfl) (.inr rfl) (⟨Try.underlying108, trivial⟩) (trivial)
/-- func([]int, int, int, int) -/
def ti109 : TI := ⟨1, 8, .scalar (.func #[30, 3, 3, 3] #[] false), [.con .nilFunc], none⟩
theorem ti109_ok : TIok Try.prog 109 ti109 := TIok.mk1 (by kernel_rfl) (by kernel_rfl) (by kernel_rfl) (.inr rfl) (⟨Try.underlying109, trivial⟩) (trivial)
/-- func(wheel.timer) -/
def ti110 : TI := ⟨1, 8, .scalar (.func #[112] #[] false), [.con .nilFunc], none⟩
theorem ti110_ok : TIok Try.prog 110 ti110 := TIok.mk1 (by kernel_rfl) (by kernel_rfl) (by kernel_rfl) (.inr rfl) (⟨Try.underlying110, trivial⟩) (trivial)
/-- struct { at int; id int } -/
def ti111 : TI := ⟨2, 16, .struct [(0, 3), (1, 3)], [.d (.int .i64) (0 : Int), .d (.int .i64) (0 : Int)], some (.pair (.int .i64) (.int .i64))⟩
theorem ti111_ok : TIok Try.prog 111 ti111 := TIok.mk1 (by kernel_rfl) (by kernel_rfl) (by kernel_rfl) (.inl rfl) (⟨_, Try.underlying111, by kernel_rfl⟩) (⟨by kernel_rfl, by kernel_rfl, by kernel_rfl, by kernel_rfl⟩)
/-- wheel.timer -/
def ti112 : TI := ⟨2, 16, .struct [(0, 3), (1, 3)], [.d (.int .i64) (0 : Int), .d (.int .i64) (0 : Int)], some (.pair (.int .i64) (.int .i64))⟩
theorem ti112_ok : TIok Try.prog 112 ti112 := TIok.mk1 (by kernel_rfl) (by kernel_rfl) (by kernel_rfl) (.inl rfl) (⟨_, Try.underlying112, by kernel_rfl⟩) (⟨by kernel_rfl, by kernel_rfl, by kernel_rfl, by kernel_rfl⟩)
/-- func([]api.Fired, int, int, int, func(api.Fired, api.Fired) int) -/
def ti113 : TI := ⟨1, 8, .scalar (.func #[45, 3, 3, 3, 90] #[] false), [.con .nilFunc], none⟩
theorem ti113_ok : TIok Try.prog 113 ti113 := TIok.mk1 (by kernel_rfl) (by kernel_rfl) (by kernel_rfl) (.inr rfl) (⟨Try.underlying113, trivial⟩) (trivial)
/-- func([]*cores.thread, int, int, int, func(*cores.thread, *cores.thread) int) -/
def ti114 : TI := ⟨1, 8, .scalar (.func #[91, 3, 3, 3, 100] #[] false), [.con .nilFunc], none⟩
theorem ti114_ok : TIok Try.prog 114 ti114 := TIok.mk1 (by kernel_rfl) (by kernel_rfl) (by kernel_rfl) (.inr rfl) (⟨Try.underlying114, trivial⟩) (trivial)
/-- func([]api.Span, iter.Seq[corebell/api.Span]) []api.Span -/
def ti115 : TI := ⟨1, 8, .scalar (.func #[22, 63] #[22] false), [.con .nilFunc], none⟩
theorem ti115_ok : TIok Try.prog 115 ti115 := TIok.mk1 (by kernel_rfl) (by kernel_rfl) (by kernel_rfl) (.inr rfl) (⟨Try.underlying115, trivial⟩) (trivial)
/-- func([]api.Span, int, int, func(api.Span, api.Span) int) -/
def ti116 : TI := ⟨1, 8, .scalar (.func #[22, 3, 3, 65] #[] false), [.con .nilFunc], none⟩
theorem ti116_ok : TIok Try.prog 116 ti116 := TIok.mk1 (by kernel_rfl) (by kernel_rfl) (by kernel_rfl) (.inr rfl) (⟨Try.underlying116, trivial⟩) (trivial)
/-- slices.sortedHint -/
def ti117 : TI := ⟨1, 8, .scalar (.int .i64), [.d (.int .i64) (0 : Int)], some (.int .i64)⟩
theorem ti117_ok : TIok Try.prog 117 ti117 := TIok.mk1 (by kernel_rfl) (by kernel_rfl) (by kernel_rfl) (.inr rfl) (⟨Try.underlying117, trivial⟩) (⟨by kernel_rfl, by kernel_rfl, by kernel_rfl, by kernel_rfl⟩)
/-- func([]api.Span, int, int, func(api.Span, api.Span) int) (int, slices.sortedHint) -/
def ti119 : TI := ⟨1, 8, .scalar (.func #[22, 3, 3, 65] #[3, 117] false), [.con .nilFunc], none⟩
theorem ti119_ok : TIok Try.prog 119 ti119 := TIok.mk1 (by kernel_rfl) (by kernel_rfl) (by kernel_rfl) (.inr rfl) (⟨Try.underlying119, trivial⟩) (trivial)
/-- func([]api.Span, int, int, func(api.Span, api.Span) int) bool -/
def ti120 : TI := ⟨1, 8, .scalar (.func #[22, 3, 3, 65] #[4] false), [.con .nilFunc], none⟩
theorem ti120_ok : TIok Try.prog 120 ti120 := TIok.mk1 (by kernel_rfl) (by kernel_rfl) (by kernel_rfl) (.inr rfl) (⟨Try.underlying120, trivial⟩) (trivial)
/-- func([]api.Span, int, int, int, func(api.Span, api.Span) int) int -/
def ti121 : TI := ⟨1, 8, .scalar (.func #[22, 3, 3, 3, 65] #[3] false), [.con .nilFunc], none⟩
theorem ti121_ok : TIok Try.prog 121 ti121 := TIok.mk1 (by kernel_rfl) (by kernel_rfl) (by kernel_rfl) (.inr rfl) (⟨Try.underlying121, trivial⟩) (trivial)
/-- func([]api.Span, int, int, int, func(api.Span, api.Span) int) (int, bool) -/
def ti122 : TI := ⟨1, 8, .scalar (.func #[22, 3, 3, 3, 65] #[3, 4] false), [.con .nilFunc], none⟩
theorem ti122_ok : TIok Try.prog 122 ti122 := TIok.mk1 (by kernel_rfl) (by kernel_rfl) (by kernel_rfl) (.inr rfl) (⟨Try.underlying122, trivial⟩) (trivial)
/-- func(uint32) int -/
def ti123 : TI := ⟨1, 8, .scalar (.func #[124] #[3] false), [.con .nilFunc], none⟩
theorem ti123_ok : TIok Try.prog 123 ti123 := TIok.mk1 (by kernel_rfl) (by kernel_rfl) (by kernel_rfl) (.inr rfl) (⟨Try.underlying123, trivial⟩) (trivial)
/-- uint32 -/
def ti124 : TI := ⟨1, 4, .scalar (.int .u32), [.d (.int .u32) (0 : Int)], some (.int .u32)⟩
theorem ti124_ok : TIok Try.prog 124 ti124 := TIok.mk1 (by kernel_rfl) (by kernel_rfl) (by kernel_rfl) (.inr rfl) (⟨Try.underlying124, trivial⟩) (⟨by kernel_rfl, by kernel_rfl, by kernel_rfl, by kernel_rfl⟩)
/-- func(uint64) int -/
def ti125 : TI := ⟨1, 8, .scalar (.func #[126] #[3] false), [.con .nilFunc], none⟩
theorem ti125_ok : TIok Try.prog 125 ti125 := TIok.mk1 (by kernel_rfl) (by kernel_rfl) (by kernel_rfl) (.inr rfl) (⟨Try.underlying125, trivial⟩) (trivial)
/-- uint64 -/
def ti126 : TI := ⟨1, 8, .scalar (.int .u64), [.d (.int .u64) (0 : Int)], some (.int .u64)⟩
theorem ti126_ok : TIok Try.prog 126 ti126 := TIok.mk1 (by kernel_rfl) (by kernel_rfl) (by kernel_rfl) (.inr rfl) (⟨Try.underlying126, trivial⟩) (⟨by kernel_rfl, by kernel_rfl, by kernel_rfl, by kernel_rfl⟩)
/-- func([]int, iter.Seq[int]) []int -/
def ti127 : TI := ⟨1, 8, .scalar (.func #[30, 69] #[30] false), [.con .nilFunc], none⟩
theorem ti127_ok : TIok Try.prog 127 ti127 := TIok.mk1 (by kernel_rfl) (by kernel_rfl) (by kernel_rfl) (.inr rfl) (⟨Try.underlying127, trivial⟩) (trivial)
/-- func([]int, int, int) -/
def ti128 : TI := ⟨1, 8, .scalar (.func #[30, 3, 3] #[] false), [.con .nilFunc], none⟩
theorem ti128_ok : TIok Try.prog 128 ti128 := TIok.mk1 (by kernel_rfl) (by kernel_rfl) (by kernel_rfl) (.inr rfl) (⟨Try.underlying128, trivial⟩) (trivial)
/-- func([]int, int, int) (int, slices.sortedHint) -/
def ti129 : TI := ⟨1, 8, .scalar (.func #[30, 3, 3] #[3, 117] false), [.con .nilFunc], none⟩
theorem ti129_ok : TIok Try.prog 129 ti129 := TIok.mk1 (by kernel_rfl) (by kernel_rfl) (by kernel_rfl) (.inr rfl) (⟨Try.underlying129, trivial⟩) (trivial)
/-- func([]int, int, int) bool -/
def ti130 : TI := ⟨1, 8, .scalar (.func #[30, 3, 3] #[4] false), [.con .nilFunc], none⟩
theorem ti130_ok : TIok Try.prog 130 ti130 := TIok.mk1 (by kernel_rfl) (by kernel_rfl) (by kernel_rfl) (.inr rfl) (⟨Try.underlying130, trivial⟩) (trivial)
/-- func([]int, int, int, int) int -/
def ti131 : TI := ⟨1, 8, .scalar (.func #[30, 3, 3, 3] #[3] false), [.con .nilFunc], none⟩
theorem ti131_ok : TIok Try.prog 131 ti131 := TIok.mk1 (by kernel_rfl) (by kernel_rfl) (by kernel_rfl) (.inr rfl) (⟨Try.underlying131, trivial⟩) (trivial)
/-- func([]int, int, int, int) (int, bool) -/
def ti132 : TI := ⟨1, 8, .scalar (.func #[30, 3, 3, 3] #[3, 4] false), [.con .nilFunc], none⟩
theorem ti132_ok : TIok Try.prog 132 ti132 := TIok.mk1 (by kernel_rfl) (by kernel_rfl) (by kernel_rfl) (.inr rfl) (⟨Try.underlying132, trivial⟩) (trivial)
/-- *[]wheel.timer -/
def ti133 : TI := ⟨1, 8, .scalar (.pointer 81), [.con (.pointer none)], none⟩
theorem ti133_ok : TIok Try.prog 133 ti133 := TIok.mk1 (by kernel_rfl) (by kernel_rfl) (by kernel_rfl) (.inr rfl) (⟨Try.underlying133, trivial⟩) (trivial)
/-- func(int, int) []wheel.timer -/
def ti134 : TI := ⟨1, 8, .scalar (.func #[3, 3] #[81] false), [.con .nilFunc], none⟩
theorem ti134_ok : TIok Try.prog 134 ti134 := TIok.mk1 (by kernel_rfl) (by kernel_rfl) (by kernel_rfl) (.inr rfl) (⟨Try.underlying134, trivial⟩) (trivial)
/-- func([]api.Fired, int, int, func(api.Fired, api.Fired) int) -/
def ti135 : TI := ⟨1, 8, .scalar (.func #[45, 3, 3, 90] #[] false), [.con .nilFunc], none⟩
theorem ti135_ok : TIok Try.prog 135 ti135 := TIok.mk1 (by kernel_rfl) (by kernel_rfl) (by kernel_rfl) (.inr rfl) (⟨Try.underlying135, trivial⟩) (trivial)
/-- func([]api.Fired, int, int, func(api.Fired, api.Fired) int) (int, slices.sortedHint) -/
def ti136 : TI := ⟨1, 8, .scalar (.func #[45, 3, 3, 90] #[3, 117] false), [.con .nilFunc], none⟩
theorem ti136_ok : TIok Try.prog 136 ti136 := TIok.mk1 (by kernel_rfl) (by kernel_rfl) (by kernel_rfl) (.inr rfl) (⟨Try.underlying136, trivial⟩) (trivial)
/-- func([]api.Fired, int, int, func(api.Fired, api.Fired) int) bool -/
def ti137 : TI := ⟨1, 8, .scalar (.func #[45, 3, 3, 90] #[4] false), [.con .nilFunc], none⟩
theorem ti137_ok : TIok Try.prog 137 ti137 := TIok.mk1 (by kernel_rfl) (by kernel_rfl) (by kernel_rfl) (.inr rfl) (⟨Try.underlying137, trivial⟩) (trivial)
/-- func([]api.Fired, int, int, int, func(api.Fired, api.Fired) int) int -/
def ti138 : TI := ⟨1, 8, .scalar (.func #[45, 3, 3, 3, 90] #[3] false), [.con .nilFunc], none⟩
theorem ti138_ok : TIok Try.prog 138 ti138 := TIok.mk1 (by kernel_rfl) (by kernel_rfl) (by kernel_rfl) (.inr rfl) (⟨Try.underlying138, trivial⟩) (trivial)
/-- func([]api.Fired, int, int, int, func(api.Fired, api.Fired) int) (int, bool) -/
def ti139 : TI := ⟨1, 8, .scalar (.func #[45, 3, 3, 3, 90] #[3, 4] false), [.con .nilFunc], none⟩
theorem ti139_ok : TIok Try.prog 139 ti139 := TIok.mk1 (by kernel_rfl) (by kernel_rfl) (by kernel_rfl) (.inr rfl) (⟨Try.underlying139, trivial⟩) (trivial)
/-- func([]*cores.thread, int, int, func(*cores.thread, *cores.thread) int) -/
def ti140 : TI := ⟨1, 8, .scalar (.func #[91, 3, 3, 100] #[] false), [.con .nilFunc], none⟩
theorem ti140_ok : TIok Try.prog 140 ti140 := TIok.mk1 (by kernel_rfl) (by kernel_rfl) (by kernel_rfl) (.inr rfl) (⟨Try.underlying140, trivial⟩) (trivial)
/-- func([]*cores.thread, int, int, func(*cores.thread, *cores.thread) int) (int, slices.sortedHint) -/
def ti141 : TI := ⟨1, 8, .scalar (.func #[91, 3, 3, 100] #[3, 117] false), [.con .nilFunc], none⟩
theorem ti141_ok : TIok Try.prog 141 ti141 := TIok.mk1 (by kernel_rfl) (by kernel_rfl) (by kernel_rfl) (.inr rfl) (⟨Try.underlying141, trivial⟩) (trivial)
/-- func([]*cores.thread, int, int, func(*cores.thread, *cores.thread) int) bool -/
def ti142 : TI := ⟨1, 8, .scalar (.func #[91, 3, 3, 100] #[4] false), [.con .nilFunc], none⟩
theorem ti142_ok : TIok Try.prog 142 ti142 := TIok.mk1 (by kernel_rfl) (by kernel_rfl) (by kernel_rfl) (.inr rfl) (⟨Try.underlying142, trivial⟩) (trivial)
/-- func([]*cores.thread, int, int, int, func(*cores.thread, *cores.thread) int) int -/
def ti143 : TI := ⟨1, 8, .scalar (.func #[91, 3, 3, 3, 100] #[3] false), [.con .nilFunc], none⟩
theorem ti143_ok : TIok Try.prog 143 ti143 := TIok.mk1 (by kernel_rfl) (by kernel_rfl) (by kernel_rfl) (.inr rfl) (⟨Try.underlying143, trivial⟩) (trivial)
/-- func([]*cores.thread, int, int, int, func(*cores.thread, *cores.thread) int) (int, bool) -/
def ti144 : TI := ⟨1, 8, .scalar (.func #[91, 3, 3, 3, 100] #[3, 4] false), [.con .nilFunc], none⟩
theorem ti144_ok : TIok Try.prog 144 ti144 := TIok.mk1 (by kernel_rfl) (by kernel_rfl) (by kernel_rfl) (.inr rfl) (⟨Try.underlying144, trivial⟩) (trivial)
/-- slices.xorshift -/
def ti145 : TI := ⟨1, 8, .scalar (.int .u64), [.d (.int .u64) (0 : Int)], some (.int .u64)⟩
theorem ti145_ok : TIok Try.prog 145 ti145 := TIok.mk1 (by kernel_rfl) (by kernel_rfl) (by kernel_rfl) (.inr rfl) (⟨Try.underlying145, trivial⟩) (⟨by kernel_rfl, by kernel_rfl, by kernel_rfl, by kernel_rfl⟩)
/-- func(int) uint -/
def ti146 : TI := ⟨1, 8, .scalar (.func #[3] #[106] false), [.con .nilFunc], none⟩
theorem ti146_ok : TIok Try.prog 146 ti146 := TIok.mk1 (by kernel_rfl) (by kernel_rfl) (by kernel_rfl) (.inr rfl) (⟨Try.underlying146, trivial⟩) (trivial)
/-- func() uint64 -/
def ti147 : TI := ⟨1, 8, .scalar (.func #[] #[126] false), [.con .nilFunc], none⟩
theorem ti147_ok : TIok Try.prog 147 ti147 := TIok.mk1 (by kernel_rfl) (by kernel_rfl) (by kernel_rfl) (.inr rfl) (⟨Try.underlying147, trivial⟩) (trivial)
/-- func([]api.Span, int, *int, func(api.Span, api.Span) int) int -/
def ti148 : TI := ⟨1, 8, .scalar (.func #[22, 3, 149, 65] #[3] false), [.con .nilFunc], none⟩
theorem ti148_ok : TIok Try.prog 148 ti148 := TIok.mk1 (by kernel_rfl) (by kernel_rfl) (by kernel_rfl) (.inr rfl) (⟨Try.underlying148, trivial⟩) (trivial)
/-- *int -/
def ti149 : TI := ⟨1, 8, .scalar (.pointer 3), [.con (.pointer none)], none⟩
theorem ti149_ok : TIok Try.prog 149 ti149 := TIok.mk1 (by kernel_rfl) (by kernel_rfl) (by kernel_rfl) (.inr rfl) (⟨Try.underlying149, trivial⟩) (trivial)
/-- func([]api.Span, int, int, int, *int, func(api.Span, api.Span) int) int -/
def ti150 : TI := ⟨1, 8, .scalar (.func #[22, 3, 3, 3, 149, 65] #[3] false), [.con .nilFunc], none⟩
theorem ti150_ok : TIok Try.prog 150 ti150 := TIok.mk1 (by kernel_rfl) (by kernel_rfl) (by kernel_rfl) (.inr rfl) (⟨Try.underlying150, trivial⟩) (trivial)
/-- func([]int, int, *int) int -/
def ti151 : TI := ⟨1, 8, .scalar (.func #[30, 3, 149] #[3] false), [.con .nilFunc], none⟩
theorem ti151_ok : TIok Try.prog 151 ti151 := TIok.mk1 (by kernel_rfl) (by kernel_rfl) (by kernel_rfl) (.inr rfl) (⟨Try.underlying151, trivial⟩) (trivial)
/-- func([]int, int, int, int, *int) int -/
def ti152 : TI := ⟨1, 8, .scalar (.func #[30, 3, 3, 3, 149] #[3] false), [.con .nilFunc], none⟩
theorem ti152_ok : TIok Try.prog 152 ti152 := TIok.mk1 (by kernel_rfl) (by kernel_rfl) (by kernel_rfl) (.inr rfl) (⟨Try.underlying152, trivial⟩) (trivial)
/-- func([]api.Fired, int, *int, func(api.Fired, api.Fired) int) int -/
def ti153 : TI := ⟨1, 8, .scalar (.func #[45, 3, 149, 90] #[3] false), [.con .nilFunc], none⟩
theorem ti153_ok : TIok Try.prog 153 ti153 := TIok.mk1 (by kernel_rfl) (by kernel_rfl) (by kernel_rfl) (.inr rfl) (⟨Try.underlying153, trivial⟩) (trivial)
/-- func([]api.Fired, int, int, int, *int, func(api.Fired, api.Fired) int) int -/
def ti154 : TI := ⟨1, 8, .scalar (.func #[45, 3, 3, 3, 149, 90] #[3] false), [.con .nilFunc], none⟩
theorem ti154_ok : TIok Try.prog 154 ti154 := TIok.mk1 (by kernel_rfl) (by kernel_rfl) (by kernel_rfl) (.inr rfl) (⟨Try.underlying154, trivial⟩) (trivial)
/-- func([]*cores.thread, int, *int, func(*cores.thread, *cores.thread) int) int -/
def ti155 : TI := ⟨1, 8, .scalar (.func #[91, 3, 149, 100] #[3] false), [.con .nilFunc], none⟩
theorem ti155_ok : TIok Try.prog 155 ti155 := TIok.mk1 (by kernel_rfl) (by kernel_rfl) (by kernel_rfl) (.inr rfl) (⟨Try.underlying155, trivial⟩) (trivial)
/-- func([]*cores.thread, int, int, int, *int, func(*cores.thread, *cores.thread) int) int -/
def ti156 : TI := ⟨1, 8, .scalar (.func #[91, 3, 3, 3, 149, 100] #[3] false), [.con .nilFunc], none⟩
theorem ti156_ok : TIok Try.prog 156 ti156 := TIok.mk1 (by kernel_rfl) (by kernel_rfl) (by kernel_rfl) (.inr rfl) (⟨Try.underlying156, trivial⟩) (trivial)
/-- *slices.xorshift -/
def ti157 : TI := ⟨1, 8, .scalar (.pointer 145), [.con (.pointer none)], none⟩
theorem ti157_ok : TIok Try.prog 157 ti157 := TIok.mk1 (by kernel_rfl) (by kernel_rfl) (by kernel_rfl) (.inr rfl) (⟨Try.underlying157, trivial⟩) (trivial)
/-- func([]api.Span, int, int, *int, func(api.Span, api.Span) int) (int, int) -/
def ti159 : TI := ⟨1, 8, .scalar (.func #[22, 3, 3, 149, 65] #[3, 3] false), [.con .nilFunc], none⟩
theorem ti159_ok : TIok Try.prog 159 ti159 := TIok.mk1 (by kernel_rfl) (by kernel_rfl) (by kernel_rfl) (.inr rfl) (⟨Try.underlying159, trivial⟩) (trivial)
/-- func([]int, int, int, *int) (int, int) -/
def ti160 : TI := ⟨1, 8, .scalar (.func #[30, 3, 3, 149] #[3, 3] false), [.con .nilFunc], none⟩
theorem ti160_ok : TIok Try.prog 160 ti160 := TIok.mk1 (by kernel_rfl) (by kernel_rfl) (by kernel_rfl) (.inr rfl) (⟨Try.underlying160, trivial⟩) (trivial)
/-- func([]api.Fired, int, int, *int, func(api.Fired, api.Fired) int) (int, int) -/
def ti161 : TI := ⟨1, 8, .scalar (.func #[45, 3, 3, 149, 90] #[3, 3] false), [.con .nilFunc], none⟩
theorem ti161_ok : TIok Try.prog 161 ti161 := TIok.mk1 (by kernel_rfl) (by kernel_rfl) (by kernel_rfl) (.inr rfl) (⟨Try.underlying161, trivial⟩) (trivial)
/-- func([]*cores.thread, int, int, *int, func(*cores.thread, *cores.thread) int) (int, int) -/
def ti162 : TI := ⟨1, 8, .scalar (.func #[91, 3, 3, 149, 100] #[3, 3] false), [.con .nilFunc], none⟩
theorem ti162_ok : TIok Try.prog 162 ti162 := TIok.mk1 (by kernel_rfl) (by kernel_rfl) (by kernel_rfl) (.inr rfl) (⟨Try.underlying162, trivial⟩) (trivial)
/-- func() string -/
def ti163 : TI := ⟨1, 8, .scalar (.func #[] #[9] false), [.con .nilFunc], none⟩
theorem ti163_ok : TIok Try.prog 163 ti163 := TIok.mk1 (by kernel_rfl) (by kernel_rfl) (by kernel_rfl) (.inr rfl) (⟨Try.underlying163, trivial⟩) (trivial)
/-- struct { _interface *abi.Type; concrete *abi.Type; asserted *abi.Type; missingMethod string } -/
def ti164 : TI := ⟨4, 40, .struct [(0, 17), (1, 17), (2, 17), (3, 9)], [.con (.pointer none), .con (.pointer none), .con (.pointer none), .d .str ([] : List Int)], none⟩
theorem ti164_ok : TIok Try.prog 164 ti164 := TIok.mk1 (by kernel_rfl) (by kernel_rfl) (by kernel_rfl) (.inl rfl) (⟨_, Try.underlying164, by kernel_rfl⟩) (trivial)
/-- runtime.TypeAssertionError -/
def ti165 : TI := ⟨4, 40, .struct [(0, 17), (1, 17), (2, 17), (3, 9)], [.con (.pointer none), .con (.pointer none), .con (.pointer none), .d .str ([] : List Int)], none⟩
theorem ti165_ok : TIok Try.prog 165 ti165 := TIok.mk1 (by kernel_rfl) (by kernel_rfl) (by kernel_rfl) (.inl rfl) (⟨_, Try.underlying165, by kernel_rfl⟩) (trivial)
/-- func() int -/
def ti169 : TI := ⟨1, 8, .scalar (.func #[] #[3] false), [.con .nilFunc], none⟩
theorem ti169_ok : TIok Try.prog 169 ti169 := TIok.mk1 (by kernel_rfl) (by kernel_rfl) (by kernel_rfl) (.inr rfl) (⟨Try.underlying169, trivial⟩) (trivial)
/-- abi.TFlag -/
def ti170 : TI := ⟨1, 1, .scalar (.int .u8), [.d (.int .u8) (0 : Int)], some (.int .u8)⟩
theorem ti170_ok : TIok Try.prog 170 ti170 := TIok.mk1 (by kernel_rfl) (by kernel_rfl) (by kernel_rfl) (.inr rfl) (⟨Try.underlying170, trivial⟩) (⟨by kernel_rfl, by kernel_rfl, by kernel_rfl, by kernel_rfl⟩)
/-- abi.Kind -/
def ti171 : TI := ⟨1, 1, .scalar (.int .u8), [.d (.int .u8) (0 : Int)], some (.int .u8)⟩
theorem ti171_ok : TIok Try.prog 171 ti171 := TIok.mk1 (by kernel_rfl) (by kernel_rfl) (by kernel_rfl) (.inr rfl) (⟨Try.underlying171, trivial⟩) (⟨by kernel_rfl, by kernel_rfl, by kernel_rfl, by kernel_rfl⟩)
/-- func(unsafe.Pointer, unsafe.Pointer) bool -/
def ti172 : TI := ⟨1, 8, .scalar (.func #[178, 178] #[4] false), [.con .nilFunc], none⟩
theorem ti172_ok : TIok Try.prog 172 ti172 := TIok.mk1 (by kernel_rfl) (by kernel_rfl) (by kernel_rfl) (.inr rfl) (⟨Try.underlying172, trivial⟩) (trivial)
/-- *uint8 -/
def ti173 : TI := ⟨1, 8, .scalar (.pointer 5), [.con (.pointer none)], none⟩
theorem ti173_ok : TIok Try.prog 173 ti173 := TIok.mk1 (by kernel_rfl) (by kernel_rfl) (by kernel_rfl) (.inr rfl) (⟨Try.underlying173, trivial⟩) (trivial)
/-- abi.NameOff -/
def ti174 : TI := ⟨1, 4, .scalar (.int .i32), [.d (.int .i32) (0 : Int)], some (.int .i32)⟩
theorem ti174_ok : TIok Try.prog 174 ti174 := TIok.mk1 (by kernel_rfl) (by kernel_rfl) (by kernel_rfl) (.inr rfl) (⟨Try.underlying174, trivial⟩) (⟨by kernel_rfl, by kernel_rfl, by kernel_rfl, by kernel_rfl⟩)
/-- abi.TypeOff -/
def ti175 : TI := ⟨1, 4, .scalar (.int .i32), [.d (.int .i32) (0 : Int)], some (.int .i32)⟩
theorem ti175_ok : TIok Try.prog 175 ti175 := TIok.mk1 (by kernel_rfl) (by kernel_rfl) (by kernel_rfl) (.inr rfl) (⟨Try.underlying175, trivial⟩) (⟨by kernel_rfl, by kernel_rfl, by kernel_rfl, by kernel_rfl⟩)
/-- struct { Size_ uintptr; PtrBytes uintptr; Hash uint32; TFlag abi.TFlag; Align_ uint8; FieldAlign_ uint8; Kind_ abi.Kind; Equal func(unsafe.Pointer, unsafe.Pointer) bool; GCData *uint8; Str abi.NameOff; PtrToThis abi.TypeOff } -/
def ti176 : TI := ⟨11, 48, .struct [(0, 12), (1, 12), (2, 124), (3, 170), (4, 5), (5, 5), (6, 171), (7, 172), (8, 173), (9, 174), (10, 175)], [.d (.int .u64) (0 : Int), .d (.int .u64) (0 : Int), .d (.int .u32) (0 : Int), .d (.int .u8) (0 : Int), .d (.int .u8) (0 : Int), .d (.int .u8) (0 : Int), .d (.int .u8) (0 : Int), .con .nilFunc, .con (.pointer none), .d (.int .i32) (0 : Int), .d (.int .i32) (0 : Int)], none⟩
theorem ti176_ok : TIok Try.prog 176 ti176 := TIok.mk1 (by kernel_rfl) (by kernel_rfl) (by kernel_rfl) (.inl rfl) (⟨_, Try.underlying176, by kernel_rfl⟩) (trivial)
/-- abi.Type -/
def ti177 : TI := ⟨11, 48, .struct [(0, 12), (1, 12), (2, 124), (3, 170), (4, 5), (5, 5), (6, 171), (7, 172), (8, 173), (9, 174), (10, 175)], [.d (.int .u64) (0 : Int), .d (.int .u64) (0 : Int), .d (.int .u32) (0 : Int), .d (.int .u8) (0 : Int), .d (.int .u8) (0 : Int), .d (.int .u8) (0 : Int), .d (.int .u8) (0 : Int), .con .nilFunc, .con (.pointer none), .d (.int .i32) (0 : Int), .d (.int .i32) (0 : Int)], none⟩
theorem ti177_ok : TIok Try.prog 177 ti177 := TIok.mk1 (by kernel_rfl) (by kernel_rfl) (by kernel_rfl) (.inl rfl) (⟨_, Try.underlying177, by kernel_rfl⟩) (trivial)
theorem eq28_ok : EqTy Try.prog 28 (.pair (.int .i64) (.int .i64)) := ⟨(Exists.intro _ (And.intro Try.underlying28 (And.intro (by kernel_rfl) (And.intro (by kernel_rfl) (And.intro (by kernel_rfl) (And.intro Try.underlying3 (And.intro (by kernel_rfl) (And.intro (by kernel_rfl) Try.underlying3)))))))), rfl, rfl, by kernel_rfl, by kernel_rfl⟩
theorem eq51_ok : EqTy Try.prog 51 (.pair (.int .i64) (.int .i64)) := ⟨(Exists.intro _ (And.intro Try.underlying51 (And.intro (by kernel_rfl) (And.intro (by kernel_rfl) (And.intro (by kernel_rfl) (And.intro Try.underlying3 (And.intro (by kernel_rfl) (And.intro (by kernel_rfl) Try.underlying3)))))))), rfl, rfl, by kernel_rfl, by kernel_rfl⟩
theorem eq87_ok : EqTy Try.prog 87 (.pair (.int .i64) (.pair (.int .i64) (.int .i64))) := ⟨(Exists.intro _ (And.intro Try.underlying87 (And.intro (by kernel_rfl) (And.intro (by kernel_rfl) (And.intro (by kernel_rfl) (And.intro Try.underlying3 (And.intro (by kernel_rfl) (And.intro (by kernel_rfl) (And.intro Try.underlying3 (And.intro (by kernel_rfl) (And.intro (by kernel_rfl) Try.underlying3))))))))))), rfl, rfl, by kernel_rfl, by kernel_rfl⟩
theorem eq93_ok : EqTy Try.prog 93 (.pair (.int .i64) (.pair (.int .i64) (.int .i64))) := ⟨(Exists.intro _ (And.intro Try.underlying93 (And.intro (by kernel_rfl) (And.intro (by kernel_rfl) (And.intro (by kernel_rfl) (And.intro Try.underlying3 (And.intro (by kernel_rfl) (And.intro (by kernel_rfl) (And.intro Try.underlying3 (And.intro (by kernel_rfl) (And.intro (by kernel_rfl) Try.underlying3))))))))))), rfl, rfl, by kernel_rfl, by kernel_rfl⟩
theorem eq96_ok : EqTy Try.prog 96 (.pair (.pair (.int .i64) (.pair (.int .i64) (.int .i64))) (.pair (.int .i64) (.pair (.int .i64) (.int .i64)))) := ⟨(Exists.intro _ (And.intro Try.underlying96 (And.intro (by kernel_rfl) (And.intro (by kernel_rfl) (And.intro (by kernel_rfl) (And.intro (Exists.intro _ (And.intro Try.underlying93 (And.intro (by kernel_rfl) (And.intro (by kernel_rfl) (And.intro (by kernel_rfl) (And.intro Try.underlying3 (And.intro (by kernel_rfl) (And.intro (by kernel_rfl) (And.intro Try.underlying3 (And.intro (by kernel_rfl) (And.intro (by kernel_rfl) Try.underlying3))))))))))) (And.intro (by kernel_rfl) (And.intro (by kernel_rfl) (And.intro Try.underlying3 (And.intro (by kernel_rfl) (And.intro (by kernel_rfl) (And.intro Try.underlying3 (And.intro (by kernel_rfl) (And.intro (by kernel_rfl) Try.underlying3)))))))))))))), rfl, rfl, by kernel_rfl, by kernel_rfl⟩
theorem eq112_ok : EqTy Try.prog 112 (.pair (.int .i64) (.int .i64)) := ⟨(Exists.intro _ (And.intro Try.underlying112 (And.intro (by kernel_rfl) (And.intro (by kernel_rfl) (And.intro (by kernel_rfl) (And.intro Try.underlying3 (And.intro (by kernel_rfl) (And.intro (by kernel_rfl) Try.underlying3)))))))), rfl, rfl, by kernel_rfl, by kernel_rfl⟩
def env : Env := { tys := [(1, ti1), (2, ti2), (3, ti3), (4, ti4), (5, ti5), (6, ti6), (7, ti7), (8, ti8), (9, ti9), (10, ti10), (11, ti11), (12, ti12), (13, ti13), (14, ti14), (15, ti15), (16, ti16), (17, ti17), (18, ti18), (19, ti19), (21, ti21), (22, ti22), (23, ti23), (25, ti25), (26, ti26), (27, ti27), (28, ti28), (29, ti29), (30, ti30), (32, ti32), (34, ti34), (35, ti35), (36, ti36), (38, ti38), (39, ti39), (40, ti40), (41, ti41), (42, ti42), (43, ti43), (44, ti44), (45, ti45), (47, ti47), (48, ti48), (49, ti49), (50, ti50), (51, ti51), (52, ti52), (53, ti53), (54, ti54), (56, ti56), (57, ti57), (58, ti58), (59, ti59), (60, ti60), (61, ti61), (62, ti62), (63, ti63), (64, ti64), (65, ti65), (66, ti66), (67, ti67), (68, ti68), (69, ti69), (70, ti70), (72, ti72), (73, ti73), (74, ti74), (75, ti75), (76, ti76), (77, ti77), (78, ti78), (79, ti79), (80, ti80), (81, ti81), (82, ti82), (83, ti83), (84, ti84), (85, ti85), (86, ti86), (87, ti87), (88, ti88), (89, ti89), (90, ti90), (91, ti91), (92, ti92), (93, ti93), (94, ti94), (95, ti95), (96, ti96), (97, ti97), (98, ti98), (99, ti99), (100, ti100), (101, ti101), (102, ti102), (103, ti103), (104, ti104), (105, ti105), (106, ti106), (107, ti107), (108, ti108), (109, ti109), (110, ti110), (111, ti111), (112, ti112), (113, ti113), (114, ti114), (115, ti115), (116, ti116), (117, ti117), (119, ti119), (120, ti120), (121, ti121), (122, ti122), (123, ti123), (124, ti124), (125, ti125), (126, ti126), (127, ti127), (128, ti128), (129, ti129), (130, ti130), (131, ti131), (132, ti132), (133, ti133), (134, ti134), (135, ti135), (136, ti136), (137, ti137), (138, ti138), (139, ti139), (140, ti140), (141, ti141), (142, ti142), (143, ti143), (144, ti144), (145, ti145), (146, ti146), (147, ti147), (148, ti148), (149, ti149), (150, ti150), (151, ti151), (152, ti152), (153, ti153), (154, ti154), (155, ti155), (156, ti156), (157, ti157), (159, ti159), (160, ti160), (161, ti161), (162, ti162), (163, ti163), (164, ti164), (165, ti165), (169, ti169), (170, ti170), (171, ti171), (172, ti172), (173, ti173), (174, ti174), (175, ti175), (176, ti176), (177, ti177)], eqs := [(28, .pair (.int .i64) (.int .i64)), (51, .pair (.int .i64) (.int .i64)), (87, .pair (.int .i64) (.pair (.int .i64) (.int .i64))), (93, .pair (.int .i64) (.pair (.int .i64) (.int .i64))), (96, .pair (.pair (.int .i64) (.pair (.int .i64) (.int .i64))) (.pair (.int .i64) (.pair (.int .i64) (.int .i64)))), (112, .pair (.int .i64) (.int .i64))] }
theorem env_ok : EnvOk Try.prog env := envOk_of_all (E := env) ⟨ti1_ok, ⟨ti2_ok, ⟨ti3_ok, ⟨ti4_ok, ⟨ti5_ok, ⟨ti6_ok, ⟨ti7_ok, ⟨ti8_ok, ⟨ti9_ok, ⟨ti10_ok, ⟨ti11_ok, ⟨ti12_ok, ⟨ti13_ok, ⟨ti14_ok, ⟨ti15_ok, ⟨ti16_ok, ⟨ti17_ok, ⟨ti18_ok, ⟨ti19_ok, ⟨ti21_ok, ⟨ti22_ok, ⟨ti23_ok, ⟨ti25_ok, ⟨ti26_ok, ⟨ti27_ok, ⟨ti28_ok, ⟨ti29_ok, ⟨ti30_ok, ⟨ti32_ok, ⟨ti34_ok, ⟨ti35_ok, ⟨ti36_ok, ⟨ti38_ok, ⟨ti39_ok, ⟨ti40_ok, ⟨ti41_ok, ⟨ti42_ok, ⟨ti43_ok, ⟨ti44_ok, ⟨ti45_ok, ⟨ti47_ok, ⟨ti48_ok, ⟨ti49_ok, ⟨ti50_ok, ⟨ti51_ok, ⟨ti52_ok, ⟨ti53_ok, ⟨ti54_ok, ⟨ti56_ok, ⟨ti57_ok, ⟨ti58_ok, ⟨ti59_ok, ⟨ti60_ok, ⟨ti61_ok, ⟨ti62_ok, ⟨ti63_ok, ⟨ti64_ok, ⟨ti65_ok, ⟨ti66_ok, ⟨ti67_ok, ⟨ti68_ok, ⟨ti69_ok, ⟨ti70_ok, ⟨ti72_ok, ⟨ti73_ok, ⟨ti74_ok, ⟨ti75_ok, ⟨ti76_ok, ⟨ti77_ok, ⟨ti78_ok, ⟨ti79_ok, ⟨ti80_ok, ⟨ti81_ok, ⟨ti82_ok, ⟨ti83_ok, ⟨ti84_ok, ⟨ti85_ok, ⟨ti86_ok, ⟨ti87_ok, ⟨ti88_ok, ⟨ti89_ok, ⟨ti90_ok, ⟨ti91_ok, ⟨ti92_ok, ⟨ti93_ok, ⟨ti94_ok, ⟨ti95_ok, ⟨ti96_ok, ⟨ti97_ok, ⟨ti98_ok, ⟨ti99_ok, ⟨ti100_ok, ⟨ti101_ok, ⟨ti102_ok, ⟨ti103_ok, ⟨ti104_ok, ⟨ti105_ok, ⟨ti106_ok, ⟨ti107_ok, ⟨ti108_ok, ⟨ti109_ok, ⟨ti110_ok, ⟨ti111_ok, ⟨ti112_ok, ⟨ti113_ok, ⟨ti114_ok, ⟨ti115_ok, ⟨ti116_ok, ⟨ti117_ok, ⟨ti119_ok, ⟨ti120_ok, ⟨ti121_ok, ⟨ti122_ok, ⟨ti123_ok, ⟨ti124_ok, ⟨ti125_ok, ⟨ti126_ok, ⟨ti127_ok, ⟨ti128_ok, ⟨ti129_ok, ⟨ti130_ok, ⟨ti131_ok, ⟨ti132_ok, ⟨ti133_ok, ⟨ti134_ok, ⟨ti135_ok, ⟨ti136_ok, ⟨ti137_ok, ⟨ti138_ok, ⟨ti139_ok, ⟨ti140_ok, ⟨ti141_ok, ⟨ti142_ok, ⟨ti143_ok, ⟨ti144_ok, ⟨ti145_ok, ⟨ti146_ok, ⟨ti147_ok, ⟨ti148_ok, ⟨ti149_ok, ⟨ti150_ok, ⟨ti151_ok, ⟨ti152_ok, ⟨ti153_ok, ⟨ti154_ok, ⟨ti155_ok, ⟨ti156_ok, ⟨ti157_ok, ⟨ti159_ok, ⟨ti160_ok, ⟨ti161_ok, ⟨ti162_ok, ⟨ti163_ok, ⟨ti164_ok, ⟨ti165_ok, ⟨ti169_ok, ⟨ti170_ok, ⟨ti171_ok, ⟨ti172_ok, ⟨ti173_ok, ⟨ti174_ok, ⟨ti175_ok, ⟨ti176_ok, ⟨ti177_ok, trivial⟩⟩⟩⟩⟩⟩⟩⟩⟩⟩⟩⟩⟩⟩⟩⟩⟩⟩⟩⟩⟩⟩⟩⟩⟩⟩⟩⟩⟩⟩⟩⟩⟩⟩⟩⟩⟩⟩⟩⟩⟩⟩⟩⟩⟩⟩⟩⟩⟩⟩⟩⟩⟩⟩⟩⟩⟩⟩⟩⟩⟩⟩⟩⟩⟩⟩⟩⟩⟩⟩⟩⟩⟩⟩⟩⟩⟩⟩⟩⟩⟩⟩⟩⟩⟩⟩⟩⟩⟩⟩⟩⟩⟩⟩⟩⟩⟩⟩⟩⟩⟩⟩⟩⟩⟩⟩⟩⟩⟩⟩⟩⟩⟩⟩⟩⟩⟩⟩⟩⟩⟩⟩⟩⟩⟩⟩⟩⟩⟩⟩⟩⟩⟩⟩⟩⟩⟩⟩⟩⟩⟩⟩⟩⟩⟩⟩⟩⟩⟩⟩⟩⟩⟩⟩⟩⟩⟩⟩⟩⟩⟩⟩⟩⟩ ⟨eq28_ok, ⟨eq51_ok, ⟨eq87_ok, ⟨eq93_ok, ⟨eq96_ok, ⟨eq112_ok, trivial⟩⟩⟩⟩⟩⟩
end Go.Proofs.Ytpnmfoojmodnlaa
