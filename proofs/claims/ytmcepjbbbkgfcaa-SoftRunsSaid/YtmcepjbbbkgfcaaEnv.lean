/-
  The types of the translation, as the executor wants them, with the proof that they are as the program says. Written by genenv.py.
-/
import Derived.Test.YtmcepjbbbkgfcaaRows
import Derived.Test.YtmcepjbbbkgfcaaSxW
namespace Go.Proofs.Ytmcepjbbbkgfcaa
open Go.Sx
@[reducible] def tyboundsError : Ty := .pair (.int .i64) (.pair (.int .i64) (.pair (.bool) (.int .u8)))
@[reducible] def tyerrorAddressString : Ty := .pair (.str) (.int .u64)
@[reducible] def tyTally : Ty := .pair (.int .i64) (.pair (.int .i64) (.bool))
@[reducible] def tyHandler : Ty := .pair (.int .i64) (.int .i64)
@[reducible] def tyPinOp : Ty := .pair (.int .i64) (.int .i64)
@[reducible] def tyPin : Ty := .pair (.int .i64) (.pair (.int .i64) (.pair (.bool) (.pair (.bool) (.pair (.bool) (.pair (.bool) (.bool))))))
@[reducible] def tySent : Ty := .pair (.int .i64) (.pair (.int .i64) (.int .i64))
@[reducible] def tyNic : Ty := .pair (.sl (.int .i64)) (.pair (.int .i64) (.pair (.int .i64) (.pair (.bool) (.pair (.bool) (.int .i64)))))
@[reducible] def tyPipe : Ty := .pair (.sl (.int .u8)) (.pair (.int .i64) (.int .i64))
@[reducible] def tyLock : Ty := .pair (.int .i64) (.pair (.int .i64) (.pair (.arr 8 (.int .i64)) (.arr 8 (.bool))))
@[reducible] def tyRing : Ty := .pair (.sl (.pair (.bool) (.int .i64))) (.pair (.int .i64) (.pair (.int .i64) (.int .i64)))
@[reducible] def tystate : Ty := .pair (.arr 8 (.bool)) (.pair (.sl (.pair (.int .i64) (.arr 8 (.bool)))) (.sl (.int .i64)))
@[reducible] def tyGraceOp : Ty := .pair (.int .i64) (.pair (.int .i64) (.int .i64))
@[reducible] def tyretired : Ty := .pair (.int .i64) (.arr 8 (.bool))
@[reducible] def tything : Ty := .pair (.int .i64) (.int .i64)
@[reducible] def tyrunner : Ty := .pair (.arr 8 (.bool)) (.pair (.sl (.pair (.int .i64) (.int .i64))) (.sl (.int .i64)))
@[reducible] def tyRaise : Ty := .pair (.int .i64) (.int .i64)
@[reducible] def tyNicOp : Ty := .pair (.int .i64) (.int .i64)
@[reducible] def tyPipeOp : Ty := .pair (.int .i64) (.pair (.int .i64) (.sl (.int .u8)))
@[reducible] def tyLockOp : Ty := .pair (.int .i64) (.int .i64)
@[reducible] def tyRingOp : Ty := .pair (.int .i64) (.int .i64)
@[reducible] def tyCell : Ty := .pair (.bool) (.int .i64)
/-- int64 -/
def ti2 : TI := ⟨1, 8, .scalar (.int .i64), [.d (.int .i64) (0 : Int)], some (.int .i64)⟩
theorem ti2_ok : TIok Try.prog 2 ti2 := TIok.mk1 (by kernel_rfl) (by kernel_rfl) (by kernel_rfl) (.inr rfl) (⟨Try.underlying2, trivial⟩) (⟨by kernel_rfl, by kernel_rfl, by kernel_rfl, by kernel_rfl⟩)
/-- int -/
def ti3 : TI := ⟨1, 8, .scalar (.int .i64), [.d (.int .i64) (0 : Int)], some (.int .i64)⟩
theorem ti3_ok : TIok Try.prog 3 ti3 := TIok.mk1 (by kernel_rfl) (by kernel_rfl) (by kernel_rfl) (.inr rfl) (⟨Try.underlying3, trivial⟩) (⟨by kernel_rfl, by kernel_rfl, by kernel_rfl, by kernel_rfl⟩)
/-- bool -/
def ti4 : TI := ⟨1, 1, .scalar .bool, [.lit false], some (.bool)⟩
theorem ti4_ok : TIok Try.prog 4 ti4 := TIok.mk1 (by kernel_rfl) (by kernel_rfl) (by kernel_rfl) (.inr rfl) (⟨Try.underlying4, trivial⟩) (⟨by kernel_rfl, by kernel_rfl, by kernel_rfl, by kernel_rfl⟩)
/-- uint8 -/
def ti5 : TI := ⟨1, 1, .scalar (.int .u8), [.d (.int .u8) (0 : Int)], some (.int .u8)⟩
theorem ti5_ok : TIok Try.prog 5 ti5 := TIok.mk1 (by kernel_rfl) (by kernel_rfl) (by kernel_rfl) (.inr rfl) (⟨Try.underlying5, trivial⟩) (⟨by kernel_rfl, by kernel_rfl, by kernel_rfl, by kernel_rfl⟩)
/-- abi.BoundsErrorCode -/
def ti6 : TI := ⟨1, 1, .scalar (.int .u8), [.d (.int .u8) (0 : Int)], some (.int .u8)⟩
theorem ti6_ok : TIok Try.prog 6 ti6 := TIok.mk1 (by kernel_rfl) (by kernel_rfl) (by kernel_rfl) (.inr rfl) (⟨Try.underlying6, trivial⟩) (⟨by kernel_rfl, by kernel_rfl, by kernel_rfl, by kernel_rfl⟩)
/-- struct { x int64; y int; signed bool; code abi.BoundsErrorCode } -/
def ti7 : TI := ⟨4, 24, .struct [(0, 2), (1, 3), (2, 4), (3, 6)], [.d (.int .i64) (0 : Int), .d (.int .i64) (0 : Int), .lit false, .d (.int .u8) (0 : Int)], some (.pair (.int .i64) (.pair (.int .i64) (.pair (.bool) (.int .u8))))⟩
theorem ti7_ok : TIok Try.prog 7 ti7 := TIok.mk1 (by kernel_rfl) (by kernel_rfl) (by kernel_rfl) (.inl rfl) (⟨_, Try.underlying7, by kernel_rfl⟩) (⟨by kernel_rfl, by kernel_rfl, by kernel_rfl, by kernel_rfl⟩)
/-- runtime.boundsError -/
def ti8 : TI := ⟨4, 24, .struct [(0, 2), (1, 3), (2, 4), (3, 6)], [.d (.int .i64) (0 : Int), .d (.int .i64) (0 : Int), .lit false, .d (.int .u8) (0 : Int)], some (.pair (.int .i64) (.pair (.int .i64) (.pair (.bool) (.int .u8))))⟩
theorem ti8_ok : TIok Try.prog 8 ti8 := TIok.mk1 (by kernel_rfl) (by kernel_rfl) (by kernel_rfl) (.inl rfl) (⟨_, Try.underlying8, by kernel_rfl⟩) (⟨by kernel_rfl, by kernel_rfl, by kernel_rfl, by kernel_rfl⟩)
/-- string -/
def ti9 : TI := ⟨1, 16, .scalar .string, [.d .str ([] : List Int)], some (.str)⟩
theorem ti9_ok : TIok Try.prog 9 ti9 := TIok.mk1 (by kernel_rfl) (by kernel_rfl) (by kernel_rfl) (.inr rfl) (⟨Try.underlying9, trivial⟩) (⟨by kernel_rfl, by kernel_rfl, by kernel_rfl, by kernel_rfl⟩)
/-- runtime.errorString -/
def ti10 : TI := ⟨1, 16, .scalar .string, [.d .str ([] : List Int)], some (.str)⟩
theorem ti10_ok : TIok Try.prog 10 ti10 := TIok.mk1 (by kernel_rfl) (by kernel_rfl) (by kernel_rfl) (.inr rfl) (⟨Try.underlying10, trivial⟩) (⟨by kernel_rfl, by kernel_rfl, by kernel_rfl, by kernel_rfl⟩)
/-- runtime.plainError -/
def ti11 : TI := ⟨1, 16, .scalar .string, [.d .str ([] : List Int)], some (.str)⟩
theorem ti11_ok : TIok Try.prog 11 ti11 := TIok.mk1 (by kernel_rfl) (by kernel_rfl) (by kernel_rfl) (.inr rfl) (⟨Try.underlying11, trivial⟩) (⟨by kernel_rfl, by kernel_rfl, by kernel_rfl, by kernel_rfl⟩)
/-- uintptr -/
def ti12 : TI := ⟨1, 8, .scalar (.int .u64), [.d (.int .u64) (0 : Int)], some (.int .u64)⟩
theorem ti12_ok : TIok Try.prog 12 ti12 := TIok.mk1 (by kernel_rfl) (by kernel_rfl) (by kernel_rfl) (.inr rfl) (⟨Try.underlying12, trivial⟩) (⟨by kernel_rfl, by kernel_rfl, by kernel_rfl, by kernel_rfl⟩)
/-- struct { msg string; addr uintptr } -/
def ti13 : TI := ⟨2, 24, .struct [(0, 9), (1, 12)], [.d .str ([] : List Int), .d (.int .u64) (0 : Int)], some (.pair (.str) (.int .u64))⟩
theorem ti13_ok : TIok Try.prog 13 ti13 := TIok.mk1 (by kernel_rfl) (by kernel_rfl) (by kernel_rfl) (.inl rfl) (⟨_, Try.underlying13, by kernel_rfl⟩) (⟨by kernel_rfl, by kernel_rfl, by kernel_rfl, by kernel_rfl⟩)
/-- runtime.errorAddressString -/
def ti14 : TI := ⟨2, 24, .struct [(0, 9), (1, 12)], [.d .str ([] : List Int), .d (.int .u64) (0 : Int)], some (.pair (.str) (.int .u64))⟩
theorem ti14_ok : TIok Try.prog 14 ti14 := TIok.mk1 (by kernel_rfl) (by kernel_rfl) (by kernel_rfl) (.inl rfl) (⟨_, Try.underlying14, by kernel_rfl⟩) (⟨by kernel_rfl, by kernel_rfl, by kernel_rfl, by kernel_rfl⟩)
/-- *runtime.TypeAssertionError -/
def ti15 : TI := ⟨1, 8, .scalar (.pointer 182), [.con (.pointer none)], none⟩
theorem ti15_ok : TIok Try.prog 15 ti15 := TIok.mk1 (by kernel_rfl) (by kernel_rfl) (by kernel_rfl) (.inr rfl) (⟨Try.underlying15, trivial⟩) (trivial)
/-- *runtime.PanicNilError -/
def ti16 : TI := ⟨1, 8, .scalar (.pointer 185), [.con (.pointer none)], none⟩
theorem ti16_ok : TIok Try.prog 16 ti16 := TIok.mk1 (by kernel_rfl) (by kernel_rfl) (by kernel_rfl) (.inr rfl) (⟨Try.underlying16, trivial⟩) (trivial)
/-- *abi.Type -/
def ti17 : TI := ⟨1, 8, .scalar (.pointer 195), [.con (.pointer none)], none⟩
theorem ti17_ok : TIok Try.prog 17 ti17 := TIok.mk1 (by kernel_rfl) (by kernel_rfl) (by kernel_rfl) (.inr rfl) (⟨Try.underlying17, trivial⟩) (trivial)
/-- struct { typ *abi.Type } -/
def ti18 : TI := ⟨1, 8, .struct [(0, 17)], [.con (.pointer none)], none⟩
theorem ti18_ok : TIok Try.prog 18 ti18 := TIok.mk1 (by kernel_rfl) (by kernel_rfl) (by kernel_rfl) (.inl rfl) (⟨_, Try.underlying18, by kernel_rfl⟩) (trivial)
/-- maps.unhashableTypeError -/
def ti19 : TI := ⟨1, 8, .struct [(0, 17)], [.con (.pointer none)], none⟩
theorem ti19_ok : TIok Try.prog 19 ti19 := TIok.mk1 (by kernel_rfl) (by kernel_rfl) (by kernel_rfl) (.inl rfl) (⟨_, Try.underlying19, by kernel_rfl⟩) (trivial)
/-- int32 -/
def ti21 : TI := ⟨1, 4, .scalar (.int .i32), [.d (.int .i32) (0 : Int)], some (.int .i32)⟩
theorem ti21_ok : TIok Try.prog 21 ti21 := TIok.mk1 (by kernel_rfl) (by kernel_rfl) (by kernel_rfl) (.inr rfl) (⟨Try.underlying21, trivial⟩) (⟨by kernel_rfl, by kernel_rfl, by kernel_rfl, by kernel_rfl⟩)
/-- []api.Handler -/
def ti22 : TI := ⟨1, 24, .slice 32, [.con (.slice none 0 0)], some (.sl (.pair (.int .i64) (.int .i64)))⟩
theorem ti22_ok : TIok Try.prog 22 ti22 := TIok.mk1 (by kernel_rfl) (by kernel_rfl) (by kernel_rfl) (.inr rfl) (Try.underlying22) (⟨by kernel_rfl, by kernel_rfl, by kernel_rfl, by kernel_rfl⟩)
/-- struct { Came int; Nobody int; Off bool } -/
def ti23 : TI := ⟨3, 24, .struct [(0, 3), (1, 3), (2, 4)], [.d (.int .i64) (0 : Int), .d (.int .i64) (0 : Int), .lit false], some (.pair (.int .i64) (.pair (.int .i64) (.bool)))⟩
theorem ti23_ok : TIok Try.prog 23 ti23 := TIok.mk1 (by kernel_rfl) (by kernel_rfl) (by kernel_rfl) (.inl rfl) (⟨_, Try.underlying23, by kernel_rfl⟩) (⟨by kernel_rfl, by kernel_rfl, by kernel_rfl, by kernel_rfl⟩)
/-- api.Tally -/
def ti24 : TI := ⟨3, 24, .struct [(0, 3), (1, 3), (2, 4)], [.d (.int .i64) (0 : Int), .d (.int .i64) (0 : Int), .lit false], some (.pair (.int .i64) (.pair (.int .i64) (.bool)))⟩
theorem ti24_ok : TIok Try.prog 24 ti24 := TIok.mk1 (by kernel_rfl) (by kernel_rfl) (by kernel_rfl) (.inl rfl) (⟨_, Try.underlying24, by kernel_rfl⟩) (⟨by kernel_rfl, by kernel_rfl, by kernel_rfl, by kernel_rfl⟩)
/-- []int -/
def ti25 : TI := ⟨1, 24, .slice 3, [.con (.slice none 0 0)], some (.sl (.int .i64))⟩
theorem ti25_ok : TIok Try.prog 25 ti25 := TIok.mk1 (by kernel_rfl) (by kernel_rfl) (by kernel_rfl) (.inr rfl) (Try.underlying25) (⟨by kernel_rfl, by kernel_rfl, by kernel_rfl, by kernel_rfl⟩)
/-- api.Errno -/
def ti26 : TI := ⟨1, 8, .scalar (.int .i64), [.d (.int .i64) (0 : Int)], some (.int .i64)⟩
theorem ti26_ok : TIok Try.prog 26 ti26 := TIok.mk1 (by kernel_rfl) (by kernel_rfl) (by kernel_rfl) (.inr rfl) (⟨Try.underlying26, trivial⟩) (⟨by kernel_rfl, by kernel_rfl, by kernel_rfl, by kernel_rfl⟩)
/-- struct { Says int; Left int } -/
def ti31 : TI := ⟨2, 16, .struct [(0, 3), (1, 3)], [.d (.int .i64) (0 : Int), .d (.int .i64) (0 : Int)], some (.pair (.int .i64) (.int .i64))⟩
theorem ti31_ok : TIok Try.prog 31 ti31 := TIok.mk1 (by kernel_rfl) (by kernel_rfl) (by kernel_rfl) (.inl rfl) (⟨_, Try.underlying31, by kernel_rfl⟩) (⟨by kernel_rfl, by kernel_rfl, by kernel_rfl, by kernel_rfl⟩)
/-- api.Handler -/
def ti32 : TI := ⟨2, 16, .struct [(0, 3), (1, 3)], [.d (.int .i64) (0 : Int), .d (.int .i64) (0 : Int)], some (.pair (.int .i64) (.int .i64))⟩
theorem ti32_ok : TIok Try.prog 32 ti32 := TIok.mk1 (by kernel_rfl) (by kernel_rfl) (by kernel_rfl) (.inl rfl) (⟨_, Try.underlying32, by kernel_rfl⟩) (⟨by kernel_rfl, by kernel_rfl, by kernel_rfl, by kernel_rfl⟩)
/-- []api.GraceOp -/
def ti35 : TI := ⟨1, 24, .slice 116, [.con (.slice none 0 0)], some (.sl (.pair (.int .i64) (.pair (.int .i64) (.int .i64))))⟩
theorem ti35_ok : TIok Try.prog 35 ti35 := TIok.mk1 (by kernel_rfl) (by kernel_rfl) (by kernel_rfl) (.inr rfl) (Try.underlying35) (⟨by kernel_rfl, by kernel_rfl, by kernel_rfl, by kernel_rfl⟩)
/-- []api.Errno -/
def ti36 : TI := ⟨1, 24, .slice 26, [.con (.slice none 0 0)], some (.sl (.int .i64))⟩
theorem ti36_ok : TIok Try.prog 36 ti36 := TIok.mk1 (by kernel_rfl) (by kernel_rfl) (by kernel_rfl) (.inr rfl) (Try.underlying36) (⟨by kernel_rfl, by kernel_rfl, by kernel_rfl, by kernel_rfl⟩)
/-- []api.Raise -/
def ti41 : TI := ⟨1, 24, .slice 128, [.con (.slice none 0 0)], some (.sl (.pair (.int .i64) (.int .i64)))⟩
theorem ti41_ok : TIok Try.prog 41 ti41 := TIok.mk1 (by kernel_rfl) (by kernel_rfl) (by kernel_rfl) (.inr rfl) (Try.underlying41) (⟨by kernel_rfl, by kernel_rfl, by kernel_rfl, by kernel_rfl⟩)
/-- []api.Pin -/
def ti48 : TI := ⟨1, 24, .slice 60, [.con (.slice none 0 0)], some (.sl (.pair (.int .i64) (.pair (.int .i64) (.pair (.bool) (.pair (.bool) (.pair (.bool) (.pair (.bool) (.bool))))))))⟩
theorem ti48_ok : TIok Try.prog 48 ti48 := TIok.mk1 (by kernel_rfl) (by kernel_rfl) (by kernel_rfl) (.inr rfl) (Try.underlying48) (⟨by kernel_rfl, by kernel_rfl, by kernel_rfl, by kernel_rfl⟩)
/-- struct { Kind int; Pin int } -/
def ti49 : TI := ⟨2, 16, .struct [(0, 3), (1, 3)], [.d (.int .i64) (0 : Int), .d (.int .i64) (0 : Int)], some (.pair (.int .i64) (.int .i64))⟩
theorem ti49_ok : TIok Try.prog 49 ti49 := TIok.mk1 (by kernel_rfl) (by kernel_rfl) (by kernel_rfl) (.inl rfl) (⟨_, Try.underlying49, by kernel_rfl⟩) (⟨by kernel_rfl, by kernel_rfl, by kernel_rfl, by kernel_rfl⟩)
/-- api.PinOp -/
def ti50 : TI := ⟨2, 16, .struct [(0, 3), (1, 3)], [.d (.int .i64) (0 : Int), .d (.int .i64) (0 : Int)], some (.pair (.int .i64) (.int .i64))⟩
theorem ti50_ok : TIok Try.prog 50 ti50 := TIok.mk1 (by kernel_rfl) (by kernel_rfl) (by kernel_rfl) (.inl rfl) (⟨_, Try.underlying50, by kernel_rfl⟩) (⟨by kernel_rfl, by kernel_rfl, by kernel_rfl, by kernel_rfl⟩)
/-- []api.Sent -/
def ti51 : TI := ⟨1, 24, .slice 63, [.con (.slice none 0 0)], some (.sl (.pair (.int .i64) (.pair (.int .i64) (.int .i64))))⟩
theorem ti51_ok : TIok Try.prog 51 ti51 := TIok.mk1 (by kernel_rfl) (by kernel_rfl) (by kernel_rfl) (.inr rfl) (Try.underlying51) (⟨by kernel_rfl, by kernel_rfl, by kernel_rfl, by kernel_rfl⟩)
/-- []api.PinOp -/
def ti57 : TI := ⟨1, 24, .slice 50, [.con (.slice none 0 0)], some (.sl (.pair (.int .i64) (.int .i64)))⟩
theorem ti57_ok : TIok Try.prog 57 ti57 := TIok.mk1 (by kernel_rfl) (by kernel_rfl) (by kernel_rfl) (.inr rfl) (Try.underlying57) (⟨by kernel_rfl, by kernel_rfl, by kernel_rfl, by kernel_rfl⟩)
/-- struct { Core int; Vec int; Level bool; Masked bool; Up bool; Kept bool; Sent bool } -/
def ti59 : TI := ⟨7, 24, .struct [(0, 3), (1, 3), (2, 4), (3, 4), (4, 4), (5, 4), (6, 4)], [.d (.int .i64) (0 : Int), .d (.int .i64) (0 : Int), .lit false, .lit false, .lit false, .lit false, .lit false], some (.pair (.int .i64) (.pair (.int .i64) (.pair (.bool) (.pair (.bool) (.pair (.bool) (.pair (.bool) (.bool)))))))⟩
theorem ti59_ok : TIok Try.prog 59 ti59 := TIok.mk1 (by kernel_rfl) (by kernel_rfl) (by kernel_rfl) (.inl rfl) (⟨_, Try.underlying59, by kernel_rfl⟩) (⟨by kernel_rfl, by kernel_rfl, by kernel_rfl, by kernel_rfl⟩)
/-- api.Pin -/
def ti60 : TI := ⟨7, 24, .struct [(0, 3), (1, 3), (2, 4), (3, 4), (4, 4), (5, 4), (6, 4)], [.d (.int .i64) (0 : Int), .d (.int .i64) (0 : Int), .lit false, .lit false, .lit false, .lit false, .lit false], some (.pair (.int .i64) (.pair (.int .i64) (.pair (.bool) (.pair (.bool) (.pair (.bool) (.pair (.bool) (.bool)))))))⟩
theorem ti60_ok : TIok Try.prog 60 ti60 := TIok.mk1 (by kernel_rfl) (by kernel_rfl) (by kernel_rfl) (.inl rfl) (⟨_, Try.underlying60, by kernel_rfl⟩) (⟨by kernel_rfl, by kernel_rfl, by kernel_rfl, by kernel_rfl⟩)
/-- struct { Pin int; Core int; Vec int } -/
def ti62 : TI := ⟨3, 24, .struct [(0, 3), (1, 3), (2, 3)], [.d (.int .i64) (0 : Int), .d (.int .i64) (0 : Int), .d (.int .i64) (0 : Int)], some (.pair (.int .i64) (.pair (.int .i64) (.int .i64)))⟩
theorem ti62_ok : TIok Try.prog 62 ti62 := TIok.mk1 (by kernel_rfl) (by kernel_rfl) (by kernel_rfl) (.inl rfl) (⟨_, Try.underlying62, by kernel_rfl⟩) (⟨by kernel_rfl, by kernel_rfl, by kernel_rfl, by kernel_rfl⟩)
/-- api.Sent -/
def ti63 : TI := ⟨3, 24, .struct [(0, 3), (1, 3), (2, 3)], [.d (.int .i64) (0 : Int), .d (.int .i64) (0 : Int), .d (.int .i64) (0 : Int)], some (.pair (.int .i64) (.pair (.int .i64) (.int .i64)))⟩
theorem ti63_ok : TIok Try.prog 63 ti63 := TIok.mk1 (by kernel_rfl) (by kernel_rfl) (by kernel_rfl) (.inl rfl) (⟨_, Try.underlying63, by kernel_rfl⟩) (⟨by kernel_rfl, by kernel_rfl, by kernel_rfl, by kernel_rfl⟩)
/-- []api.NicOp -/
def ti65 : TI := ⟨1, 24, .slice 140, [.con (.slice none 0 0)], some (.sl (.pair (.int .i64) (.int .i64)))⟩
theorem ti65_ok : TIok Try.prog 65 ti65 := TIok.mk1 (by kernel_rfl) (by kernel_rfl) (by kernel_rfl) (.inr rfl) (Try.underlying65) (⟨by kernel_rfl, by kernel_rfl, by kernel_rfl, by kernel_rfl⟩)
/-- struct { Has []int; Room int; Lost int; May bool; Due bool; Asked int } -/
def ti66 : TI := ⟨6, 56, .struct [(0, 25), (1, 3), (2, 3), (3, 4), (4, 4), (5, 3)], [.con (.slice none 0 0), .d (.int .i64) (0 : Int), .d (.int .i64) (0 : Int), .lit false, .lit false, .d (.int .i64) (0 : Int)], some (.pair (.sl (.int .i64)) (.pair (.int .i64) (.pair (.int .i64) (.pair (.bool) (.pair (.bool) (.int .i64))))))⟩
theorem ti66_ok : TIok Try.prog 66 ti66 := TIok.mk1 (by kernel_rfl) (by kernel_rfl) (by kernel_rfl) (.inl rfl) (⟨_, Try.underlying66, by kernel_rfl⟩) (⟨by kernel_rfl, by kernel_rfl, by kernel_rfl, by kernel_rfl⟩)
/-- api.Nic -/
def ti67 : TI := ⟨6, 56, .struct [(0, 25), (1, 3), (2, 3), (3, 4), (4, 4), (5, 3)], [.con (.slice none 0 0), .d (.int .i64) (0 : Int), .d (.int .i64) (0 : Int), .lit false, .lit false, .d (.int .i64) (0 : Int)], some (.pair (.sl (.int .i64)) (.pair (.int .i64) (.pair (.int .i64) (.pair (.bool) (.pair (.bool) (.int .i64))))))⟩
theorem ti67_ok : TIok Try.prog 67 ti67 := TIok.mk1 (by kernel_rfl) (by kernel_rfl) (by kernel_rfl) (.inl rfl) (⟨_, Try.underlying67, by kernel_rfl⟩) (⟨by kernel_rfl, by kernel_rfl, by kernel_rfl, by kernel_rfl⟩)
/-- []api.PipeOp -/
def ti74 : TI := ⟨1, 24, .slice 144, [.con (.slice none 0 0)], some (.sl (.pair (.int .i64) (.pair (.int .i64) (.sl (.int .u8)))))⟩
theorem ti74_ok : TIok Try.prog 74 ti74 := TIok.mk1 (by kernel_rfl) (by kernel_rfl) (by kernel_rfl) (.inr rfl) (Try.underlying74) (⟨by kernel_rfl, by kernel_rfl, by kernel_rfl, by kernel_rfl⟩)
/-- []uint8 -/
def ti75 : TI := ⟨1, 24, .slice 5, [.con (.slice none 0 0)], some (.sl (.int .u8))⟩
theorem ti75_ok : TIok Try.prog 75 ti75 := TIok.mk1 (by kernel_rfl) (by kernel_rfl) (by kernel_rfl) (.inr rfl) (Try.underlying75) (⟨by kernel_rfl, by kernel_rfl, by kernel_rfl, by kernel_rfl⟩)
/-- struct { Has []uint8; Writers int; Readers int } -/
def ti76 : TI := ⟨3, 40, .struct [(0, 75), (1, 3), (2, 3)], [.con (.slice none 0 0), .d (.int .i64) (0 : Int), .d (.int .i64) (0 : Int)], some (.pair (.sl (.int .u8)) (.pair (.int .i64) (.int .i64)))⟩
theorem ti76_ok : TIok Try.prog 76 ti76 := TIok.mk1 (by kernel_rfl) (by kernel_rfl) (by kernel_rfl) (.inl rfl) (⟨_, Try.underlying76, by kernel_rfl⟩) (⟨by kernel_rfl, by kernel_rfl, by kernel_rfl, by kernel_rfl⟩)
/-- api.Pipe -/
def ti77 : TI := ⟨3, 40, .struct [(0, 75), (1, 3), (2, 3)], [.con (.slice none 0 0), .d (.int .i64) (0 : Int), .d (.int .i64) (0 : Int)], some (.pair (.sl (.int .u8)) (.pair (.int .i64) (.int .i64)))⟩
theorem ti77_ok : TIok Try.prog 77 ti77 := TIok.mk1 (by kernel_rfl) (by kernel_rfl) (by kernel_rfl) (.inl rfl) (⟨_, Try.underlying77, by kernel_rfl⟩) (⟨by kernel_rfl, by kernel_rfl, by kernel_rfl, by kernel_rfl⟩)
/-- []api.LockOp -/
def ti88 : TI := ⟨1, 24, .slice 148, [.con (.slice none 0 0)], some (.sl (.pair (.int .i64) (.int .i64)))⟩
theorem ti88_ok : TIok Try.prog 88 ti88 := TIok.mk1 (by kernel_rfl) (by kernel_rfl) (by kernel_rfl) (.inr rfl) (Try.underlying88) (⟨by kernel_rfl, by kernel_rfl, by kernel_rfl, by kernel_rfl⟩)
/-- [8]int -/
def ti89 : TI := ⟨8, 64, .arr 8 3, [.d (.arr 8 (.int .i64)) (List.replicate 8 (Ty.zero (.int .i64)))], some (.arr 8 (.int .i64))⟩
theorem ti89_ok : TIok Try.prog 89 ti89 := TIok.mk1 (by kernel_rfl) (by kernel_rfl) (by kernel_rfl) (.inl rfl) (Try.underlying89) (⟨by kernel_rfl, by kernel_rfl, by kernel_rfl, by kernel_rfl⟩)
/-- [8]bool -/
def ti90 : TI := ⟨8, 8, .arr 8 4, [.d (.arr 8 (.bool)) (List.replicate 8 (Ty.zero (.bool)))], some (.arr 8 (.bool))⟩
theorem ti90_ok : TIok Try.prog 90 ti90 := TIok.mk1 (by kernel_rfl) (by kernel_rfl) (by kernel_rfl) (.inl rfl) (Try.underlying90) (⟨by kernel_rfl, by kernel_rfl, by kernel_rfl, by kernel_rfl⟩)
/-- struct { Next int; Now int; Mine [8]int; In [8]bool } -/
def ti91 : TI := ⟨18, 88, .struct [(0, 3), (1, 3), (2, 89), (10, 90)], [.d (.int .i64) (0 : Int), .d (.int .i64) (0 : Int), .d (.arr 8 (.int .i64)) (List.replicate 8 (Ty.zero (.int .i64))), .d (.arr 8 (.bool)) (List.replicate 8 (Ty.zero (.bool)))], some (.pair (.int .i64) (.pair (.int .i64) (.pair (.arr 8 (.int .i64)) (.arr 8 (.bool)))))⟩
theorem ti91_ok : TIok Try.prog 91 ti91 := TIok.mk1 (by kernel_rfl) (by kernel_rfl) (by kernel_rfl) (.inl rfl) (⟨_, Try.underlying91, by kernel_rfl⟩) (⟨by kernel_rfl, by kernel_rfl, by kernel_rfl, by kernel_rfl⟩)
/-- api.Lock -/
def ti92 : TI := ⟨18, 88, .struct [(0, 3), (1, 3), (2, 89), (10, 90)], [.d (.int .i64) (0 : Int), .d (.int .i64) (0 : Int), .d (.arr 8 (.int .i64)) (List.replicate 8 (Ty.zero (.int .i64))), .d (.arr 8 (.bool)) (List.replicate 8 (Ty.zero (.bool)))], some (.pair (.int .i64) (.pair (.int .i64) (.pair (.arr 8 (.int .i64)) (.arr 8 (.bool)))))⟩
theorem ti92_ok : TIok Try.prog 92 ti92 := TIok.mk1 (by kernel_rfl) (by kernel_rfl) (by kernel_rfl) (.inl rfl) (⟨_, Try.underlying92, by kernel_rfl⟩) (⟨by kernel_rfl, by kernel_rfl, by kernel_rfl, by kernel_rfl⟩)
/-- []api.RingOp -/
def ti97 : TI := ⟨1, 24, .slice 154, [.con (.slice none 0 0)], some (.sl (.pair (.int .i64) (.int .i64)))⟩
theorem ti97_ok : TIok Try.prog 97 ti97 := TIok.mk1 (by kernel_rfl) (by kernel_rfl) (by kernel_rfl) (.inr rfl) (Try.underlying97) (⟨by kernel_rfl, by kernel_rfl, by kernel_rfl, by kernel_rfl⟩)
/-- []api.Cell -/
def ti98 : TI := ⟨1, 24, .slice 158, [.con (.slice none 0 0)], some (.sl (.pair (.bool) (.int .i64)))⟩
theorem ti98_ok : TIok Try.prog 98 ti98 := TIok.mk1 (by kernel_rfl) (by kernel_rfl) (by kernel_rfl) (.inr rfl) (Try.underlying98) (⟨by kernel_rfl, by kernel_rfl, by kernel_rfl, by kernel_rfl⟩)
/-- struct { Cells []api.Cell; Give int; Take int; Work int } -/
def ti99 : TI := ⟨4, 48, .struct [(0, 98), (1, 3), (2, 3), (3, 3)], [.con (.slice none 0 0), .d (.int .i64) (0 : Int), .d (.int .i64) (0 : Int), .d (.int .i64) (0 : Int)], some (.pair (.sl (.pair (.bool) (.int .i64))) (.pair (.int .i64) (.pair (.int .i64) (.int .i64))))⟩
theorem ti99_ok : TIok Try.prog 99 ti99 := TIok.mk1 (by kernel_rfl) (by kernel_rfl) (by kernel_rfl) (.inl rfl) (⟨_, Try.underlying99, by kernel_rfl⟩) (⟨by kernel_rfl, by kernel_rfl, by kernel_rfl, by kernel_rfl⟩)
/-- api.Ring -/
def ti100 : TI := ⟨4, 48, .struct [(0, 98), (1, 3), (2, 3), (3, 3)], [.con (.slice none 0 0), .d (.int .i64) (0 : Int), .d (.int .i64) (0 : Int), .d (.int .i64) (0 : Int)], some (.pair (.sl (.pair (.bool) (.int .i64))) (.pair (.int .i64) (.pair (.int .i64) (.int .i64))))⟩
theorem ti100_ok : TIok Try.prog 100 ti100 := TIok.mk1 (by kernel_rfl) (by kernel_rfl) (by kernel_rfl) (.inl rfl) (⟨_, Try.underlying100, by kernel_rfl⟩) (⟨by kernel_rfl, by kernel_rfl, by kernel_rfl, by kernel_rfl⟩)
/-- *api.Handler -/
def ti108 : TI := ⟨1, 8, .scalar (.pointer 32), [.con (.pointer none)], none⟩
theorem ti108_ok : TIok Try.prog 108 ti108 := TIok.mk1 (by kernel_rfl) (by kernel_rfl) (by kernel_rfl) (.inr rfl) (⟨Try.underlying108, trivial⟩) (trivial)
/-- *grace.state -/
def ti111 : TI := ⟨1, 8, .scalar (.pointer 114), [.con (.pointer none)], none⟩
theorem ti111_ok : TIok Try.prog 111 ti111 := TIok.mk1 (by kernel_rfl) (by kernel_rfl) (by kernel_rfl) (.inr rfl) (⟨Try.underlying111, trivial⟩) (trivial)
/-- []grace.retired -/
def ti112 : TI := ⟨1, 24, .slice 119, [.con (.slice none 0 0)], some (.sl (.pair (.int .i64) (.arr 8 (.bool))))⟩
theorem ti112_ok : TIok Try.prog 112 ti112 := TIok.mk1 (by kernel_rfl) (by kernel_rfl) (by kernel_rfl) (.inr rfl) (Try.underlying112) (⟨by kernel_rfl, by kernel_rfl, by kernel_rfl, by kernel_rfl⟩)
/-- struct { in [8]bool; waits []grace.retired; freed []int } -/
def ti113 : TI := ⟨10, 56, .struct [(0, 90), (8, 112), (9, 25)], [.d (.arr 8 (.bool)) (List.replicate 8 (Ty.zero (.bool))), .con (.slice none 0 0), .con (.slice none 0 0)], some (.pair (.arr 8 (.bool)) (.pair (.sl (.pair (.int .i64) (.arr 8 (.bool)))) (.sl (.int .i64))))⟩
theorem ti113_ok : TIok Try.prog 113 ti113 := TIok.mk1 (by kernel_rfl) (by kernel_rfl) (by kernel_rfl) (.inl rfl) (⟨_, Try.underlying113, by kernel_rfl⟩) (⟨by kernel_rfl, by kernel_rfl, by kernel_rfl, by kernel_rfl⟩)
/-- grace.state -/
def ti114 : TI := ⟨10, 56, .struct [(0, 90), (8, 112), (9, 25)], [.d (.arr 8 (.bool)) (List.replicate 8 (Ty.zero (.bool))), .con (.slice none 0 0), .con (.slice none 0 0)], some (.pair (.arr 8 (.bool)) (.pair (.sl (.pair (.int .i64) (.arr 8 (.bool)))) (.sl (.int .i64))))⟩
theorem ti114_ok : TIok Try.prog 114 ti114 := TIok.mk1 (by kernel_rfl) (by kernel_rfl) (by kernel_rfl) (.inl rfl) (⟨_, Try.underlying114, by kernel_rfl⟩) (⟨by kernel_rfl, by kernel_rfl, by kernel_rfl, by kernel_rfl⟩)
/-- struct { Kind int; Core int; Thing int } -/
def ti115 : TI := ⟨3, 24, .struct [(0, 3), (1, 3), (2, 3)], [.d (.int .i64) (0 : Int), .d (.int .i64) (0 : Int), .d (.int .i64) (0 : Int)], some (.pair (.int .i64) (.pair (.int .i64) (.int .i64)))⟩
theorem ti115_ok : TIok Try.prog 115 ti115 := TIok.mk1 (by kernel_rfl) (by kernel_rfl) (by kernel_rfl) (.inl rfl) (⟨_, Try.underlying115, by kernel_rfl⟩) (⟨by kernel_rfl, by kernel_rfl, by kernel_rfl, by kernel_rfl⟩)
/-- api.GraceOp -/
def ti116 : TI := ⟨3, 24, .struct [(0, 3), (1, 3), (2, 3)], [.d (.int .i64) (0 : Int), .d (.int .i64) (0 : Int), .d (.int .i64) (0 : Int)], some (.pair (.int .i64) (.pair (.int .i64) (.int .i64)))⟩
theorem ti116_ok : TIok Try.prog 116 ti116 := TIok.mk1 (by kernel_rfl) (by kernel_rfl) (by kernel_rfl) (.inl rfl) (⟨_, Try.underlying116, by kernel_rfl⟩) (⟨by kernel_rfl, by kernel_rfl, by kernel_rfl, by kernel_rfl⟩)
/-- struct { thing int; cores [8]bool } -/
def ti118 : TI := ⟨9, 16, .struct [(0, 3), (1, 90)], [.d (.int .i64) (0 : Int), .d (.arr 8 (.bool)) (List.replicate 8 (Ty.zero (.bool)))], some (.pair (.int .i64) (.arr 8 (.bool)))⟩
theorem ti118_ok : TIok Try.prog 118 ti118 := TIok.mk1 (by kernel_rfl) (by kernel_rfl) (by kernel_rfl) (.inl rfl) (⟨_, Try.underlying118, by kernel_rfl⟩) (⟨by kernel_rfl, by kernel_rfl, by kernel_rfl, by kernel_rfl⟩)
/-- grace.retired -/
def ti119 : TI := ⟨9, 16, .struct [(0, 3), (1, 90)], [.d (.int .i64) (0 : Int), .d (.arr 8 (.bool)) (List.replicate 8 (Ty.zero (.bool)))], some (.pair (.int .i64) (.arr 8 (.bool)))⟩
theorem ti119_ok : TIok Try.prog 119 ti119 := TIok.mk1 (by kernel_rfl) (by kernel_rfl) (by kernel_rfl) (.inl rfl) (⟨_, Try.underlying119, by kernel_rfl⟩) (⟨by kernel_rfl, by kernel_rfl, by kernel_rfl, by kernel_rfl⟩)
/-- []corebellref.thing -/
def ti120 : TI := ⟨1, 24, .slice 122, [.con (.slice none 0 0)], some (.sl (.pair (.int .i64) (.int .i64)))⟩
theorem ti120_ok : TIok Try.prog 120 ti120 := TIok.mk1 (by kernel_rfl) (by kernel_rfl) (by kernel_rfl) (.inr rfl) (Try.underlying120) (⟨by kernel_rfl, by kernel_rfl, by kernel_rfl, by kernel_rfl⟩)
/-- struct { id int; at int } -/
def ti121 : TI := ⟨2, 16, .struct [(0, 3), (1, 3)], [.d (.int .i64) (0 : Int), .d (.int .i64) (0 : Int)], some (.pair (.int .i64) (.int .i64))⟩
theorem ti121_ok : TIok Try.prog 121 ti121 := TIok.mk1 (by kernel_rfl) (by kernel_rfl) (by kernel_rfl) (.inl rfl) (⟨_, Try.underlying121, by kernel_rfl⟩) (⟨by kernel_rfl, by kernel_rfl, by kernel_rfl, by kernel_rfl⟩)
/-- corebellref.thing -/
def ti122 : TI := ⟨2, 16, .struct [(0, 3), (1, 3)], [.d (.int .i64) (0 : Int), .d (.int .i64) (0 : Int)], some (.pair (.int .i64) (.int .i64))⟩
theorem ti122_ok : TIok Try.prog 122 ti122 := TIok.mk1 (by kernel_rfl) (by kernel_rfl) (by kernel_rfl) (.inl rfl) (⟨_, Try.underlying122, by kernel_rfl⟩) (⟨by kernel_rfl, by kernel_rfl, by kernel_rfl, by kernel_rfl⟩)
/-- *soft.runner -/
def ti123 : TI := ⟨1, 8, .scalar (.pointer 125), [.con (.pointer none)], none⟩
theorem ti123_ok : TIok Try.prog 123 ti123 := TIok.mk1 (by kernel_rfl) (by kernel_rfl) (by kernel_rfl) (.inr rfl) (⟨Try.underlying123, trivial⟩) (trivial)
/-- struct { pending [8]bool; raises []api.Raise; ran []int } -/
def ti124 : TI := ⟨10, 56, .struct [(0, 90), (8, 41), (9, 25)], [.d (.arr 8 (.bool)) (List.replicate 8 (Ty.zero (.bool))), .con (.slice none 0 0), .con (.slice none 0 0)], some (.pair (.arr 8 (.bool)) (.pair (.sl (.pair (.int .i64) (.int .i64))) (.sl (.int .i64))))⟩
theorem ti124_ok : TIok Try.prog 124 ti124 := TIok.mk1 (by kernel_rfl) (by kernel_rfl) (by kernel_rfl) (.inl rfl) (⟨_, Try.underlying124, by kernel_rfl⟩) (⟨by kernel_rfl, by kernel_rfl, by kernel_rfl, by kernel_rfl⟩)
/-- soft.runner -/
def ti125 : TI := ⟨10, 56, .struct [(0, 90), (8, 41), (9, 25)], [.d (.arr 8 (.bool)) (List.replicate 8 (Ty.zero (.bool))), .con (.slice none 0 0), .con (.slice none 0 0)], some (.pair (.arr 8 (.bool)) (.pair (.sl (.pair (.int .i64) (.int .i64))) (.sl (.int .i64))))⟩
theorem ti125_ok : TIok Try.prog 125 ti125 := TIok.mk1 (by kernel_rfl) (by kernel_rfl) (by kernel_rfl) (.inl rfl) (⟨_, Try.underlying125, by kernel_rfl⟩) (⟨by kernel_rfl, by kernel_rfl, by kernel_rfl, by kernel_rfl⟩)
/-- struct { When int; Soft int } -/
def ti127 : TI := ⟨2, 16, .struct [(0, 3), (1, 3)], [.d (.int .i64) (0 : Int), .d (.int .i64) (0 : Int)], some (.pair (.int .i64) (.int .i64))⟩
theorem ti127_ok : TIok Try.prog 127 ti127 := TIok.mk1 (by kernel_rfl) (by kernel_rfl) (by kernel_rfl) (.inl rfl) (⟨_, Try.underlying127, by kernel_rfl⟩) (⟨by kernel_rfl, by kernel_rfl, by kernel_rfl, by kernel_rfl⟩)
/-- api.Raise -/
def ti128 : TI := ⟨2, 16, .struct [(0, 3), (1, 3)], [.d (.int .i64) (0 : Int), .d (.int .i64) (0 : Int)], some (.pair (.int .i64) (.int .i64))⟩
theorem ti128_ok : TIok Try.prog 128 ti128 := TIok.mk1 (by kernel_rfl) (by kernel_rfl) (by kernel_rfl) (.inl rfl) (⟨_, Try.underlying128, by kernel_rfl⟩) (⟨by kernel_rfl, by kernel_rfl, by kernel_rfl, by kernel_rfl⟩)
/-- map[int]bool -/
def ti130 : TI := ⟨1, 8, .scalar (.map 3 4), [.con (.map none)], none⟩
theorem ti130_ok : TIok Try.prog 130 ti130 := TIok.mk1 (by kernel_rfl) (by kernel_rfl) (by kernel_rfl) (.inr rfl) (⟨Try.underlying130, trivial⟩) (trivial)
/-- *api.Pin -/
def ti133 : TI := ⟨1, 8, .scalar (.pointer 60), [.con (.pointer none)], none⟩
theorem ti133_ok : TIok Try.prog 133 ti133 := TIok.mk1 (by kernel_rfl) (by kernel_rfl) (by kernel_rfl) (.inr rfl) (⟨Try.underlying133, trivial⟩) (trivial)
/-- struct { Kind int; N int } -/
def ti139 : TI := ⟨2, 16, .struct [(0, 3), (1, 3)], [.d (.int .i64) (0 : Int), .d (.int .i64) (0 : Int)], some (.pair (.int .i64) (.int .i64))⟩
theorem ti139_ok : TIok Try.prog 139 ti139 := TIok.mk1 (by kernel_rfl) (by kernel_rfl) (by kernel_rfl) (.inl rfl) (⟨_, Try.underlying139, by kernel_rfl⟩) (⟨by kernel_rfl, by kernel_rfl, by kernel_rfl, by kernel_rfl⟩)
/-- api.NicOp -/
def ti140 : TI := ⟨2, 16, .struct [(0, 3), (1, 3)], [.d (.int .i64) (0 : Int), .d (.int .i64) (0 : Int)], some (.pair (.int .i64) (.int .i64))⟩
theorem ti140_ok : TIok Try.prog 140 ti140 := TIok.mk1 (by kernel_rfl) (by kernel_rfl) (by kernel_rfl) (.inl rfl) (⟨_, Try.underlying140, by kernel_rfl⟩) (⟨by kernel_rfl, by kernel_rfl, by kernel_rfl, by kernel_rfl⟩)
/-- struct { Kind int; Most int; Data []uint8 } -/
def ti143 : TI := ⟨3, 40, .struct [(0, 3), (1, 3), (2, 75)], [.d (.int .i64) (0 : Int), .d (.int .i64) (0 : Int), .con (.slice none 0 0)], some (.pair (.int .i64) (.pair (.int .i64) (.sl (.int .u8))))⟩
theorem ti143_ok : TIok Try.prog 143 ti143 := TIok.mk1 (by kernel_rfl) (by kernel_rfl) (by kernel_rfl) (.inl rfl) (⟨_, Try.underlying143, by kernel_rfl⟩) (⟨by kernel_rfl, by kernel_rfl, by kernel_rfl, by kernel_rfl⟩)
/-- api.PipeOp -/
def ti144 : TI := ⟨3, 40, .struct [(0, 3), (1, 3), (2, 75)], [.d (.int .i64) (0 : Int), .d (.int .i64) (0 : Int), .con (.slice none 0 0)], some (.pair (.int .i64) (.pair (.int .i64) (.sl (.int .u8))))⟩
theorem ti144_ok : TIok Try.prog 144 ti144 := TIok.mk1 (by kernel_rfl) (by kernel_rfl) (by kernel_rfl) (.inl rfl) (⟨_, Try.underlying144, by kernel_rfl⟩) (⟨by kernel_rfl, by kernel_rfl, by kernel_rfl, by kernel_rfl⟩)
/-- struct { Kind int; Core int } -/
def ti147 : TI := ⟨2, 16, .struct [(0, 3), (1, 3)], [.d (.int .i64) (0 : Int), .d (.int .i64) (0 : Int)], some (.pair (.int .i64) (.int .i64))⟩
theorem ti147_ok : TIok Try.prog 147 ti147 := TIok.mk1 (by kernel_rfl) (by kernel_rfl) (by kernel_rfl) (.inl rfl) (⟨_, Try.underlying147, by kernel_rfl⟩) (⟨by kernel_rfl, by kernel_rfl, by kernel_rfl, by kernel_rfl⟩)
/-- api.LockOp -/
def ti148 : TI := ⟨2, 16, .struct [(0, 3), (1, 3)], [.d (.int .i64) (0 : Int), .d (.int .i64) (0 : Int)], some (.pair (.int .i64) (.int .i64))⟩
theorem ti148_ok : TIok Try.prog 148 ti148 := TIok.mk1 (by kernel_rfl) (by kernel_rfl) (by kernel_rfl) (.inl rfl) (⟨_, Try.underlying148, by kernel_rfl⟩) (⟨by kernel_rfl, by kernel_rfl, by kernel_rfl, by kernel_rfl⟩)
/-- struct { Kind int; Data int } -/
def ti153 : TI := ⟨2, 16, .struct [(0, 3), (1, 3)], [.d (.int .i64) (0 : Int), .d (.int .i64) (0 : Int)], some (.pair (.int .i64) (.int .i64))⟩
theorem ti153_ok : TIok Try.prog 153 ti153 := TIok.mk1 (by kernel_rfl) (by kernel_rfl) (by kernel_rfl) (.inl rfl) (⟨_, Try.underlying153, by kernel_rfl⟩) (⟨by kernel_rfl, by kernel_rfl, by kernel_rfl, by kernel_rfl⟩)
/-- api.RingOp -/
def ti154 : TI := ⟨2, 16, .struct [(0, 3), (1, 3)], [.d (.int .i64) (0 : Int), .d (.int .i64) (0 : Int)], some (.pair (.int .i64) (.int .i64))⟩
theorem ti154_ok : TIok Try.prog 154 ti154 := TIok.mk1 (by kernel_rfl) (by kernel_rfl) (by kernel_rfl) (.inl rfl) (⟨_, Try.underlying154, by kernel_rfl⟩) (⟨by kernel_rfl, by kernel_rfl, by kernel_rfl, by kernel_rfl⟩)
/-- struct { Device bool; Data int } -/
def ti157 : TI := ⟨2, 16, .struct [(0, 4), (1, 3)], [.lit false, .d (.int .i64) (0 : Int)], some (.pair (.bool) (.int .i64))⟩
theorem ti157_ok : TIok Try.prog 157 ti157 := TIok.mk1 (by kernel_rfl) (by kernel_rfl) (by kernel_rfl) (.inl rfl) (⟨_, Try.underlying157, by kernel_rfl⟩) (⟨by kernel_rfl, by kernel_rfl, by kernel_rfl, by kernel_rfl⟩)
/-- api.Cell -/
def ti158 : TI := ⟨2, 16, .struct [(0, 4), (1, 3)], [.lit false, .d (.int .i64) (0 : Int)], some (.pair (.bool) (.int .i64))⟩
theorem ti158_ok : TIok Try.prog 158 ti158 := TIok.mk1 (by kernel_rfl) (by kernel_rfl) (by kernel_rfl) (.inl rfl) (⟨_, Try.underlying158, by kernel_rfl⟩) (⟨by kernel_rfl, by kernel_rfl, by kernel_rfl, by kernel_rfl⟩)
/-- []bool -/
def ti161 : TI := ⟨1, 24, .slice 4, [.con (.slice none 0 0)], some (.sl (.bool))⟩
theorem ti161_ok : TIok Try.prog 161 ti161 := TIok.mk1 (by kernel_rfl) (by kernel_rfl) (by kernel_rfl) (.inr rfl) (Try.underlying161) (⟨by kernel_rfl, by kernel_rfl, by kernel_rfl, by kernel_rfl⟩)
/-- *int -/
def ti169 : TI := ⟨1, 8, .scalar (.pointer 3), [.con (.pointer none)], none⟩
theorem ti169_ok : TIok Try.prog 169 ti169 := TIok.mk1 (by kernel_rfl) (by kernel_rfl) (by kernel_rfl) (.inr rfl) (⟨Try.underlying169, trivial⟩) (trivial)
/-- map[int]*int -/
def ti170 : TI := ⟨1, 8, .scalar (.map 3 169), [.con (.map none)], none⟩
theorem ti170_ok : TIok Try.prog 170 ti170 := TIok.mk1 (by kernel_rfl) (by kernel_rfl) (by kernel_rfl) (.inr rfl) (⟨Try.underlying170, trivial⟩) (trivial)
/-- *bool -/
def ti173 : TI := ⟨1, 8, .scalar (.pointer 4), [.con (.pointer none)], none⟩
theorem ti173_ok : TIok Try.prog 173 ti173 := TIok.mk1 (by kernel_rfl) (by kernel_rfl) (by kernel_rfl) (.inr rfl) (⟨Try.underlying173, trivial⟩) (trivial)
/-- struct { _interface *abi.Type; concrete *abi.Type; asserted *abi.Type; missingMethod string } -/
def ti181 : TI := ⟨4, 40, .struct [(0, 17), (1, 17), (2, 17), (3, 9)], [.con (.pointer none), .con (.pointer none), .con (.pointer none), .d .str ([] : List Int)], none⟩
theorem ti181_ok : TIok Try.prog 181 ti181 := TIok.mk1 (by kernel_rfl) (by kernel_rfl) (by kernel_rfl) (.inl rfl) (⟨_, Try.underlying181, by kernel_rfl⟩) (trivial)
/-- runtime.TypeAssertionError -/
def ti182 : TI := ⟨4, 40, .struct [(0, 17), (1, 17), (2, 17), (3, 9)], [.con (.pointer none), .con (.pointer none), .con (.pointer none), .d .str ([] : List Int)], none⟩
theorem ti182_ok : TIok Try.prog 182 ti182 := TIok.mk1 (by kernel_rfl) (by kernel_rfl) (by kernel_rfl) (.inl rfl) (⟨_, Try.underlying182, by kernel_rfl⟩) (trivial)
/-- uint32 -/
def ti187 : TI := ⟨1, 4, .scalar (.int .u32), [.d (.int .u32) (0 : Int)], some (.int .u32)⟩
theorem ti187_ok : TIok Try.prog 187 ti187 := TIok.mk1 (by kernel_rfl) (by kernel_rfl) (by kernel_rfl) (.inr rfl) (⟨Try.underlying187, trivial⟩) (⟨by kernel_rfl, by kernel_rfl, by kernel_rfl, by kernel_rfl⟩)
/-- abi.TFlag -/
def ti188 : TI := ⟨1, 1, .scalar (.int .u8), [.d (.int .u8) (0 : Int)], some (.int .u8)⟩
theorem ti188_ok : TIok Try.prog 188 ti188 := TIok.mk1 (by kernel_rfl) (by kernel_rfl) (by kernel_rfl) (.inr rfl) (⟨Try.underlying188, trivial⟩) (⟨by kernel_rfl, by kernel_rfl, by kernel_rfl, by kernel_rfl⟩)
/-- abi.Kind -/
def ti189 : TI := ⟨1, 1, .scalar (.int .u8), [.d (.int .u8) (0 : Int)], some (.int .u8)⟩
theorem ti189_ok : TIok Try.prog 189 ti189 := TIok.mk1 (by kernel_rfl) (by kernel_rfl) (by kernel_rfl) (.inr rfl) (⟨Try.underlying189, trivial⟩) (⟨by kernel_rfl, by kernel_rfl, by kernel_rfl, by kernel_rfl⟩)
/-- *uint8 -/
def ti191 : TI := ⟨1, 8, .scalar (.pointer 5), [.con (.pointer none)], none⟩
theorem ti191_ok : TIok Try.prog 191 ti191 := TIok.mk1 (by kernel_rfl) (by kernel_rfl) (by kernel_rfl) (.inr rfl) (⟨Try.underlying191, trivial⟩) (trivial)
/-- abi.NameOff -/
def ti192 : TI := ⟨1, 4, .scalar (.int .i32), [.d (.int .i32) (0 : Int)], some (.int .i32)⟩
theorem ti192_ok : TIok Try.prog 192 ti192 := TIok.mk1 (by kernel_rfl) (by kernel_rfl) (by kernel_rfl) (.inr rfl) (⟨Try.underlying192, trivial⟩) (⟨by kernel_rfl, by kernel_rfl, by kernel_rfl, by kernel_rfl⟩)
/-- abi.TypeOff -/
def ti193 : TI := ⟨1, 4, .scalar (.int .i32), [.d (.int .i32) (0 : Int)], some (.int .i32)⟩
theorem ti193_ok : TIok Try.prog 193 ti193 := TIok.mk1 (by kernel_rfl) (by kernel_rfl) (by kernel_rfl) (.inr rfl) (⟨Try.underlying193, trivial⟩) (⟨by kernel_rfl, by kernel_rfl, by kernel_rfl, by kernel_rfl⟩)
theorem eq24_ok : EqTy Try.prog 24 (.pair (.int .i64) (.pair (.int .i64) (.bool))) := ⟨(Exists.intro _ (And.intro Try.underlying24 (And.intro (by kernel_rfl) (And.intro (by kernel_rfl) (And.intro (by kernel_rfl) (And.intro Try.underlying3 (And.intro (by kernel_rfl) (And.intro (by kernel_rfl) (And.intro Try.underlying3 (And.intro (by kernel_rfl) (And.intro (by kernel_rfl) Try.underlying4))))))))))), rfl, rfl, by kernel_rfl, by kernel_rfl⟩
theorem eq32_ok : EqTy Try.prog 32 (.pair (.int .i64) (.int .i64)) := ⟨(Exists.intro _ (And.intro Try.underlying32 (And.intro (by kernel_rfl) (And.intro (by kernel_rfl) (And.intro (by kernel_rfl) (And.intro Try.underlying3 (And.intro (by kernel_rfl) (And.intro (by kernel_rfl) Try.underlying3)))))))), rfl, rfl, by kernel_rfl, by kernel_rfl⟩
theorem eq50_ok : EqTy Try.prog 50 (.pair (.int .i64) (.int .i64)) := ⟨(Exists.intro _ (And.intro Try.underlying50 (And.intro (by kernel_rfl) (And.intro (by kernel_rfl) (And.intro (by kernel_rfl) (And.intro Try.underlying3 (And.intro (by kernel_rfl) (And.intro (by kernel_rfl) Try.underlying3)))))))), rfl, rfl, by kernel_rfl, by kernel_rfl⟩
theorem eq60_ok : EqTy Try.prog 60 (.pair (.int .i64) (.pair (.int .i64) (.pair (.bool) (.pair (.bool) (.pair (.bool) (.pair (.bool) (.bool))))))) := ⟨(Exists.intro _ (And.intro Try.underlying60 (And.intro (by kernel_rfl) (And.intro (by kernel_rfl) (And.intro (by kernel_rfl) (And.intro Try.underlying3 (And.intro (by kernel_rfl) (And.intro (by kernel_rfl) (And.intro Try.underlying3 (And.intro (by kernel_rfl) (And.intro (by kernel_rfl) (And.intro Try.underlying4 (And.intro (by kernel_rfl) (And.intro (by kernel_rfl) (And.intro Try.underlying4 (And.intro (by kernel_rfl) (And.intro (by kernel_rfl) (And.intro Try.underlying4 (And.intro (by kernel_rfl) (And.intro (by kernel_rfl) (And.intro Try.underlying4 (And.intro (by kernel_rfl) (And.intro (by kernel_rfl) Try.underlying4))))))))))))))))))))))), rfl, rfl, by kernel_rfl, by kernel_rfl⟩
theorem eq63_ok : EqTy Try.prog 63 (.pair (.int .i64) (.pair (.int .i64) (.int .i64))) := ⟨(Exists.intro _ (And.intro Try.underlying63 (And.intro (by kernel_rfl) (And.intro (by kernel_rfl) (And.intro (by kernel_rfl) (And.intro Try.underlying3 (And.intro (by kernel_rfl) (And.intro (by kernel_rfl) (And.intro Try.underlying3 (And.intro (by kernel_rfl) (And.intro (by kernel_rfl) Try.underlying3))))))))))), rfl, rfl, by kernel_rfl, by kernel_rfl⟩
theorem eq89_ok : EqTy Try.prog 89 (.arr 8 (.int .i64)) := ⟨(Exists.intro 3 (And.intro Try.underlying89 (And.intro (by kernel_rfl) (And.intro (by kernel_rfl) Try.underlying3)))), rfl, rfl, by kernel_rfl, by kernel_rfl⟩
theorem eq90_ok : EqTy Try.prog 90 (.arr 8 (.bool)) := ⟨(Exists.intro 4 (And.intro Try.underlying90 (And.intro (by kernel_rfl) (And.intro (by kernel_rfl) Try.underlying4)))), rfl, rfl, by kernel_rfl, by kernel_rfl⟩
theorem eq92_ok : EqTy Try.prog 92 (.pair (.int .i64) (.pair (.int .i64) (.pair (.arr 8 (.int .i64)) (.arr 8 (.bool))))) := ⟨(Exists.intro _ (And.intro Try.underlying92 (And.intro (by kernel_rfl) (And.intro (by kernel_rfl) (And.intro (by kernel_rfl) (And.intro Try.underlying3 (And.intro (by kernel_rfl) (And.intro (by kernel_rfl) (And.intro Try.underlying3 (And.intro (by kernel_rfl) (And.intro (by kernel_rfl) (And.intro (Exists.intro 3 (And.intro Try.underlying89 (And.intro (by kernel_rfl) (And.intro (by kernel_rfl) Try.underlying3)))) (And.intro (by kernel_rfl) (And.intro (by kernel_rfl) (Exists.intro 4 (And.intro Try.underlying90 (And.intro (by kernel_rfl) (And.intro (by kernel_rfl) Try.underlying4)))))))))))))))))), rfl, rfl, by kernel_rfl, by kernel_rfl⟩
theorem eq116_ok : EqTy Try.prog 116 (.pair (.int .i64) (.pair (.int .i64) (.int .i64))) := ⟨(Exists.intro _ (And.intro Try.underlying116 (And.intro (by kernel_rfl) (And.intro (by kernel_rfl) (And.intro (by kernel_rfl) (And.intro Try.underlying3 (And.intro (by kernel_rfl) (And.intro (by kernel_rfl) (And.intro Try.underlying3 (And.intro (by kernel_rfl) (And.intro (by kernel_rfl) Try.underlying3))))))))))), rfl, rfl, by kernel_rfl, by kernel_rfl⟩
theorem eq119_ok : EqTy Try.prog 119 (.pair (.int .i64) (.arr 8 (.bool))) := ⟨(Exists.intro _ (And.intro Try.underlying119 (And.intro (by kernel_rfl) (And.intro (by kernel_rfl) (And.intro (by kernel_rfl) (And.intro Try.underlying3 (And.intro (by kernel_rfl) (And.intro (by kernel_rfl) (Exists.intro 4 (And.intro Try.underlying90 (And.intro (by kernel_rfl) (And.intro (by kernel_rfl) Try.underlying4)))))))))))), rfl, rfl, by kernel_rfl, by kernel_rfl⟩
theorem eq122_ok : EqTy Try.prog 122 (.pair (.int .i64) (.int .i64)) := ⟨(Exists.intro _ (And.intro Try.underlying122 (And.intro (by kernel_rfl) (And.intro (by kernel_rfl) (And.intro (by kernel_rfl) (And.intro Try.underlying3 (And.intro (by kernel_rfl) (And.intro (by kernel_rfl) Try.underlying3)))))))), rfl, rfl, by kernel_rfl, by kernel_rfl⟩
theorem eq128_ok : EqTy Try.prog 128 (.pair (.int .i64) (.int .i64)) := ⟨(Exists.intro _ (And.intro Try.underlying128 (And.intro (by kernel_rfl) (And.intro (by kernel_rfl) (And.intro (by kernel_rfl) (And.intro Try.underlying3 (And.intro (by kernel_rfl) (And.intro (by kernel_rfl) Try.underlying3)))))))), rfl, rfl, by kernel_rfl, by kernel_rfl⟩
theorem eq140_ok : EqTy Try.prog 140 (.pair (.int .i64) (.int .i64)) := ⟨(Exists.intro _ (And.intro Try.underlying140 (And.intro (by kernel_rfl) (And.intro (by kernel_rfl) (And.intro (by kernel_rfl) (And.intro Try.underlying3 (And.intro (by kernel_rfl) (And.intro (by kernel_rfl) Try.underlying3)))))))), rfl, rfl, by kernel_rfl, by kernel_rfl⟩
theorem eq148_ok : EqTy Try.prog 148 (.pair (.int .i64) (.int .i64)) := ⟨(Exists.intro _ (And.intro Try.underlying148 (And.intro (by kernel_rfl) (And.intro (by kernel_rfl) (And.intro (by kernel_rfl) (And.intro Try.underlying3 (And.intro (by kernel_rfl) (And.intro (by kernel_rfl) Try.underlying3)))))))), rfl, rfl, by kernel_rfl, by kernel_rfl⟩
theorem eq154_ok : EqTy Try.prog 154 (.pair (.int .i64) (.int .i64)) := ⟨(Exists.intro _ (And.intro Try.underlying154 (And.intro (by kernel_rfl) (And.intro (by kernel_rfl) (And.intro (by kernel_rfl) (And.intro Try.underlying3 (And.intro (by kernel_rfl) (And.intro (by kernel_rfl) Try.underlying3)))))))), rfl, rfl, by kernel_rfl, by kernel_rfl⟩
theorem eq158_ok : EqTy Try.prog 158 (.pair (.bool) (.int .i64)) := ⟨(Exists.intro _ (And.intro Try.underlying158 (And.intro (by kernel_rfl) (And.intro (by kernel_rfl) (And.intro (by kernel_rfl) (And.intro Try.underlying4 (And.intro (by kernel_rfl) (And.intro (by kernel_rfl) Try.underlying3)))))))), rfl, rfl, by kernel_rfl, by kernel_rfl⟩
def env : Env := { tys := [(2, ti2), (3, ti3), (4, ti4), (5, ti5), (6, ti6), (7, ti7), (8, ti8), (9, ti9), (10, ti10), (11, ti11), (12, ti12), (13, ti13), (14, ti14), (15, ti15), (16, ti16), (17, ti17), (18, ti18), (19, ti19), (21, ti21), (22, ti22), (23, ti23), (24, ti24), (25, ti25), (26, ti26), (31, ti31), (32, ti32), (35, ti35), (36, ti36), (41, ti41), (48, ti48), (49, ti49), (50, ti50), (51, ti51), (57, ti57), (59, ti59), (60, ti60), (62, ti62), (63, ti63), (65, ti65), (66, ti66), (67, ti67), (74, ti74), (75, ti75), (76, ti76), (77, ti77), (88, ti88), (89, ti89), (90, ti90), (91, ti91), (92, ti92), (97, ti97), (98, ti98), (99, ti99), (100, ti100), (108, ti108), (111, ti111), (112, ti112), (113, ti113), (114, ti114), (115, ti115), (116, ti116), (118, ti118), (119, ti119), (120, ti120), (121, ti121), (122, ti122), (123, ti123), (124, ti124), (125, ti125), (127, ti127), (128, ti128), (130, ti130), (133, ti133), (139, ti139), (140, ti140), (143, ti143), (144, ti144), (147, ti147), (148, ti148), (153, ti153), (154, ti154), (157, ti157), (158, ti158), (161, ti161), (169, ti169), (170, ti170), (173, ti173), (181, ti181), (182, ti182), (187, ti187), (188, ti188), (189, ti189), (191, ti191), (192, ti192), (193, ti193)], eqs := [(24, .pair (.int .i64) (.pair (.int .i64) (.bool))), (32, .pair (.int .i64) (.int .i64)), (50, .pair (.int .i64) (.int .i64)), (60, .pair (.int .i64) (.pair (.int .i64) (.pair (.bool) (.pair (.bool) (.pair (.bool) (.pair (.bool) (.bool))))))), (63, .pair (.int .i64) (.pair (.int .i64) (.int .i64))), (89, .arr 8 (.int .i64)), (90, .arr 8 (.bool)), (92, .pair (.int .i64) (.pair (.int .i64) (.pair (.arr 8 (.int .i64)) (.arr 8 (.bool))))), (116, .pair (.int .i64) (.pair (.int .i64) (.int .i64))), (119, .pair (.int .i64) (.arr 8 (.bool))), (122, .pair (.int .i64) (.int .i64)), (128, .pair (.int .i64) (.int .i64)), (140, .pair (.int .i64) (.int .i64)), (148, .pair (.int .i64) (.int .i64)), (154, .pair (.int .i64) (.int .i64)), (158, .pair (.bool) (.int .i64))] }
theorem env_ok : EnvOk Try.prog env := envOk_of_all (E := env) ⟨ti2_ok, ⟨ti3_ok, ⟨ti4_ok, ⟨ti5_ok, ⟨ti6_ok, ⟨ti7_ok, ⟨ti8_ok, ⟨ti9_ok, ⟨ti10_ok, ⟨ti11_ok, ⟨ti12_ok, ⟨ti13_ok, ⟨ti14_ok, ⟨ti15_ok, ⟨ti16_ok, ⟨ti17_ok, ⟨ti18_ok, ⟨ti19_ok, ⟨ti21_ok, ⟨ti22_ok, ⟨ti23_ok, ⟨ti24_ok, ⟨ti25_ok, ⟨ti26_ok, ⟨ti31_ok, ⟨ti32_ok, ⟨ti35_ok, ⟨ti36_ok, ⟨ti41_ok, ⟨ti48_ok, ⟨ti49_ok, ⟨ti50_ok, ⟨ti51_ok, ⟨ti57_ok, ⟨ti59_ok, ⟨ti60_ok, ⟨ti62_ok, ⟨ti63_ok, ⟨ti65_ok, ⟨ti66_ok, ⟨ti67_ok, ⟨ti74_ok, ⟨ti75_ok, ⟨ti76_ok, ⟨ti77_ok, ⟨ti88_ok, ⟨ti89_ok, ⟨ti90_ok, ⟨ti91_ok, ⟨ti92_ok, ⟨ti97_ok, ⟨ti98_ok, ⟨ti99_ok, ⟨ti100_ok, ⟨ti108_ok, ⟨ti111_ok, ⟨ti112_ok, ⟨ti113_ok, ⟨ti114_ok, ⟨ti115_ok, ⟨ti116_ok, ⟨ti118_ok, ⟨ti119_ok, ⟨ti120_ok, ⟨ti121_ok, ⟨ti122_ok, ⟨ti123_ok, ⟨ti124_ok, ⟨ti125_ok, ⟨ti127_ok, ⟨ti128_ok, ⟨ti130_ok, ⟨ti133_ok, ⟨ti139_ok, ⟨ti140_ok, ⟨ti143_ok, ⟨ti144_ok, ⟨ti147_ok, ⟨ti148_ok, ⟨ti153_ok, ⟨ti154_ok, ⟨ti157_ok, ⟨ti158_ok, ⟨ti161_ok, ⟨ti169_ok, ⟨ti170_ok, ⟨ti173_ok, ⟨ti181_ok, ⟨ti182_ok, ⟨ti187_ok, ⟨ti188_ok, ⟨ti189_ok, ⟨ti191_ok, ⟨ti192_ok, ⟨ti193_ok, trivial⟩⟩⟩⟩⟩⟩⟩⟩⟩⟩⟩⟩⟩⟩⟩⟩⟩⟩⟩⟩⟩⟩⟩⟩⟩⟩⟩⟩⟩⟩⟩⟩⟩⟩⟩⟩⟩⟩⟩⟩⟩⟩⟩⟩⟩⟩⟩⟩⟩⟩⟩⟩⟩⟩⟩⟩⟩⟩⟩⟩⟩⟩⟩⟩⟩⟩⟩⟩⟩⟩⟩⟩⟩⟩⟩⟩⟩⟩⟩⟩⟩⟩⟩⟩⟩⟩⟩⟩⟩⟩⟩⟩⟩⟩⟩ ⟨eq24_ok, ⟨eq32_ok, ⟨eq50_ok, ⟨eq60_ok, ⟨eq63_ok, ⟨eq89_ok, ⟨eq90_ok, ⟨eq92_ok, ⟨eq116_ok, ⟨eq119_ok, ⟨eq122_ok, ⟨eq128_ok, ⟨eq140_ok, ⟨eq148_ok, ⟨eq154_ok, ⟨eq158_ok, trivial⟩⟩⟩⟩⟩⟩⟩⟩⟩⟩⟩⟩⟩⟩⟩⟩
end Go.Proofs.Ytmcepjbbbkgfcaa
