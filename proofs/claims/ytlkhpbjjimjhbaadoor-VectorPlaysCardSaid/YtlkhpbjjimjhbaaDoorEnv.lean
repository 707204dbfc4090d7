/-
  The types of the translation, as the executor wants them, with the proof that they are as the program says. Written by genenv.py.
-/
import Derived.Test.YtlkhpbjjimjhbaaDoorRows
import Derived.Test.YtlkhpbjjimjhbaaDoorSxW
namespace Go.Proofs.YtlkhpbjjimjhbaaDoor
open Go.Sx
@[reducible] def tyboundsError : Ty := .pair (.int .i64) (.pair (.int .i64) (.pair (.bool) (.int .u8)))
@[reducible] def tyerrorAddressString : Ty := .pair (.str) (.int .u64)
@[reducible] def tyLocal : Ty := .pair (.arr 4 (.int .u64)) (.pair (.arr 4 (.int .u64)) (.int .i64))
@[reducible] def tyLocalOp : Ty := .pair (.int .i64) (.int .i64)
@[reducible] def tySlot : Ty := .pair (.int .i64) (.int .i64)
@[reducible] def tytable : Ty := .pair (.int .i64) (.pair (.sl (.pair (.int .i64) (.int .i64))) (.sl (.arr 4 (.int .u64))))
@[reducible] def tyVecOp : Ty := .pair (.int .i64) (.pair (.int .i64) (.int .i64))
/-- int64 -/
def ti2 : TI := ⟨1, 8, .scalar (.int .i64), [.d (.int .i64) (0 : Int)], some (.int .i64)⟩
theorem ti2_ok : TIok Tryd.prog 2 ti2 := TIok.mk1 (by kernel_rfl) (by kernel_rfl) (by kernel_rfl) (.inr rfl) (⟨Tryd.underlying2, trivial⟩) (⟨by kernel_rfl, by kernel_rfl, by kernel_rfl, by kernel_rfl⟩)
/-- int -/
def ti3 : TI := ⟨1, 8, .scalar (.int .i64), [.d (.int .i64) (0 : Int)], some (.int .i64)⟩
theorem ti3_ok : TIok Tryd.prog 3 ti3 := TIok.mk1 (by kernel_rfl) (by kernel_rfl) (by kernel_rfl) (.inr rfl) (⟨Tryd.underlying3, trivial⟩) (⟨by kernel_rfl, by kernel_rfl, by kernel_rfl, by kernel_rfl⟩)
/-- bool -/
def ti4 : TI := ⟨1, 1, .scalar .bool, [.lit false], some (.bool)⟩
theorem ti4_ok : TIok Tryd.prog 4 ti4 := TIok.mk1 (by kernel_rfl) (by kernel_rfl) (by kernel_rfl) (.inr rfl) (⟨Tryd.underlying4, trivial⟩) (⟨by kernel_rfl, by kernel_rfl, by kernel_rfl, by kernel_rfl⟩)
/-- uint8 -/
def ti5 : TI := ⟨1, 1, .scalar (.int .u8), [.d (.int .u8) (0 : Int)], some (.int .u8)⟩
theorem ti5_ok : TIok Tryd.prog 5 ti5 := TIok.mk1 (by kernel_rfl) (by kernel_rfl) (by kernel_rfl) (.inr rfl) (⟨Tryd.underlying5, trivial⟩) (⟨by kernel_rfl, by kernel_rfl, by kernel_rfl, by kernel_rfl⟩)
/-- abi.BoundsErrorCode -/
def ti6 : TI := ⟨1, 1, .scalar (.int .u8), [.d (.int .u8) (0 : Int)], some (.int .u8)⟩
theorem ti6_ok : TIok Tryd.prog 6 ti6 := TIok.mk1 (by kernel_rfl) (by kernel_rfl) (by kernel_rfl) (.inr rfl) (⟨Tryd.underlying6, trivial⟩) (⟨by kernel_rfl, by kernel_rfl, by kernel_rfl, by kernel_rfl⟩)
/-- struct { x int64; y int; signed bool; code abi.BoundsErrorCode } -/
def ti7 : TI := ⟨4, 24, .struct [(0, 2), (1, 3), (2, 4), (3, 6)], [.d (.int .i64) (0 : Int), .d (.int .i64) (0 : Int), .lit false, .d (.int .u8) (0 : Int)], some (.pair (.int .i64) (.pair (.int .i64) (.pair (.bool) (.int .u8))))⟩
theorem ti7_ok : TIok Tryd.prog 7 ti7 := TIok.mk1 (by kernel_rfl) (by kernel_rfl) (by kernel_rfl) (.inl rfl) (⟨_, Tryd.underlying7, by kernel_rfl⟩) (⟨by kernel_rfl, by kernel_rfl, by kernel_rfl, by kernel_rfl⟩)
/-- runtime.boundsError -/
def ti8 : TI := ⟨4, 24, .struct [(0, 2), (1, 3), (2, 4), (3, 6)], [.d (.int .i64) (0 : Int), .d (.int .i64) (0 : Int), .lit false, .d (.int .u8) (0 : Int)], some (.pair (.int .i64) (.pair (.int .i64) (.pair (.bool) (.int .u8))))⟩
theorem ti8_ok : TIok Tryd.prog 8 ti8 := TIok.mk1 (by kernel_rfl) (by kernel_rfl) (by kernel_rfl) (.inl rfl) (⟨_, Tryd.underlying8, by kernel_rfl⟩) (⟨by kernel_rfl, by kernel_rfl, by kernel_rfl, by kernel_rfl⟩)
/-- string -/
def ti9 : TI := ⟨1, 16, .scalar .string, [.d .str ([] : List Int)], some (.str)⟩
theorem ti9_ok : TIok Tryd.prog 9 ti9 := TIok.mk1 (by kernel_rfl) (by kernel_rfl) (by kernel_rfl) (.inr rfl) (⟨Tryd.underlying9, trivial⟩) (⟨by kernel_rfl, by kernel_rfl, by kernel_rfl, by kernel_rfl⟩)
/-- runtime.errorString -/
def ti10 : TI := ⟨1, 16, .scalar .string, [.d .str ([] : List Int)], some (.str)⟩
theorem ti10_ok : TIok Tryd.prog 10 ti10 := TIok.mk1 (by kernel_rfl) (by kernel_rfl) (by kernel_rfl) (.inr rfl) (⟨Tryd.underlying10, trivial⟩) (⟨by kernel_rfl, by kernel_rfl, by kernel_rfl, by kernel_rfl⟩)
/-- runtime.plainError -/
def ti11 : TI := ⟨1, 16, .scalar .string, [.d .str ([] : List Int)], some (.str)⟩
theorem ti11_ok : TIok Tryd.prog 11 ti11 := TIok.mk1 (by kernel_rfl) (by kernel_rfl) (by kernel_rfl) (.inr rfl) (⟨Tryd.underlying11, trivial⟩) (⟨by kernel_rfl, by kernel_rfl, by kernel_rfl, by kernel_rfl⟩)
/-- uintptr -/
def ti12 : TI := ⟨1, 8, .scalar (.int .u64), [.d (.int .u64) (0 : Int)], some (.int .u64)⟩
theorem ti12_ok : TIok Tryd.prog 12 ti12 := TIok.mk1 (by kernel_rfl) (by kernel_rfl) (by kernel_rfl) (.inr rfl) (⟨Tryd.underlying12, trivial⟩) (⟨by kernel_rfl, by kernel_rfl, by kernel_rfl, by kernel_rfl⟩)
/-- struct { msg string; addr uintptr } -/
def ti13 : TI := ⟨2, 24, .struct [(0, 9), (1, 12)], [.d .str ([] : List Int), .d (.int .u64) (0 : Int)], some (.pair (.str) (.int .u64))⟩
theorem ti13_ok : TIok Tryd.prog 13 ti13 := TIok.mk1 (by kernel_rfl) (by kernel_rfl) (by kernel_rfl) (.inl rfl) (⟨_, Tryd.underlying13, by kernel_rfl⟩) (⟨by kernel_rfl, by kernel_rfl, by kernel_rfl, by kernel_rfl⟩)
/-- runtime.errorAddressString -/
def ti14 : TI := ⟨2, 24, .struct [(0, 9), (1, 12)], [.d .str ([] : List Int), .d (.int .u64) (0 : Int)], some (.pair (.str) (.int .u64))⟩
theorem ti14_ok : TIok Tryd.prog 14 ti14 := TIok.mk1 (by kernel_rfl) (by kernel_rfl) (by kernel_rfl) (.inl rfl) (⟨_, Tryd.underlying14, by kernel_rfl⟩) (⟨by kernel_rfl, by kernel_rfl, by kernel_rfl, by kernel_rfl⟩)
/-- *runtime.TypeAssertionError -/
def ti15 : TI := ⟨1, 8, .scalar (.pointer 77), [.con (.pointer none)], none⟩
theorem ti15_ok : TIok Tryd.prog 15 ti15 := TIok.mk1 (by kernel_rfl) (by kernel_rfl) (by kernel_rfl) (.inr rfl) (⟨Tryd.underlying15, trivial⟩) (trivial)
/-- *runtime.PanicNilError -/
def ti16 : TI := ⟨1, 8, .scalar (.pointer 80), [.con (.pointer none)], none⟩
theorem ti16_ok : TIok Tryd.prog 16 ti16 := TIok.mk1 (by kernel_rfl) (by kernel_rfl) (by kernel_rfl) (.inr rfl) (⟨Tryd.underlying16, trivial⟩) (trivial)
/-- *abi.Type -/
def ti17 : TI := ⟨1, 8, .scalar (.pointer 90), [.con (.pointer none)], none⟩
theorem ti17_ok : TIok Tryd.prog 17 ti17 := TIok.mk1 (by kernel_rfl) (by kernel_rfl) (by kernel_rfl) (.inr rfl) (⟨Tryd.underlying17, trivial⟩) (trivial)
/-- struct { typ *abi.Type } -/
def ti18 : TI := ⟨1, 8, .struct [(0, 17)], [.con (.pointer none)], none⟩
theorem ti18_ok : TIok Tryd.prog 18 ti18 := TIok.mk1 (by kernel_rfl) (by kernel_rfl) (by kernel_rfl) (.inl rfl) (⟨_, Tryd.underlying18, by kernel_rfl⟩) (trivial)
/-- maps.unhashableTypeError -/
def ti19 : TI := ⟨1, 8, .struct [(0, 17)], [.con (.pointer none)], none⟩
theorem ti19_ok : TIok Tryd.prog 19 ti19 := TIok.mk1 (by kernel_rfl) (by kernel_rfl) (by kernel_rfl) (.inl rfl) (⟨_, Tryd.underlying19, by kernel_rfl⟩) (trivial)
/-- int32 -/
def ti21 : TI := ⟨1, 4, .scalar (.int .i32), [.d (.int .i32) (0 : Int)], some (.int .i32)⟩
theorem ti21_ok : TIok Tryd.prog 21 ti21 := TIok.mk1 (by kernel_rfl) (by kernel_rfl) (by kernel_rfl) (.inr rfl) (⟨Tryd.underlying21, trivial⟩) (⟨by kernel_rfl, by kernel_rfl, by kernel_rfl, by kernel_rfl⟩)
/-- uint64 -/
def ti22 : TI := ⟨1, 8, .scalar (.int .u64), [.d (.int .u64) (0 : Int)], some (.int .u64)⟩
theorem ti22_ok : TIok Tryd.prog 22 ti22 := TIok.mk1 (by kernel_rfl) (by kernel_rfl) (by kernel_rfl) (.inr rfl) (⟨Tryd.underlying22, trivial⟩) (⟨by kernel_rfl, by kernel_rfl, by kernel_rfl, by kernel_rfl⟩)
/-- [4]uint64 -/
def ti23 : TI := ⟨4, 32, .arr 4 22, [.d (.arr 4 (.int .u64)) (List.replicate 4 (Ty.zero (.int .u64)))], some (.arr 4 (.int .u64))⟩
theorem ti23_ok : TIok Tryd.prog 23 ti23 := TIok.mk1 (by kernel_rfl) (by kernel_rfl) (by kernel_rfl) (.inl rfl) (Tryd.underlying23) (⟨by kernel_rfl, by kernel_rfl, by kernel_rfl, by kernel_rfl⟩)
/-- api.Bits -/
def ti24 : TI := ⟨4, 32, .arr 4 22, [.d (.arr 4 (.int .u64)) (List.replicate 4 (Ty.zero (.int .u64)))], some (.arr 4 (.int .u64))⟩
theorem ti24_ok : TIok Tryd.prog 24 ti24 := TIok.mk1 (by kernel_rfl) (by kernel_rfl) (by kernel_rfl) (.inl rfl) (Tryd.underlying24) (⟨by kernel_rfl, by kernel_rfl, by kernel_rfl, by kernel_rfl⟩)
/-- struct { Asked api.Bits; Served api.Bits; Class int } -/
def ti25 : TI := ⟨9, 72, .struct [(0, 24), (4, 24), (8, 3)], [.d (.arr 4 (.int .u64)) (List.replicate 4 (Ty.zero (.int .u64))), .d (.arr 4 (.int .u64)) (List.replicate 4 (Ty.zero (.int .u64))), .d (.int .i64) (0 : Int)], some (.pair (.arr 4 (.int .u64)) (.pair (.arr 4 (.int .u64)) (.int .i64)))⟩
theorem ti25_ok : TIok Tryd.prog 25 ti25 := TIok.mk1 (by kernel_rfl) (by kernel_rfl) (by kernel_rfl) (.inl rfl) (⟨_, Tryd.underlying25, by kernel_rfl⟩) (⟨by kernel_rfl, by kernel_rfl, by kernel_rfl, by kernel_rfl⟩)
/-- api.Local -/
def ti26 : TI := ⟨9, 72, .struct [(0, 24), (4, 24), (8, 3)], [.d (.arr 4 (.int .u64)) (List.replicate 4 (Ty.zero (.int .u64))), .d (.arr 4 (.int .u64)) (List.replicate 4 (Ty.zero (.int .u64))), .d (.int .i64) (0 : Int)], some (.pair (.arr 4 (.int .u64)) (.pair (.arr 4 (.int .u64)) (.int .i64)))⟩
theorem ti26_ok : TIok Tryd.prog 26 ti26 := TIok.mk1 (by kernel_rfl) (by kernel_rfl) (by kernel_rfl) (.inl rfl) (⟨_, Tryd.underlying26, by kernel_rfl⟩) (⟨by kernel_rfl, by kernel_rfl, by kernel_rfl, by kernel_rfl⟩)
/-- struct { Kind int; N int } -/
def ti27 : TI := ⟨2, 16, .struct [(0, 3), (1, 3)], [.d (.int .i64) (0 : Int), .d (.int .i64) (0 : Int)], some (.pair (.int .i64) (.int .i64))⟩
theorem ti27_ok : TIok Tryd.prog 27 ti27 := TIok.mk1 (by kernel_rfl) (by kernel_rfl) (by kernel_rfl) (.inl rfl) (⟨_, Tryd.underlying27, by kernel_rfl⟩) (⟨by kernel_rfl, by kernel_rfl, by kernel_rfl, by kernel_rfl⟩)
/-- api.LocalOp -/
def ti28 : TI := ⟨2, 16, .struct [(0, 3), (1, 3)], [.d (.int .i64) (0 : Int), .d (.int .i64) (0 : Int)], some (.pair (.int .i64) (.int .i64))⟩
theorem ti28_ok : TIok Tryd.prog 28 ti28 := TIok.mk1 (by kernel_rfl) (by kernel_rfl) (by kernel_rfl) (.inl rfl) (⟨_, Tryd.underlying28, by kernel_rfl⟩) (⟨by kernel_rfl, by kernel_rfl, by kernel_rfl, by kernel_rfl⟩)
/-- api.Errno -/
def ti29 : TI := ⟨1, 8, .scalar (.int .i64), [.d (.int .i64) (0 : Int)], some (.int .i64)⟩
theorem ti29_ok : TIok Tryd.prog 29 ti29 := TIok.mk1 (by kernel_rfl) (by kernel_rfl) (by kernel_rfl) (.inr rfl) (⟨Tryd.underlying29, trivial⟩) (⟨by kernel_rfl, by kernel_rfl, by kernel_rfl, by kernel_rfl⟩)
/-- []api.VecOp -/
def ti35 : TI := ⟨1, 24, .slice 59, [.con (.slice none 0 0)], some (.sl (.pair (.int .i64) (.pair (.int .i64) (.int .i64))))⟩
theorem ti35_ok : TIok Tryd.prog 35 ti35 := TIok.mk1 (by kernel_rfl) (by kernel_rfl) (by kernel_rfl) (.inr rfl) (Tryd.underlying35) (⟨by kernel_rfl, by kernel_rfl, by kernel_rfl, by kernel_rfl⟩)
/-- []api.Errno -/
def ti36 : TI := ⟨1, 24, .slice 29, [.con (.slice none 0 0)], some (.sl (.int .i64))⟩
theorem ti36_ok : TIok Tryd.prog 36 ti36 := TIok.mk1 (by kernel_rfl) (by kernel_rfl) (by kernel_rfl) (.inr rfl) (Tryd.underlying36) (⟨by kernel_rfl, by kernel_rfl, by kernel_rfl, by kernel_rfl⟩)
/-- []api.Slot -/
def ti37 : TI := ⟨1, 24, .slice 43, [.con (.slice none 0 0)], some (.sl (.pair (.int .i64) (.int .i64)))⟩
theorem ti37_ok : TIok Tryd.prog 37 ti37 := TIok.mk1 (by kernel_rfl) (by kernel_rfl) (by kernel_rfl) (.inr rfl) (Tryd.underlying37) (⟨by kernel_rfl, by kernel_rfl, by kernel_rfl, by kernel_rfl⟩)
/-- struct { Core int; Vec int } -/
def ti42 : TI := ⟨2, 16, .struct [(0, 3), (1, 3)], [.d (.int .i64) (0 : Int), .d (.int .i64) (0 : Int)], some (.pair (.int .i64) (.int .i64))⟩
theorem ti42_ok : TIok Tryd.prog 42 ti42 := TIok.mk1 (by kernel_rfl) (by kernel_rfl) (by kernel_rfl) (.inl rfl) (⟨_, Tryd.underlying42, by kernel_rfl⟩) (⟨by kernel_rfl, by kernel_rfl, by kernel_rfl, by kernel_rfl⟩)
/-- api.Slot -/
def ti43 : TI := ⟨2, 16, .struct [(0, 3), (1, 3)], [.d (.int .i64) (0 : Int), .d (.int .i64) (0 : Int)], some (.pair (.int .i64) (.int .i64))⟩
theorem ti43_ok : TIok Tryd.prog 43 ti43 := TIok.mk1 (by kernel_rfl) (by kernel_rfl) (by kernel_rfl) (.inl rfl) (⟨_, Tryd.underlying43, by kernel_rfl⟩) (⟨by kernel_rfl, by kernel_rfl, by kernel_rfl, by kernel_rfl⟩)
/-- [16]int -/
def ti51 : TI := ⟨16, 128, .arr 16 3, [.d (.arr 16 (.int .i64)) (List.replicate 16 (Ty.zero (.int .i64)))], some (.arr 16 (.int .i64))⟩
theorem ti51_ok : TIok Tryd.prog 51 ti51 := TIok.mk1 (by kernel_rfl) (by kernel_rfl) (by kernel_rfl) (.inl rfl) (Tryd.underlying51) (⟨by kernel_rfl, by kernel_rfl, by kernel_rfl, by kernel_rfl⟩)
/-- []int -/
def ti52 : TI := ⟨1, 24, .slice 3, [.con (.slice none 0 0)], some (.sl (.int .i64))⟩
theorem ti52_ok : TIok Tryd.prog 52 ti52 := TIok.mk1 (by kernel_rfl) (by kernel_rfl) (by kernel_rfl) (.inr rfl) (Tryd.underlying52) (⟨by kernel_rfl, by kernel_rfl, by kernel_rfl, by kernel_rfl⟩)
/-- *vector.table -/
def ti54 : TI := ⟨1, 8, .scalar (.pointer 57), [.con (.pointer none)], none⟩
theorem ti54_ok : TIok Tryd.prog 54 ti54 := TIok.mk1 (by kernel_rfl) (by kernel_rfl) (by kernel_rfl) (.inr rfl) (⟨Tryd.underlying54, trivial⟩) (trivial)
/-- []api.Bits -/
def ti55 : TI := ⟨1, 24, .slice 24, [.con (.slice none 0 0)], some (.sl (.arr 4 (.int .u64)))⟩
theorem ti55_ok : TIok Tryd.prog 55 ti55 := TIok.mk1 (by kernel_rfl) (by kernel_rfl) (by kernel_rfl) (.inr rfl) (Tryd.underlying55) (⟨by kernel_rfl, by kernel_rfl, by kernel_rfl, by kernel_rfl⟩)
/-- struct { cores int; of []api.Slot; taken []api.Bits } -/
def ti56 : TI := ⟨3, 56, .struct [(0, 3), (1, 37), (2, 55)], [.d (.int .i64) (0 : Int), .con (.slice none 0 0), .con (.slice none 0 0)], some (.pair (.int .i64) (.pair (.sl (.pair (.int .i64) (.int .i64))) (.sl (.arr 4 (.int .u64)))))⟩
theorem ti56_ok : TIok Tryd.prog 56 ti56 := TIok.mk1 (by kernel_rfl) (by kernel_rfl) (by kernel_rfl) (.inl rfl) (⟨_, Tryd.underlying56, by kernel_rfl⟩) (⟨by kernel_rfl, by kernel_rfl, by kernel_rfl, by kernel_rfl⟩)
/-- vector.table -/
def ti57 : TI := ⟨3, 56, .struct [(0, 3), (1, 37), (2, 55)], [.d (.int .i64) (0 : Int), .con (.slice none 0 0), .con (.slice none 0 0)], some (.pair (.int .i64) (.pair (.sl (.pair (.int .i64) (.int .i64))) (.sl (.arr 4 (.int .u64)))))⟩
theorem ti57_ok : TIok Tryd.prog 57 ti57 := TIok.mk1 (by kernel_rfl) (by kernel_rfl) (by kernel_rfl) (.inl rfl) (⟨_, Tryd.underlying57, by kernel_rfl⟩) (⟨by kernel_rfl, by kernel_rfl, by kernel_rfl, by kernel_rfl⟩)
/-- struct { Kind int; Line int; Mask int } -/
def ti58 : TI := ⟨3, 24, .struct [(0, 3), (1, 3), (2, 3)], [.d (.int .i64) (0 : Int), .d (.int .i64) (0 : Int), .d (.int .i64) (0 : Int)], some (.pair (.int .i64) (.pair (.int .i64) (.int .i64)))⟩
theorem ti58_ok : TIok Tryd.prog 58 ti58 := TIok.mk1 (by kernel_rfl) (by kernel_rfl) (by kernel_rfl) (.inl rfl) (⟨_, Tryd.underlying58, by kernel_rfl⟩) (⟨by kernel_rfl, by kernel_rfl, by kernel_rfl, by kernel_rfl⟩)
/-- api.VecOp -/
def ti59 : TI := ⟨3, 24, .struct [(0, 3), (1, 3), (2, 3)], [.d (.int .i64) (0 : Int), .d (.int .i64) (0 : Int), .d (.int .i64) (0 : Int)], some (.pair (.int .i64) (.pair (.int .i64) (.int .i64)))⟩
theorem ti59_ok : TIok Tryd.prog 59 ti59 := TIok.mk1 (by kernel_rfl) (by kernel_rfl) (by kernel_rfl) (.inl rfl) (⟨_, Tryd.underlying59, by kernel_rfl⟩) (⟨by kernel_rfl, by kernel_rfl, by kernel_rfl, by kernel_rfl⟩)
/-- [256]bool -/
def ti62 : TI := ⟨256, 256, .arr 256 4, [.d (.arr 256 (.bool)) (List.replicate 256 (Ty.zero (.bool)))], some (.arr 256 (.bool))⟩
theorem ti62_ok : TIok Tryd.prog 62 ti62 := TIok.mk1 (by kernel_rfl) (by kernel_rfl) (by kernel_rfl) (.inl rfl) (Tryd.underlying62) (⟨by kernel_rfl, by kernel_rfl, by kernel_rfl, by kernel_rfl⟩)
/-- [64]uint8 -/
def ti72 : TI := ⟨64, 64, .arr 64 5, [.d (.arr 64 (.int .u8)) (List.replicate 64 (Ty.zero (.int .u8)))], some (.arr 64 (.int .u8))⟩
theorem ti72_ok : TIok Tryd.prog 72 ti72 := TIok.mk1 (by kernel_rfl) (by kernel_rfl) (by kernel_rfl) (.inl rfl) (Tryd.underlying72) (⟨by kernel_rfl, by kernel_rfl, by kernel_rfl, by kernel_rfl⟩)
/-- uint -/
def ti73 : TI := ⟨1, 8, .scalar (.int .u64), [.d (.int .u64) (0 : Int)], some (.int .u64)⟩
theorem ti73_ok : TIok Tryd.prog 73 ti73 := TIok.mk1 (by kernel_rfl) (by kernel_rfl) (by kernel_rfl) (.inr rfl) (⟨Tryd.underlying73, trivial⟩) (⟨by kernel_rfl, by kernel_rfl, by kernel_rfl, by kernel_rfl⟩)
/-- struct { _interface *abi.Type; concrete *abi.Type; asserted *abi.Type; missingMethod string } -/
def ti76 : TI := ⟨4, 40, .struct [(0, 17), (1, 17), (2, 17), (3, 9)], [.con (.pointer none), .con (.pointer none), .con (.pointer none), .d .str ([] : List Int)], none⟩
theorem ti76_ok : TIok Tryd.prog 76 ti76 := TIok.mk1 (by kernel_rfl) (by kernel_rfl) (by kernel_rfl) (.inl rfl) (⟨_, Tryd.underlying76, by kernel_rfl⟩) (trivial)
/-- runtime.TypeAssertionError -/
def ti77 : TI := ⟨4, 40, .struct [(0, 17), (1, 17), (2, 17), (3, 9)], [.con (.pointer none), .con (.pointer none), .con (.pointer none), .d .str ([] : List Int)], none⟩
theorem ti77_ok : TIok Tryd.prog 77 ti77 := TIok.mk1 (by kernel_rfl) (by kernel_rfl) (by kernel_rfl) (.inl rfl) (⟨_, Tryd.underlying77, by kernel_rfl⟩) (trivial)
/-- uint32 -/
def ti82 : TI := ⟨1, 4, .scalar (.int .u32), [.d (.int .u32) (0 : Int)], some (.int .u32)⟩
theorem ti82_ok : TIok Tryd.prog 82 ti82 := TIok.mk1 (by kernel_rfl) (by kernel_rfl) (by kernel_rfl) (.inr rfl) (⟨Tryd.underlying82, trivial⟩) (⟨by kernel_rfl, by kernel_rfl, by kernel_rfl, by kernel_rfl⟩)
/-- abi.TFlag -/
def ti83 : TI := ⟨1, 1, .scalar (.int .u8), [.d (.int .u8) (0 : Int)], some (.int .u8)⟩
theorem ti83_ok : TIok Tryd.prog 83 ti83 := TIok.mk1 (by kernel_rfl) (by kernel_rfl) (by kernel_rfl) (.inr rfl) (⟨Tryd.underlying83, trivial⟩) (⟨by kernel_rfl, by kernel_rfl, by kernel_rfl, by kernel_rfl⟩)
/-- abi.Kind -/
def ti84 : TI := ⟨1, 1, .scalar (.int .u8), [.d (.int .u8) (0 : Int)], some (.int .u8)⟩
theorem ti84_ok : TIok Tryd.prog 84 ti84 := TIok.mk1 (by kernel_rfl) (by kernel_rfl) (by kernel_rfl) (.inr rfl) (⟨Tryd.underlying84, trivial⟩) (⟨by kernel_rfl, by kernel_rfl, by kernel_rfl, by kernel_rfl⟩)
/-- *uint8 -/
def ti86 : TI := ⟨1, 8, .scalar (.pointer 5), [.con (.pointer none)], none⟩
theorem ti86_ok : TIok Tryd.prog 86 ti86 := TIok.mk1 (by kernel_rfl) (by kernel_rfl) (by kernel_rfl) (.inr rfl) (⟨Tryd.underlying86, trivial⟩) (trivial)
/-- abi.NameOff -/
def ti87 : TI := ⟨1, 4, .scalar (.int .i32), [.d (.int .i32) (0 : Int)], some (.int .i32)⟩
theorem ti87_ok : TIok Tryd.prog 87 ti87 := TIok.mk1 (by kernel_rfl) (by kernel_rfl) (by kernel_rfl) (.inr rfl) (⟨Tryd.underlying87, trivial⟩) (⟨by kernel_rfl, by kernel_rfl, by kernel_rfl, by kernel_rfl⟩)
/-- abi.TypeOff -/
def ti88 : TI := ⟨1, 4, .scalar (.int .i32), [.d (.int .i32) (0 : Int)], some (.int .i32)⟩
theorem ti88_ok : TIok Tryd.prog 88 ti88 := TIok.mk1 (by kernel_rfl) (by kernel_rfl) (by kernel_rfl) (.inr rfl) (⟨Tryd.underlying88, trivial⟩) (⟨by kernel_rfl, by kernel_rfl, by kernel_rfl, by kernel_rfl⟩)
theorem eq23_ok : EqTy Tryd.prog 23 (.arr 4 (.int .u64)) := ⟨(Exists.intro 22 (And.intro Tryd.underlying23 (And.intro (by kernel_rfl) (And.intro (by kernel_rfl) Tryd.underlying22)))), rfl, rfl, by kernel_rfl, by kernel_rfl⟩
theorem eq24_ok : EqTy Tryd.prog 24 (.arr 4 (.int .u64)) := ⟨(Exists.intro 22 (And.intro Tryd.underlying24 (And.intro (by kernel_rfl) (And.intro (by kernel_rfl) Tryd.underlying22)))), rfl, rfl, by kernel_rfl, by kernel_rfl⟩
theorem eq26_ok : EqTy Tryd.prog 26 (.pair (.arr 4 (.int .u64)) (.pair (.arr 4 (.int .u64)) (.int .i64))) := ⟨(Exists.intro _ (And.intro Tryd.underlying26 (And.intro (by kernel_rfl) (And.intro (by kernel_rfl) (And.intro (by kernel_rfl) (And.intro (Exists.intro 22 (And.intro Tryd.underlying24 (And.intro (by kernel_rfl) (And.intro (by kernel_rfl) Tryd.underlying22)))) (And.intro (by kernel_rfl) (And.intro (by kernel_rfl) (And.intro (Exists.intro 22 (And.intro Tryd.underlying24 (And.intro (by kernel_rfl) (And.intro (by kernel_rfl) Tryd.underlying22)))) (And.intro (by kernel_rfl) (And.intro (by kernel_rfl) Tryd.underlying3))))))))))), rfl, rfl, by kernel_rfl, by kernel_rfl⟩
theorem eq28_ok : EqTy Tryd.prog 28 (.pair (.int .i64) (.int .i64)) := ⟨(Exists.intro _ (And.intro Tryd.underlying28 (And.intro (by kernel_rfl) (And.intro (by kernel_rfl) (And.intro (by kernel_rfl) (And.intro Tryd.underlying3 (And.intro (by kernel_rfl) (And.intro (by kernel_rfl) Tryd.underlying3)))))))), rfl, rfl, by kernel_rfl, by kernel_rfl⟩
theorem eq43_ok : EqTy Tryd.prog 43 (.pair (.int .i64) (.int .i64)) := ⟨(Exists.intro _ (And.intro Tryd.underlying43 (And.intro (by kernel_rfl) (And.intro (by kernel_rfl) (And.intro (by kernel_rfl) (And.intro Tryd.underlying3 (And.intro (by kernel_rfl) (And.intro (by kernel_rfl) Tryd.underlying3)))))))), rfl, rfl, by kernel_rfl, by kernel_rfl⟩
theorem eq51_ok : EqTy Tryd.prog 51 (.arr 16 (.int .i64)) := ⟨(Exists.intro 3 (And.intro Tryd.underlying51 (And.intro (by kernel_rfl) (And.intro (by kernel_rfl) Tryd.underlying3)))), rfl, rfl, by kernel_rfl, by kernel_rfl⟩
theorem eq59_ok : EqTy Tryd.prog 59 (.pair (.int .i64) (.pair (.int .i64) (.int .i64))) := ⟨(Exists.intro _ (And.intro Tryd.underlying59 (And.intro (by kernel_rfl) (And.intro (by kernel_rfl) (And.intro (by kernel_rfl) (And.intro Tryd.underlying3 (And.intro (by kernel_rfl) (And.intro (by kernel_rfl) (And.intro Tryd.underlying3 (And.intro (by kernel_rfl) (And.intro (by kernel_rfl) Tryd.underlying3))))))))))), rfl, rfl, by kernel_rfl, by kernel_rfl⟩
theorem eq62_ok : EqTy Tryd.prog 62 (.arr 256 (.bool)) := ⟨(Exists.intro 4 (And.intro Tryd.underlying62 (And.intro (by kernel_rfl) (And.intro (by kernel_rfl) Tryd.underlying4)))), rfl, rfl, by kernel_rfl, by kernel_rfl⟩
theorem eq72_ok : EqTy Tryd.prog 72 (.arr 64 (.int .u8)) := ⟨(Exists.intro 5 (And.intro Tryd.underlying72 (And.intro (by kernel_rfl) (And.intro (by kernel_rfl) Tryd.underlying5)))), rfl, rfl, by kernel_rfl, by kernel_rfl⟩
def env : Env := { tys := [(2, ti2), (3, ti3), (4, ti4), (5, ti5), (6, ti6), (7, ti7), (8, ti8), (9, ti9), (10, ti10), (11, ti11), (12, ti12), (13, ti13), (14, ti14), (15, ti15), (16, ti16), (17, ti17), (18, ti18), (19, ti19), (21, ti21), (22, ti22), (23, ti23), (24, ti24), (25, ti25), (26, ti26), (27, ti27), (28, ti28), (29, ti29), (35, ti35), (36, ti36), (37, ti37), (42, ti42), (43, ti43), (51, ti51), (52, ti52), (54, ti54), (55, ti55), (56, ti56), (57, ti57), (58, ti58), (59, ti59), (62, ti62), (72, ti72), (73, ti73), (76, ti76), (77, ti77), (82, ti82), (83, ti83), (84, ti84), (86, ti86), (87, ti87), (88, ti88)], eqs := [(23, .arr 4 (.int .u64)), (24, .arr 4 (.int .u64)), (26, .pair (.arr 4 (.int .u64)) (.pair (.arr 4 (.int .u64)) (.int .i64))), (28, .pair (.int .i64) (.int .i64)), (43, .pair (.int .i64) (.int .i64)), (51, .arr 16 (.int .i64)), (59, .pair (.int .i64) (.pair (.int .i64) (.int .i64))), (62, .arr 256 (.bool)), (72, .arr 64 (.int .u8))] }
theorem env_ok : EnvOk Tryd.prog env := envOk_of_all (E := env) ⟨ti2_ok, ⟨ti3_ok, ⟨ti4_ok, ⟨ti5_ok, ⟨ti6_ok, ⟨ti7_ok, ⟨ti8_ok, ⟨ti9_ok, ⟨ti10_ok, ⟨ti11_ok, ⟨ti12_ok, ⟨ti13_ok, ⟨ti14_ok, ⟨ti15_ok, ⟨ti16_ok, ⟨ti17_ok, ⟨ti18_ok, ⟨ti19_ok, ⟨ti21_ok, ⟨ti22_ok, ⟨ti23_ok, ⟨ti24_ok, ⟨ti25_ok, ⟨ti26_ok, ⟨ti27_ok, ⟨ti28_ok, ⟨ti29_ok, ⟨ti35_ok, ⟨ti36_ok, ⟨ti37_ok, ⟨ti42_ok, ⟨ti43_ok, ⟨ti51_ok, ⟨ti52_ok, ⟨ti54_ok, ⟨ti55_ok, ⟨ti56_ok, ⟨ti57_ok, ⟨ti58_ok, ⟨ti59_ok, ⟨ti62_ok, ⟨ti72_ok, ⟨ti73_ok, ⟨ti76_ok, ⟨ti77_ok, ⟨ti82_ok, ⟨ti83_ok, ⟨ti84_ok, ⟨ti86_ok, ⟨ti87_ok, ⟨ti88_ok, trivial⟩⟩⟩⟩⟩⟩⟩⟩⟩⟩⟩⟩⟩⟩⟩⟩⟩⟩⟩⟩⟩⟩⟩⟩⟩⟩⟩⟩⟩⟩⟩⟩⟩⟩⟩⟩⟩⟩⟩⟩⟩⟩⟩⟩⟩⟩⟩⟩⟩⟩⟩ ⟨eq23_ok, ⟨eq24_ok, ⟨eq26_ok, ⟨eq28_ok, ⟨eq43_ok, ⟨eq51_ok, ⟨eq59_ok, ⟨eq62_ok, ⟨eq72_ok, trivial⟩⟩⟩⟩⟩⟩⟩⟩⟩
end Go.Proofs.YtlkhpbjjimjhbaaDoor
