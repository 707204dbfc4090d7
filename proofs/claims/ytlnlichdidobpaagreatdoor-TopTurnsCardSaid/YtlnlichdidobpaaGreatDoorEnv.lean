/-
  The types of the translation, as the executor wants them, with the proof that they are as the program says. Written by genenv.py.
-/
import Derived.Test.YtlnlichdidobpaaGreatDoorRows
import Derived.Test.YtlnlichdidobpaaGreatDoorSxP4
namespace Go.Proofs.YtlnlichdidobpaaGreatDoor
open Go.Sx
@[reducible] def AX : Ty := .pair (.int .i64) (.pair (.int .i64) (.int .i64))
@[reducible] def sM : Ty := .pair (.sl (.sl (.int .u8))) (.sl (.int .u8))
@[reducible] def Nb : Ty := .pair (.sl (.int .u8)) (.pair (.sl (.int .u8)) (.pair (.pair (.sl (.sl (.int .u8))) (.sl (.int .u8))) (.pair (.int .i64) (.int .i64))))
@[reducible] def sj : Ty := .pair (.int .i64) (.sl (.int .u8))
@[reducible] def lp : Ty := .pair (.int .i64) (.pair (.int .i64) (.pair (.int .i64) (.int .u8)))
@[reducible] def kI : Ty := .pair (.sl (.int .u8)) (.pair (.sl (.int .u8)) (.pair (.int .i64) (.bool)))
@[reducible] def oO : Ty := .pair (.arr 4 (.int .u64)) (.pair (.arr 4 (.int .u64)) (.int .i64))
@[reducible] def CF : Ty := .pair (.bool) (.sl (.pair (.bool) (.bool)))
@[reducible] def bR : Ty := .pair (.pair (.arr 4 (.int .u64)) (.pair (.arr 4 (.int .u64)) (.int .i64))) (.pair (.pair (.bool) (.sl (.pair (.bool) (.bool)))) (.bool))
@[reducible] def iR : Ty := .pair (.int .i64) (.pair (.int .i64) (.pair (.bool) (.pair (.bool) (.pair (.bool) (.pair (.bool) (.bool))))))
@[reducible] def JK : Ty := .pair (.int .i64) (.int .u8)
@[reducible] def E4 : Ty := .pair (.int .i64) (.int .i64)
@[reducible] def DX : Ty := .pair (.int .i64) (.int .i64)
@[reducible] def p7 : Ty := .pair (.int .i64) (.pair (.int .i64) (.int .i64))
@[reducible] def DN : Ty := .pair (.bool) (.bool)
/-- func() -/
def VR : TI := ⟨1, 8, .scalar (.func #[] #[] false), [.aC .nilFunc], none⟩
theorem RB : aa Tryz.prog 1 VR := aa.aG (by kernel_rfl) (by kernel_rfl) (by kernel_rfl) (.inr rfl) (⟨Tryz.underlying1, trivial⟩) (trivial)
/-- int64 -/
def VH : TI := ⟨1, 8, .scalar (.int .i64), [.d (.int .i64) (0 : Int)], some (.int .i64)⟩
theorem Sf : aa Tryz.prog 2 VH := aa.aG (by kernel_rfl) (by kernel_rfl) (by kernel_rfl) (.inr rfl) (⟨Tryz.underlying2, trivial⟩) (⟨by kernel_rfl, by kernel_rfl, by kernel_rfl, by kernel_rfl⟩)
/-- int -/
def VG : TI := ⟨1, 8, .scalar (.int .i64), [.d (.int .i64) (0 : Int)], some (.int .i64)⟩
theorem RI : aa Tryz.prog 3 VG := aa.aG (by kernel_rfl) (by kernel_rfl) (by kernel_rfl) (.inr rfl) (⟨Tryz.underlying3, trivial⟩) (⟨by kernel_rfl, by kernel_rfl, by kernel_rfl, by kernel_rfl⟩)
/-- bool -/
def VI : TI := ⟨1, 1, .scalar .bool, [.lit false], some (.bool)⟩
theorem Rt : aa Tryz.prog 4 VI := aa.aG (by kernel_rfl) (by kernel_rfl) (by kernel_rfl) (.inr rfl) (⟨Tryz.underlying4, trivial⟩) (⟨by kernel_rfl, by kernel_rfl, by kernel_rfl, by kernel_rfl⟩)
/-- uint8 -/
def VO : TI := ⟨1, 1, .scalar (.int .u8), [.d (.int .u8) (0 : Int)], some (.int .u8)⟩
theorem SI : aa Tryz.prog 5 VO := aa.aG (by kernel_rfl) (by kernel_rfl) (by kernel_rfl) (.inr rfl) (⟨Tryz.underlying5, trivial⟩) (⟨by kernel_rfl, by kernel_rfl, by kernel_rfl, by kernel_rfl⟩)
/-- abi.BoundsErrorCode -/
def VP : TI := ⟨1, 1, .scalar (.int .u8), [.d (.int .u8) (0 : Int)], some (.int .u8)⟩
theorem Sc : aa Tryz.prog 6 VP := aa.aG (by kernel_rfl) (by kernel_rfl) (by kernel_rfl) (.inr rfl) (⟨Tryz.underlying6, trivial⟩) (⟨by kernel_rfl, by kernel_rfl, by kernel_rfl, by kernel_rfl⟩)
/-- struct { x int64; y int; signed bool; code abi.BoundsErrorCode } -/
def VL : TI := ⟨4, 24, .struct [(0, 2), (1, 3), (2, 4), (3, 6)], [.d (.int .i64) (0 : Int), .d (.int .i64) (0 : Int), .lit false, .d (.int .u8) (0 : Int)], some (.pair (.int .i64) (.pair (.int .i64) (.pair (.bool) (.int .u8))))⟩
theorem Sj : aa Tryz.prog 7 VL := aa.aG (by kernel_rfl) (by kernel_rfl) (by kernel_rfl) (.inl rfl) (⟨_, Tryz.underlying7, by kernel_rfl⟩) (⟨by kernel_rfl, by kernel_rfl, by kernel_rfl, by kernel_rfl⟩)
/-- runtime.boundsError -/
def VK : TI := ⟨4, 24, .struct [(0, 2), (1, 3), (2, 4), (3, 6)], [.d (.int .i64) (0 : Int), .d (.int .i64) (0 : Int), .lit false, .d (.int .u8) (0 : Int)], some (.pair (.int .i64) (.pair (.int .i64) (.pair (.bool) (.int .u8))))⟩
theorem R3 : aa Tryz.prog 8 VK := aa.aG (by kernel_rfl) (by kernel_rfl) (by kernel_rfl) (.inl rfl) (⟨_, Tryz.underlying8, by kernel_rfl⟩) (⟨by kernel_rfl, by kernel_rfl, by kernel_rfl, by kernel_rfl⟩)
/-- string -/
def VN : TI := ⟨1, 16, .scalar .string, [.d .str ([] : List Int)], some (.str)⟩
theorem RD : aa Tryz.prog 9 VN := aa.aG (by kernel_rfl) (by kernel_rfl) (by kernel_rfl) (.inr rfl) (⟨Tryz.underlying9, trivial⟩) (⟨by kernel_rfl, by kernel_rfl, by kernel_rfl, by kernel_rfl⟩)
/-- runtime.errorString -/
def TJ : TI := ⟨1, 16, .scalar .string, [.d .str ([] : List Int)], some (.str)⟩
theorem Of : aa Tryz.prog 10 TJ := aa.aG (by kernel_rfl) (by kernel_rfl) (by kernel_rfl) (.inr rfl) (⟨Tryz.underlying10, trivial⟩) (⟨by kernel_rfl, by kernel_rfl, by kernel_rfl, by kernel_rfl⟩)
/-- runtime.plainError -/
def T2 : TI := ⟨1, 16, .scalar .string, [.d .str ([] : List Int)], some (.str)⟩
theorem M3 : aa Tryz.prog 11 T2 := aa.aG (by kernel_rfl) (by kernel_rfl) (by kernel_rfl) (.inr rfl) (⟨Tryz.underlying11, trivial⟩) (⟨by kernel_rfl, by kernel_rfl, by kernel_rfl, by kernel_rfl⟩)
/-- uintptr -/
def UO : TI := ⟨1, 8, .scalar (.int .u64), [.d (.int .u64) (0 : Int)], some (.int .u64)⟩
theorem NQ : aa Tryz.prog 12 UO := aa.aG (by kernel_rfl) (by kernel_rfl) (by kernel_rfl) (.inr rfl) (⟨Tryz.underlying12, trivial⟩) (⟨by kernel_rfl, by kernel_rfl, by kernel_rfl, by kernel_rfl⟩)
/-- struct { msg string; addr uintptr } -/
def TO : TI := ⟨2, 24, .struct [(0, 9), (1, 12)], [.d .str ([] : List Int), .d (.int .u64) (0 : Int)], some (.pair (.str) (.int .u64))⟩
theorem LX : aa Tryz.prog 13 TO := aa.aG (by kernel_rfl) (by kernel_rfl) (by kernel_rfl) (.inl rfl) (⟨_, Tryz.underlying13, by kernel_rfl⟩) (⟨by kernel_rfl, by kernel_rfl, by kernel_rfl, by kernel_rfl⟩)
/-- runtime.errorAddressString -/
def U3 : TI := ⟨2, 24, .struct [(0, 9), (1, 12)], [.d .str ([] : List Int), .d (.int .u64) (0 : Int)], some (.pair (.str) (.int .u64))⟩
theorem NF : aa Tryz.prog 14 U3 := aa.aG (by kernel_rfl) (by kernel_rfl) (by kernel_rfl) (.inl rfl) (⟨_, Tryz.underlying14, by kernel_rfl⟩) (⟨by kernel_rfl, by kernel_rfl, by kernel_rfl, by kernel_rfl⟩)
/-- *runtime.TypeAssertionError -/
def UN : TI := ⟨1, 8, .scalar (.pointer 248), [.aC (.pointer none)], none⟩
theorem M0 : aa Tryz.prog 15 UN := aa.aG (by kernel_rfl) (by kernel_rfl) (by kernel_rfl) (.inr rfl) (⟨Tryz.underlying15, trivial⟩) (trivial)
/-- *runtime.PanicNilError -/
def U4 : TI := ⟨1, 8, .scalar (.pointer 251), [.aC (.pointer none)], none⟩
theorem Mm : aa Tryz.prog 16 U4 := aa.aG (by kernel_rfl) (by kernel_rfl) (by kernel_rfl) (.inr rfl) (⟨Tryz.underlying16, trivial⟩) (trivial)
/-- *abi.Type -/
def Uh : TI := ⟨1, 8, .scalar (.pointer 259), [.aC (.pointer none)], none⟩
theorem Np : aa Tryz.prog 17 Uh := aa.aG (by kernel_rfl) (by kernel_rfl) (by kernel_rfl) (.inr rfl) (⟨Tryz.underlying17, trivial⟩) (trivial)
/-- struct { typ *abi.Type } -/
def TY : TI := ⟨1, 8, .struct [(0, 17)], [.aC (.pointer none)], none⟩
theorem MH : aa Tryz.prog 18 TY := aa.aG (by kernel_rfl) (by kernel_rfl) (by kernel_rfl) (.inl rfl) (⟨_, Tryz.underlying18, by kernel_rfl⟩) (trivial)
/-- maps.unhashableTypeError -/
def TC : TI := ⟨1, 8, .struct [(0, 17)], [.aC (.pointer none)], none⟩
theorem LO : aa Tryz.prog 19 TC := aa.aG (by kernel_rfl) (by kernel_rfl) (by kernel_rfl) (.inl rfl) (⟨_, Tryz.underlying19, by kernel_rfl⟩) (trivial)
/-- int32 -/
def UG : TI := ⟨1, 4, .scalar (.int .i32), [.d (.int .i32) (0 : Int)], some (.int .i32)⟩
theorem NI : aa Tryz.prog 21 UG := aa.aG (by kernel_rfl) (by kernel_rfl) (by kernel_rfl) (.inr rfl) (⟨Tryz.underlying21, trivial⟩) (⟨by kernel_rfl, by kernel_rfl, by kernel_rfl, by kernel_rfl⟩)
/-- []api.Thread -/
def TM : TI := ⟨1, 24, .slice 31, [.aC (.slice none 0 0)], some (.sl (.pair (.int .i64) (.pair (.int .i64) (.int .i64))))⟩
theorem Mh : aa Tryz.prog 22 TM := aa.aG (by kernel_rfl) (by kernel_rfl) (by kernel_rfl) (.inr rfl) (Tryz.underlying22) (⟨by kernel_rfl, by kernel_rfl, by kernel_rfl, by kernel_rfl⟩)
/-- func() bool -/
def UH : TI := ⟨1, 8, .scalar (.func #[] #[4] false), [.aC .nilFunc], none⟩
theorem Mf : aa Tryz.prog 23 UH := aa.aG (by kernel_rfl) (by kernel_rfl) (by kernel_rfl) (.inr rfl) (⟨Tryz.underlying23, trivial⟩) (trivial)
/-- [][]int -/
def Ur : TI := ⟨1, 24, .slice 28, [.aC (.slice none 0 0)], some (.sl (.sl (.int .i64)))⟩
theorem Oc : aa Tryz.prog 24 Ur := aa.aG (by kernel_rfl) (by kernel_rfl) (by kernel_rfl) (.inr rfl) (Tryz.underlying24) (⟨by kernel_rfl, by kernel_rfl, by kernel_rfl, by kernel_rfl⟩)
/-- api.Errno -/
def TA : TI := ⟨1, 8, .scalar (.int .i64), [.d (.int .i64) (0 : Int)], some (.int .i64)⟩
theorem Nc : aa Tryz.prog 25 TA := aa.aG (by kernel_rfl) (by kernel_rfl) (by kernel_rfl) (.inr rfl) (⟨Tryz.underlying25, trivial⟩) (⟨by kernel_rfl, by kernel_rfl, by kernel_rfl, by kernel_rfl⟩)
/-- func(int, int, []api.Thread, int) ([][]int, api.Errno) -/
def S8 : TI := ⟨1, 8, .scalar (.func #[3, 3, 22, 3] #[24, 25] false), [.aC .nilFunc], none⟩
theorem NM : aa Tryz.prog 27 S8 := aa.aG (by kernel_rfl) (by kernel_rfl) (by kernel_rfl) (.inr rfl) (⟨Tryz.underlying27, trivial⟩) (trivial)
/-- []int -/
def S7 : TI := ⟨1, 24, .slice 3, [.aC (.slice none 0 0)], some (.sl (.int .i64))⟩
theorem NS : aa Tryz.prog 28 S7 := aa.aG (by kernel_rfl) (by kernel_rfl) (by kernel_rfl) (.inr rfl) (Tryz.underlying28) (⟨by kernel_rfl, by kernel_rfl, by kernel_rfl, by kernel_rfl⟩)
/-- []api.RunOp -/
def Tn : TI := ⟨1, 24, .slice 33, [.aC (.slice none 0 0)], some (.sl (.pair (.int .i64) (.pair (.int .i64) (.int .i64))))⟩
theorem L1 : aa Tryz.prog 29 Tn := aa.aG (by kernel_rfl) (by kernel_rfl) (by kernel_rfl) (.inr rfl) (Tryz.underlying29) (⟨by kernel_rfl, by kernel_rfl, by kernel_rfl, by kernel_rfl⟩)
/-- struct { Come int; Level int; Work int } -/
def SZ : TI := ⟨3, 24, .struct [(0, 3), (1, 3), (2, 3)], [.d (.int .i64) (0 : Int), .d (.int .i64) (0 : Int), .d (.int .i64) (0 : Int)], some (.pair (.int .i64) (.pair (.int .i64) (.int .i64)))⟩
theorem M1 : aa Tryz.prog 30 SZ := aa.aG (by kernel_rfl) (by kernel_rfl) (by kernel_rfl) (.inl rfl) (⟨_, Tryz.underlying30, by kernel_rfl⟩) (⟨by kernel_rfl, by kernel_rfl, by kernel_rfl, by kernel_rfl⟩)
/-- api.Thread -/
def TD : TI := ⟨3, 24, .struct [(0, 3), (1, 3), (2, 3)], [.d (.int .i64) (0 : Int), .d (.int .i64) (0 : Int), .d (.int .i64) (0 : Int)], some (.pair (.int .i64) (.pair (.int .i64) (.int .i64)))⟩
theorem Ov : aa Tryz.prog 31 TD := aa.aG (by kernel_rfl) (by kernel_rfl) (by kernel_rfl) (.inl rfl) (⟨_, Tryz.underlying31, by kernel_rfl⟩) (⟨by kernel_rfl, by kernel_rfl, by kernel_rfl, by kernel_rfl⟩)
/-- struct { Kind int; Id int; Level int } -/
def U1 : TI := ⟨3, 24, .struct [(0, 3), (1, 3), (2, 3)], [.d (.int .i64) (0 : Int), .d (.int .i64) (0 : Int), .d (.int .i64) (0 : Int)], some (.pair (.int .i64) (.pair (.int .i64) (.int .i64)))⟩
theorem Oz : aa Tryz.prog 32 U1 := aa.aG (by kernel_rfl) (by kernel_rfl) (by kernel_rfl) (.inl rfl) (⟨_, Tryz.underlying32, by kernel_rfl⟩) (⟨by kernel_rfl, by kernel_rfl, by kernel_rfl, by kernel_rfl⟩)
/-- api.RunOp -/
def Tl : TI := ⟨3, 24, .struct [(0, 3), (1, 3), (2, 3)], [.d (.int .i64) (0 : Int), .d (.int .i64) (0 : Int), .d (.int .i64) (0 : Int)], some (.pair (.int .i64) (.pair (.int .i64) (.int .i64)))⟩
theorem MX : aa Tryz.prog 33 Tl := aa.aG (by kernel_rfl) (by kernel_rfl) (by kernel_rfl) (.inl rfl) (⟨_, Tryz.underlying33, by kernel_rfl⟩) (⟨by kernel_rfl, by kernel_rfl, by kernel_rfl, by kernel_rfl⟩)
/-- []api.Errno -/
def Tt : TI := ⟨1, 24, .slice 25, [.aC (.slice none 0 0)], some (.sl (.int .i64))⟩
theorem NO : aa Tryz.prog 34 Tt := aa.aG (by kernel_rfl) (by kernel_rfl) (by kernel_rfl) (.inr rfl) (Tryz.underlying34) (⟨by kernel_rfl, by kernel_rfl, by kernel_rfl, by kernel_rfl⟩)
/-- func([]api.RunOp) ([]api.Errno, []int, []int) -/
def S6 : TI := ⟨1, 8, .scalar (.func #[29] #[34, 28, 28] false), [.aC .nilFunc], none⟩
theorem Mx : aa Tryz.prog 36 S6 := aa.aG (by kernel_rfl) (by kernel_rfl) (by kernel_rfl) (.inr rfl) (⟨Tryz.underlying36, trivial⟩) (trivial)
/-- func(int, []api.Thread, int) bool -/
def T8 : TI := ⟨1, 8, .scalar (.func #[3, 22, 3] #[4] false), [.aC .nilFunc], none⟩
theorem NY : aa Tryz.prog 37 T8 := aa.aG (by kernel_rfl) (by kernel_rfl) (by kernel_rfl) (.inr rfl) (⟨Tryz.underlying37, trivial⟩) (trivial)
/-- []string -/
def S2 : TI := ⟨1, 24, .slice 9, [.aC (.slice none 0 0)], some (.sl (.str))⟩
theorem MP : aa Tryz.prog 38 S2 := aa.aG (by kernel_rfl) (by kernel_rfl) (by kernel_rfl) (.inr rfl) (Tryz.underlying38) (⟨by kernel_rfl, by kernel_rfl, by kernel_rfl, by kernel_rfl⟩)
/-- func(string) ([]string, api.Errno) -/
def Um : TI := ⟨1, 8, .scalar (.func #[9] #[38, 25] false), [.aC .nilFunc], none⟩
theorem MD : aa Tryz.prog 40 Um := aa.aG (by kernel_rfl) (by kernel_rfl) (by kernel_rfl) (.inr rfl) (⟨Tryz.underlying40, trivial⟩) (trivial)
/-- func(int, int, []api.Thread) api.Errno -/
def Tc : TI := ⟨1, 8, .scalar (.func #[3, 3, 22] #[25] false), [.aC .nilFunc], none⟩
theorem Nf : aa Tryz.prog 41 Tc := aa.aG (by kernel_rfl) (by kernel_rfl) (by kernel_rfl) (.inr rfl) (⟨Tryz.underlying41, trivial⟩) (trivial)
/-- []*cores.thread -/
def Tz : TI := ⟨1, 24, .slice 43, [.aC (.slice none 0 0)], none⟩
theorem MK : aa Tryz.prog 42 Tz := aa.aG (by kernel_rfl) (by kernel_rfl) (by kernel_rfl) (.inr rfl) (Tryz.underlying42) (trivial)
/-- *cores.thread -/
def TR : TI := ⟨1, 8, .scalar (.pointer 45), [.aC (.pointer none)], none⟩
theorem Mv : aa Tryz.prog 43 TR := aa.aG (by kernel_rfl) (by kernel_rfl) (by kernel_rfl) (.inr rfl) (⟨Tryz.underlying43, trivial⟩) (trivial)
/-- struct { api.Thread; id int; turn int; used int } -/
def Tq : TI := ⟨6, 48, .struct [(0, 31), (3, 3), (4, 3), (5, 3)], [.d (.int .i64) (0 : Int), .d (.int .i64) (0 : Int), .d (.int .i64) (0 : Int), .d (.int .i64) (0 : Int), .d (.int .i64) (0 : Int), .d (.int .i64) (0 : Int)], some (.pair (.pair (.int .i64) (.pair (.int .i64) (.int .i64))) (.pair (.int .i64) (.pair (.int .i64) (.int .i64))))⟩
theorem ML : aa Tryz.prog 44 Tq := aa.aG (by kernel_rfl) (by kernel_rfl) (by kernel_rfl) (.inl rfl) (⟨_, Tryz.underlying44, by kernel_rfl⟩) (⟨by kernel_rfl, by kernel_rfl, by kernel_rfl, by kernel_rfl⟩)
/-- cores.thread -/
def Uq : TI := ⟨6, 48, .struct [(0, 31), (3, 3), (4, 3), (5, 3)], [.d (.int .i64) (0 : Int), .d (.int .i64) (0 : Int), .d (.int .i64) (0 : Int), .d (.int .i64) (0 : Int), .d (.int .i64) (0 : Int), .d (.int .i64) (0 : Int)], some (.pair (.pair (.int .i64) (.pair (.int .i64) (.int .i64))) (.pair (.int .i64) (.pair (.int .i64) (.int .i64))))⟩
theorem Nk : aa Tryz.prog 45 Uq := aa.aG (by kernel_rfl) (by kernel_rfl) (by kernel_rfl) (.inl rfl) (⟨_, Tryz.underlying45, by kernel_rfl⟩) (⟨by kernel_rfl, by kernel_rfl, by kernel_rfl, by kernel_rfl⟩)
/-- func([]*cores.thread, func(*cores.thread, *cores.thread) int) -/
def Un : TI := ⟨1, 8, .scalar (.func #[42, 49] #[] false), [.aC .nilFunc], none⟩
theorem N9 : aa Tryz.prog 46 Un := aa.aG (by kernel_rfl) (by kernel_rfl) (by kernel_rfl) (.inr rfl) (⟨Tryz.underlying46, trivial⟩) (trivial)
/-- func(...int) int -/
def TV : TI := ⟨1, 8, .scalar (.func #[28] #[3] true), [.aC .nilFunc], none⟩
theorem Ni : aa Tryz.prog 47 TV := aa.aG (by kernel_rfl) (by kernel_rfl) (by kernel_rfl) (.inr rfl) (⟨Tryz.underlying47, trivial⟩) (trivial)
/-- func(int, int) int -/
def UZ : TI := ⟨1, 8, .scalar (.func #[3, 3] #[3] false), [.aC .nilFunc], none⟩
theorem MJ : aa Tryz.prog 48 UZ := aa.aG (by kernel_rfl) (by kernel_rfl) (by kernel_rfl) (.inr rfl) (⟨Tryz.underlying48, trivial⟩) (trivial)
/-- func(*cores.thread, *cores.thread) int -/
def UQ : TI := ⟨1, 8, .scalar (.func #[43, 43] #[3] false), [.aC .nilFunc], none⟩
theorem Nx : aa Tryz.prog 49 UQ := aa.aG (by kernel_rfl) (by kernel_rfl) (by kernel_rfl) (.inr rfl) (⟨Tryz.underlying49, trivial⟩) (trivial)
/-- func([]int) -/
def Tw : TI := ⟨1, 8, .scalar (.func #[28] #[] false), [.aC .nilFunc], none⟩
theorem L3 : aa Tryz.prog 50 Tw := aa.aG (by kernel_rfl) (by kernel_rfl) (by kernel_rfl) (.inr rfl) (⟨Tryz.underlying50, trivial⟩) (trivial)
/-- *runq.queue -/
def TG : TI := ⟨1, 8, .scalar (.pointer 56), [.aC (.pointer none)], none⟩
theorem NX : aa Tryz.prog 51 TG := aa.aG (by kernel_rfl) (by kernel_rfl) (by kernel_rfl) (.inr rfl) (⟨Tryz.underlying51, trivial⟩) (trivial)
/-- map[int]int -/
def S0 : TI := ⟨1, 8, .scalar (.map 3 3), [.aC (.map none)], none⟩
theorem M5 : aa Tryz.prog 52 S0 := aa.aG (by kernel_rfl) (by kernel_rfl) (by kernel_rfl) (.inr rfl) (⟨Tryz.underlying52, trivial⟩) (trivial)
/-- uint32 -/
def Uw : TI := ⟨1, 4, .scalar (.int .u32), [.d (.int .u32) (0 : Int)], some (.int .u32)⟩
theorem NH : aa Tryz.prog 53 Uw := aa.aG (by kernel_rfl) (by kernel_rfl) (by kernel_rfl) (.inr rfl) (⟨Tryz.underlying53, trivial⟩) (⟨by kernel_rfl, by kernel_rfl, by kernel_rfl, by kernel_rfl⟩)
/-- [32][]int -/
def UX : TI := ⟨32, 768, .arr 32 28, [.d (.arr 32 (.sl (.int .i64))) (List.replicate 32 (Ty.zero (.sl (.int .i64))))], some (.arr 32 (.sl (.int .i64)))⟩
theorem MF : aa Tryz.prog 54 UX := aa.aG (by kernel_rfl) (by kernel_rfl) (by kernel_rfl) (.inl rfl) (Tryz.underlying54) (⟨by kernel_rfl, by kernel_rfl, by kernel_rfl, by kernel_rfl⟩)
/-- struct { some uint32; lists [32][]int; at map[int]int } -/
def TE : TI := ⟨34, 784, .struct [(0, 53), (1, 54), (33, 52)], [.d (.int .u32) (0 : Int), .d (.arr 32 (.sl (.int .i64))) (List.replicate 32 (Ty.zero (.sl (.int .i64)))), .aC (.map none)], none⟩
theorem Oe : aa Tryz.prog 55 TE := aa.aG (by kernel_rfl) (by kernel_rfl) (by kernel_rfl) (.inl rfl) (⟨_, Tryz.underlying55, by kernel_rfl⟩) (trivial)
/-- runq.queue -/
def UU : TI := ⟨34, 784, .struct [(0, 53), (1, 54), (33, 52)], [.d (.int .u32) (0 : Int), .d (.arr 32 (.sl (.int .i64))) (List.replicate 32 (Ty.zero (.sl (.int .i64)))), .aC (.map none)], none⟩
theorem NR : aa Tryz.prog 56 UU := aa.aG (by kernel_rfl) (by kernel_rfl) (by kernel_rfl) (.inl rfl) (⟨_, Tryz.underlying56, by kernel_rfl⟩) (trivial)
/-- func(api.RunOp) (int, api.Errno) -/
def U6 : TI := ⟨1, 8, .scalar (.func #[33] #[3, 25] false), [.aC .nilFunc], none⟩
theorem Mw : aa Tryz.prog 58 U6 := aa.aG (by kernel_rfl) (by kernel_rfl) (by kernel_rfl) (.inr rfl) (⟨Tryz.underlying58, trivial⟩) (trivial)
/-- []api.KernOp -/
def Uk : TI := ⟨1, 24, .slice 75, [.aC (.slice none 0 0)], some (.sl (.pair (.int .i64) (.pair (.int .i64) (.pair (.int .i64) (.int .u8)))))⟩
theorem Nr : aa Tryz.prog 59 Uk := aa.aG (by kernel_rfl) (by kernel_rfl) (by kernel_rfl) (.inr rfl) (Tryz.underlying59) (⟨by kernel_rfl, by kernel_rfl, by kernel_rfl, by kernel_rfl⟩)
/-- func(string) ([]api.KernOp, int, api.Errno) -/
def TP : TI := ⟨1, 8, .scalar (.func #[9] #[59, 3, 25] false), [.aC .nilFunc], none⟩
theorem Nq : aa Tryz.prog 61 TP := aa.aG (by kernel_rfl) (by kernel_rfl) (by kernel_rfl) (.inr rfl) (⟨Tryz.underlying61, trivial⟩) (trivial)
/-- []api.KernAns -/
def Tm : TI := ⟨1, 24, .slice 72, [.aC (.slice none 0 0)], some (.sl (.pair (.int .i64) (.sl (.int .u8))))⟩
theorem LH : aa Tryz.prog 62 Tm := aa.aG (by kernel_rfl) (by kernel_rfl) (by kernel_rfl) (.inr rfl) (Tryz.underlying62) (⟨by kernel_rfl, by kernel_rfl, by kernel_rfl, by kernel_rfl⟩)
/-- []uint8 -/
def Ti : TI := ⟨1, 24, .slice 5, [.aC (.slice none 0 0)], some (.sl (.int .u8))⟩
theorem NN : aa Tryz.prog 63 Ti := aa.aG (by kernel_rfl) (by kernel_rfl) (by kernel_rfl) (.inr rfl) (Tryz.underlying63) (⟨by kernel_rfl, by kernel_rfl, by kernel_rfl, by kernel_rfl⟩)
/-- [][]uint8 -/
def Tk : TI := ⟨1, 24, .slice 63, [.aC (.slice none 0 0)], some (.sl (.sl (.int .u8)))⟩
theorem Mq : aa Tryz.prog 64 Tk := aa.aG (by kernel_rfl) (by kernel_rfl) (by kernel_rfl) (.inr rfl) (Tryz.underlying64) (⟨by kernel_rfl, by kernel_rfl, by kernel_rfl, by kernel_rfl⟩)
/-- struct { Lines [][]uint8; Edit []uint8 } -/
def U0 : TI := ⟨2, 48, .struct [(0, 64), (1, 63)], [.aC (.slice none 0 0), .aC (.slice none 0 0)], some (.pair (.sl (.sl (.int .u8))) (.sl (.int .u8)))⟩
theorem L7 : aa Tryz.prog 65 U0 := aa.aG (by kernel_rfl) (by kernel_rfl) (by kernel_rfl) (.inl rfl) (⟨_, Tryz.underlying65, by kernel_rfl⟩) (⟨by kernel_rfl, by kernel_rfl, by kernel_rfl, by kernel_rfl⟩)
/-- api.Tty -/
def TL : TI := ⟨2, 48, .struct [(0, 64), (1, 63)], [.aC (.slice none 0 0), .aC (.slice none 0 0)], some (.pair (.sl (.sl (.int .u8))) (.sl (.int .u8)))⟩
theorem L6 : aa Tryz.prog 66 TL := aa.aG (by kernel_rfl) (by kernel_rfl) (by kernel_rfl) (.inl rfl) (⟨_, Tryz.underlying66, by kernel_rfl⟩) (⟨by kernel_rfl, by kernel_rfl, by kernel_rfl, by kernel_rfl⟩)
/-- struct { Device []uint8; Fetched []uint8; Tty api.Tty; Lost int; Taken int } -/
def T3 : TI := ⟨6, 112, .struct [(0, 63), (1, 63), (2, 66), (4, 3), (5, 3)], [.aC (.slice none 0 0), .aC (.slice none 0 0), .aC (.slice none 0 0), .aC (.slice none 0 0), .d (.int .i64) (0 : Int), .d (.int .i64) (0 : Int)], some (.pair (.sl (.int .u8)) (.pair (.sl (.int .u8)) (.pair (.pair (.sl (.sl (.int .u8))) (.sl (.int .u8))) (.pair (.int .i64) (.int .i64)))))⟩
theorem L5 : aa Tryz.prog 67 T3 := aa.aG (by kernel_rfl) (by kernel_rfl) (by kernel_rfl) (.inl rfl) (⟨_, Tryz.underlying67, by kernel_rfl⟩) (⟨by kernel_rfl, by kernel_rfl, by kernel_rfl, by kernel_rfl⟩)
/-- api.Whole -/
def S5 : TI := ⟨6, 112, .struct [(0, 63), (1, 63), (2, 66), (4, 3), (5, 3)], [.aC (.slice none 0 0), .aC (.slice none 0 0), .aC (.slice none 0 0), .aC (.slice none 0 0), .d (.int .i64) (0 : Int), .d (.int .i64) (0 : Int)], some (.pair (.sl (.int .u8)) (.pair (.sl (.int .u8)) (.pair (.pair (.sl (.sl (.int .u8))) (.sl (.int .u8))) (.pair (.int .i64) (.int .i64)))))⟩
theorem OE : aa Tryz.prog 68 S5 := aa.aG (by kernel_rfl) (by kernel_rfl) (by kernel_rfl) (.inl rfl) (⟨_, Tryz.underlying68, by kernel_rfl⟩) (⟨by kernel_rfl, by kernel_rfl, by kernel_rfl, by kernel_rfl⟩)
/-- func([]api.KernOp) ([]api.KernAns, api.Whole) -/
def TH : TI := ⟨1, 8, .scalar (.func #[59] #[62, 68] false), [.aC .nilFunc], none⟩
theorem Mb : aa Tryz.prog 70 TH := aa.aG (by kernel_rfl) (by kernel_rfl) (by kernel_rfl) (.inr rfl) (⟨Tryz.underlying70, trivial⟩) (trivial)
/-- struct { Err api.Errno; Data []uint8 } -/
def UJ : TI := ⟨2, 32, .struct [(0, 25), (1, 63)], [.d (.int .i64) (0 : Int), .aC (.slice none 0 0)], some (.pair (.int .i64) (.sl (.int .u8)))⟩
theorem LY : aa Tryz.prog 71 UJ := aa.aG (by kernel_rfl) (by kernel_rfl) (by kernel_rfl) (.inl rfl) (⟨_, Tryz.underlying71, by kernel_rfl⟩) (⟨by kernel_rfl, by kernel_rfl, by kernel_rfl, by kernel_rfl⟩)
/-- api.KernAns -/
def Te : TI := ⟨2, 32, .struct [(0, 25), (1, 63)], [.d (.int .i64) (0 : Int), .aC (.slice none 0 0)], some (.pair (.int .i64) (.sl (.int .u8)))⟩
theorem M7 : aa Tryz.prog 72 Te := aa.aG (by kernel_rfl) (by kernel_rfl) (by kernel_rfl) (.inl rfl) (⟨_, Tryz.underlying72, by kernel_rfl⟩) (⟨by kernel_rfl, by kernel_rfl, by kernel_rfl, by kernel_rfl⟩)
/-- func(int) string -/
def UR : TI := ⟨1, 8, .scalar (.func #[3] #[9] false), [.aC .nilFunc], none⟩
theorem NK : aa Tryz.prog 73 UR := aa.aG (by kernel_rfl) (by kernel_rfl) (by kernel_rfl) (.inr rfl) (⟨Tryz.underlying73, trivial⟩) (trivial)
/-- struct { Kind int; Core int; N int; Byte uint8 } -/
def T6 : TI := ⟨4, 32, .struct [(0, 3), (1, 3), (2, 3), (3, 5)], [.d (.int .i64) (0 : Int), .d (.int .i64) (0 : Int), .d (.int .i64) (0 : Int), .d (.int .u8) (0 : Int)], some (.pair (.int .i64) (.pair (.int .i64) (.pair (.int .i64) (.int .u8))))⟩
theorem M4 : aa Tryz.prog 74 T6 := aa.aG (by kernel_rfl) (by kernel_rfl) (by kernel_rfl) (.inl rfl) (⟨_, Tryz.underlying74, by kernel_rfl⟩) (⟨by kernel_rfl, by kernel_rfl, by kernel_rfl, by kernel_rfl⟩)
/-- api.KernOp -/
def U7 : TI := ⟨4, 32, .struct [(0, 3), (1, 3), (2, 3), (3, 5)], [.d (.int .i64) (0 : Int), .d (.int .i64) (0 : Int), .d (.int .i64) (0 : Int), .d (.int .u8) (0 : Int)], some (.pair (.int .i64) (.pair (.int .i64) (.pair (.int .i64) (.int .u8))))⟩
theorem Mc : aa Tryz.prog 75 U7 := aa.aG (by kernel_rfl) (by kernel_rfl) (by kernel_rfl) (.inl rfl) (⟨_, Tryz.underlying75, by kernel_rfl⟩) (⟨by kernel_rfl, by kernel_rfl, by kernel_rfl, by kernel_rfl⟩)
/-- func([]uint8) string -/
def S9 : TI := ⟨1, 8, .scalar (.func #[63] #[9] false), [.aC .nilFunc], none⟩
theorem OB : aa Tryz.prog 76 S9 := aa.aG (by kernel_rfl) (by kernel_rfl) (by kernel_rfl) (.inr rfl) (⟨Tryz.underlying76, trivial⟩) (trivial)
/-- func([]*cores.thread, int, int, int, func(*cores.thread, *cores.thread) int) -/
def Uc : TI := ⟨1, 8, .scalar (.func #[42, 3, 3, 3, 49] #[] false), [.aC .nilFunc], none⟩
theorem MS : aa Tryz.prog 77 Uc := aa.aG (by kernel_rfl) (by kernel_rfl) (by kernel_rfl) (.inr rfl) (⟨Tryz.underlying77, trivial⟩) (trivial)
/-- func(uint) int -/
def Tv : TI := ⟨1, 8, .scalar (.func #[79] #[3] false), [.aC .nilFunc], none⟩
theorem Nu : aa Tryz.prog 78 Tv := aa.aG (by kernel_rfl) (by kernel_rfl) (by kernel_rfl) (.inr rfl) (⟨Tryz.underlying78, trivial⟩) (trivial)
/-- uint -/
def UW : TI := ⟨1, 8, .scalar (.int .u64), [.d (.int .u64) (0 : Int)], some (.int .u64)⟩
theorem Og : aa Tryz.prog 79 UW := aa.aG (by kernel_rfl) (by kernel_rfl) (by kernel_rfl) (.inr rfl) (⟨Tryz.underlying79, trivial⟩) (⟨by kernel_rfl, by kernel_rfl, by kernel_rfl, by kernel_rfl⟩)
/-- func(int) bool -/
def Uy : TI := ⟨1, 8, .scalar (.func #[3] #[4] false), [.aC .nilFunc], none⟩
theorem Mg : aa Tryz.prog 80 Uy := aa.aG (by kernel_rfl) (by kernel_rfl) (by kernel_rfl) (.inr rfl) (⟨Tryz.underlying80, trivial⟩) (trivial)
/-- func([]int, int, int, int) -/
def Uz : TI := ⟨1, 8, .scalar (.func #[28, 3, 3, 3] #[] false), [.aC .nilFunc], none⟩
theorem MV : aa Tryz.prog 81 Uz := aa.aG (by kernel_rfl) (by kernel_rfl) (by kernel_rfl) (.inr rfl) (⟨Tryz.underlying81, trivial⟩) (trivial)
/-- func(int, int, bool) -/
def TQ : TI := ⟨1, 8, .scalar (.func #[3, 3, 4] #[] false), [.aC .nilFunc], none⟩
theorem MZ : aa Tryz.prog 83 TQ := aa.aG (by kernel_rfl) (by kernel_rfl) (by kernel_rfl) (.inr rfl) (⟨Tryz.underlying83, trivial⟩) (trivial)
/-- func(uint32) int -/
def Ts : TI := ⟨1, 8, .scalar (.func #[53] #[3] false), [.aC .nilFunc], none⟩
theorem NW : aa Tryz.prog 84 Ts := aa.aG (by kernel_rfl) (by kernel_rfl) (by kernel_rfl) (.inr rfl) (⟨Tryz.underlying84, trivial⟩) (trivial)
/-- func(int) -/
def UK : TI := ⟨1, 8, .scalar (.func #[3] #[] false), [.aC .nilFunc], none⟩
theorem OD : aa Tryz.prog 85 UK := aa.aG (by kernel_rfl) (by kernel_rfl) (by kernel_rfl) (.inr rfl) (⟨Tryz.underlying85, trivial⟩) (trivial)
/-- func(string, string) (string, string, bool) -/
def Tf : TI := ⟨1, 8, .scalar (.func #[9, 9] #[9, 9, 4] false), [.aC .nilFunc], none⟩
theorem Oh : aa Tryz.prog 87 Tf := aa.aG (by kernel_rfl) (by kernel_rfl) (by kernel_rfl) (.inr rfl) (⟨Tryz.underlying87, trivial⟩) (trivial)
/-- func(string) (api.KernOp, bool) -/
def UD : TI := ⟨1, 8, .scalar (.func #[9] #[75, 4] false), [.aC .nilFunc], none⟩
theorem Oj : aa Tryz.prog 89 UD := aa.aG (by kernel_rfl) (by kernel_rfl) (by kernel_rfl) (.inr rfl) (⟨Tryz.underlying89, trivial⟩) (trivial)
/-- *kernel.whole -/
def Ub : TI := ⟨1, 8, .scalar (.pointer 109), [.aC (.pointer none)], none⟩
theorem L9 : aa Tryz.prog 90 Ub := aa.aG (by kernel_rfl) (by kernel_rfl) (by kernel_rfl) (.inr rfl) (⟨Tryz.underlying90, trivial⟩) (trivial)
/-- func() *kernel.whole -/
def Ut : TI := ⟨1, 8, .scalar (.func #[] #[90] false), [.aC .nilFunc], none⟩
theorem NT : aa Tryz.prog 91 Ut := aa.aG (by kernel_rfl) (by kernel_rfl) (by kernel_rfl) (.inr rfl) (⟨Tryz.underlying91, trivial⟩) (trivial)
/-- func(api.KernOp) api.KernAns -/
def Ud : TI := ⟨1, 8, .scalar (.func #[75] #[72] false), [.aC .nilFunc], none⟩
theorem Om : aa Tryz.prog 92 Ud := aa.aG (by kernel_rfl) (by kernel_rfl) (by kernel_rfl) (.inr rfl) (⟨Tryz.underlying92, trivial⟩) (trivial)
/-- func([]uint8) []uint8 -/
def Tg : TI := ⟨1, 8, .scalar (.func #[63] #[63] false), [.aC .nilFunc], none⟩
theorem Ms : aa Tryz.prog 93 Tg := aa.aG (by kernel_rfl) (by kernel_rfl) (by kernel_rfl) (.inr rfl) (⟨Tryz.underlying93, trivial⟩) (trivial)
/-- struct { In []uint8; Out []uint8; Lost int; Asks bool } -/
def T4 : TI := ⟨4, 64, .struct [(0, 63), (1, 63), (2, 3), (3, 4)], [.aC (.slice none 0 0), .aC (.slice none 0 0), .d (.int .i64) (0 : Int), .lit false], some (.pair (.sl (.int .u8)) (.pair (.sl (.int .u8)) (.pair (.int .i64) (.bool))))⟩
theorem OC : aa Tryz.prog 94 T4 := aa.aG (by kernel_rfl) (by kernel_rfl) (by kernel_rfl) (.inl rfl) (⟨_, Tryz.underlying94, by kernel_rfl⟩) (⟨by kernel_rfl, by kernel_rfl, by kernel_rfl, by kernel_rfl⟩)
/-- api.Uart -/
def Ta : TI := ⟨4, 64, .struct [(0, 63), (1, 63), (2, 3), (3, 4)], [.aC (.slice none 0 0), .aC (.slice none 0 0), .d (.int .i64) (0 : Int), .lit false], some (.pair (.sl (.int .u8)) (.pair (.sl (.int .u8)) (.pair (.int .i64) (.bool))))⟩
theorem Ot : aa Tryz.prog 95 Ta := aa.aG (by kernel_rfl) (by kernel_rfl) (by kernel_rfl) (.inl rfl) (⟨_, Tryz.underlying95, by kernel_rfl⟩) (⟨by kernel_rfl, by kernel_rfl, by kernel_rfl, by kernel_rfl⟩)
/-- []api.Pin -/
def Tp : TI := ⟨1, 24, .slice 143, [.aC (.slice none 0 0)], some (.sl (.pair (.int .i64) (.pair (.int .i64) (.pair (.bool) (.pair (.bool) (.pair (.bool) (.pair (.bool) (.bool))))))))⟩
theorem My : aa Tryz.prog 96 Tp := aa.aG (by kernel_rfl) (by kernel_rfl) (by kernel_rfl) (.inr rfl) (Tryz.underlying96) (⟨by kernel_rfl, by kernel_rfl, by kernel_rfl, by kernel_rfl⟩)
/-- uint64 -/
def US : TI := ⟨1, 8, .scalar (.int .u64), [.d (.int .u64) (0 : Int)], some (.int .u64)⟩
theorem LL : aa Tryz.prog 97 US := aa.aG (by kernel_rfl) (by kernel_rfl) (by kernel_rfl) (.inr rfl) (⟨Tryz.underlying97, trivial⟩) (⟨by kernel_rfl, by kernel_rfl, by kernel_rfl, by kernel_rfl⟩)
/-- [4]uint64 -/
def U9 : TI := ⟨4, 32, .arr 4 97, [.d (.arr 4 (.int .u64)) (List.replicate 4 (Ty.zero (.int .u64)))], some (.arr 4 (.int .u64))⟩
theorem L2 : aa Tryz.prog 98 U9 := aa.aG (by kernel_rfl) (by kernel_rfl) (by kernel_rfl) (.inl rfl) (Tryz.underlying98) (⟨by kernel_rfl, by kernel_rfl, by kernel_rfl, by kernel_rfl⟩)
/-- api.Bits -/
def Uf : TI := ⟨4, 32, .arr 4 97, [.d (.arr 4 (.int .u64)) (List.replicate 4 (Ty.zero (.int .u64)))], some (.arr 4 (.int .u64))⟩
theorem LM : aa Tryz.prog 99 Uf := aa.aG (by kernel_rfl) (by kernel_rfl) (by kernel_rfl) (.inl rfl) (Tryz.underlying99) (⟨by kernel_rfl, by kernel_rfl, by kernel_rfl, by kernel_rfl⟩)
/-- struct { Asked api.Bits; Served api.Bits; Class int } -/
def O4 : TI := ⟨9, 72, .struct [(0, 99), (4, 99), (8, 3)], [.d (.arr 4 (.int .u64)) (List.replicate 4 (Ty.zero (.int .u64))), .d (.arr 4 (.int .u64)) (List.replicate 4 (Ty.zero (.int .u64))), .d (.int .i64) (0 : Int)], some (.pair (.arr 4 (.int .u64)) (.pair (.arr 4 (.int .u64)) (.int .i64)))⟩
theorem Gx : aa Tryz.prog 100 O4 := aa.aG (by kernel_rfl) (by kernel_rfl) (by kernel_rfl) (.inl rfl) (⟨_, Tryz.underlying100, by kernel_rfl⟩) (⟨by kernel_rfl, by kernel_rfl, by kernel_rfl, by kernel_rfl⟩)
/-- api.Local -/
def QB : TI := ⟨9, 72, .struct [(0, 99), (4, 99), (8, 3)], [.d (.arr 4 (.int .u64)) (List.replicate 4 (Ty.zero (.int .u64))), .d (.arr 4 (.int .u64)) (List.replicate 4 (Ty.zero (.int .u64))), .d (.int .i64) (0 : Int)], some (.pair (.arr 4 (.int .u64)) (.pair (.arr 4 (.int .u64)) (.int .i64)))⟩
theorem I8 : aa Tryz.prog 101 QB := aa.aG (by kernel_rfl) (by kernel_rfl) (by kernel_rfl) (.inl rfl) (⟨_, Tryz.underlying101, by kernel_rfl⟩) (⟨by kernel_rfl, by kernel_rfl, by kernel_rfl, by kernel_rfl⟩)
/-- []api.Frame -/
def P6 : TI := ⟨1, 24, .slice 217, [.aC (.slice none 0 0)], some (.sl (.pair (.bool) (.bool)))⟩
theorem Ig : aa Tryz.prog 102 P6 := aa.aG (by kernel_rfl) (by kernel_rfl) (by kernel_rfl) (.inr rfl) (Tryz.underlying102) (⟨by kernel_rfl, by kernel_rfl, by kernel_rfl, by kernel_rfl⟩)
/-- struct { On bool; Kept []api.Frame } -/
def Pm : TI := ⟨2, 32, .struct [(0, 4), (1, 102)], [.lit false, .aC (.slice none 0 0)], some (.pair (.bool) (.sl (.pair (.bool) (.bool))))⟩
theorem Gy : aa Tryz.prog 103 Pm := aa.aG (by kernel_rfl) (by kernel_rfl) (by kernel_rfl) (.inl rfl) (⟨_, Tryz.underlying103, by kernel_rfl⟩) (⟨by kernel_rfl, by kernel_rfl, by kernel_rfl, by kernel_rfl⟩)
/-- api.Core -/
def Pc : TI := ⟨2, 32, .struct [(0, 4), (1, 102)], [.lit false, .aC (.slice none 0 0)], some (.pair (.bool) (.sl (.pair (.bool) (.bool))))⟩
theorem Hy : aa Tryz.prog 104 Pc := aa.aG (by kernel_rfl) (by kernel_rfl) (by kernel_rfl) (.inl rfl) (⟨_, Tryz.underlying104, by kernel_rfl⟩) (⟨by kernel_rfl, by kernel_rfl, by kernel_rfl, by kernel_rfl⟩)
/-- struct { local api.Local; nest api.Core; serving bool } -/
def QY : TI := ⟨12, 112, .struct [(0, 101), (9, 104), (11, 4)], [.d (.arr 4 (.int .u64)) (List.replicate 4 (Ty.zero (.int .u64))), .d (.arr 4 (.int .u64)) (List.replicate 4 (Ty.zero (.int .u64))), .d (.int .i64) (0 : Int), .lit false, .aC (.slice none 0 0), .lit false], some (.pair (.pair (.arr 4 (.int .u64)) (.pair (.arr 4 (.int .u64)) (.int .i64))) (.pair (.pair (.bool) (.sl (.pair (.bool) (.bool)))) (.bool)))⟩
theorem HD : aa Tryz.prog 105 QY := aa.aG (by kernel_rfl) (by kernel_rfl) (by kernel_rfl) (.inl rfl) (⟨_, Tryz.underlying105, by kernel_rfl⟩) (⟨by kernel_rfl, by kernel_rfl, by kernel_rfl, by kernel_rfl⟩)
/-- kernel.core -/
def Pf : TI := ⟨12, 112, .struct [(0, 101), (9, 104), (11, 4)], [.d (.arr 4 (.int .u64)) (List.replicate 4 (Ty.zero (.int .u64))), .d (.arr 4 (.int .u64)) (List.replicate 4 (Ty.zero (.int .u64))), .d (.int .i64) (0 : Int), .lit false, .aC (.slice none 0 0), .lit false], some (.pair (.pair (.arr 4 (.int .u64)) (.pair (.arr 4 (.int .u64)) (.int .i64))) (.pair (.pair (.bool) (.sl (.pair (.bool) (.bool)))) (.bool)))⟩
theorem HY : aa Tryz.prog 106 Pf := aa.aG (by kernel_rfl) (by kernel_rfl) (by kernel_rfl) (.inl rfl) (⟨_, Tryz.underlying106, by kernel_rfl⟩) (⟨by kernel_rfl, by kernel_rfl, by kernel_rfl, by kernel_rfl⟩)
/-- [2]kernel.core -/
def Pq : TI := ⟨24, 224, .arr 2 106, [.d (.arr 2 (.pair (.pair (.arr 4 (.int .u64)) (.pair (.arr 4 (.int .u64)) (.int .i64))) (.pair (.pair (.bool) (.sl (.pair (.bool) (.bool)))) (.bool)))) (List.replicate 2 (Ty.zero (.pair (.pair (.arr 4 (.int .u64)) (.pair (.arr 4 (.int .u64)) (.int .i64))) (.pair (.pair (.bool) (.sl (.pair (.bool) (.bool)))) (.bool)))))], some (.arr 2 (.pair (.pair (.arr 4 (.int .u64)) (.pair (.arr 4 (.int .u64)) (.int .i64))) (.pair (.pair (.bool) (.sl (.pair (.bool) (.bool)))) (.bool))))⟩
theorem IS : aa Tryz.prog 107 Pq := aa.aG (by kernel_rfl) (by kernel_rfl) (by kernel_rfl) (.inl rfl) (Tryz.underlying107) (⟨by kernel_rfl, by kernel_rfl, by kernel_rfl, by kernel_rfl⟩)
/-- struct { uart api.Uart; pins []api.Pin; cores [2]kernel.core; fetched []uint8; tty api.Tty; taken int } -/
def OO : TI := ⟨33, 392, .struct [(0, 95), (4, 96), (5, 107), (29, 63), (30, 66), (32, 3)], [.aC (.slice none 0 0), .aC (.slice none 0 0), .d (.int .i64) (0 : Int), .lit false, .aC (.slice none 0 0), .d (.arr 2 (.pair (.pair (.arr 4 (.int .u64)) (.pair (.arr 4 (.int .u64)) (.int .i64))) (.pair (.pair (.bool) (.sl (.pair (.bool) (.bool)))) (.bool)))) (List.replicate 2 (Ty.zero (.pair (.pair (.arr 4 (.int .u64)) (.pair (.arr 4 (.int .u64)) (.int .i64))) (.pair (.pair (.bool) (.sl (.pair (.bool) (.bool)))) (.bool))))), .aC (.slice none 0 0), .aC (.slice none 0 0), .aC (.slice none 0 0), .d (.int .i64) (0 : Int)], some (.pair (.pair (.sl (.int .u8)) (.pair (.sl (.int .u8)) (.pair (.int .i64) (.bool)))) (.pair (.sl (.pair (.int .i64) (.pair (.int .i64) (.pair (.bool) (.pair (.bool) (.pair (.bool) (.pair (.bool) (.bool)))))))) (.pair (.arr 2 (.pair (.pair (.arr 4 (.int .u64)) (.pair (.arr 4 (.int .u64)) (.int .i64))) (.pair (.pair (.bool) (.sl (.pair (.bool) (.bool)))) (.bool)))) (.pair (.sl (.int .u8)) (.pair (.pair (.sl (.sl (.int .u8))) (.sl (.int .u8))) (.int .i64))))))⟩
theorem Lb : aa Tryz.prog 108 OO := aa.aG (by kernel_rfl) (by kernel_rfl) (by kernel_rfl) (.inl rfl) (⟨_, Tryz.underlying108, by kernel_rfl⟩) (⟨by kernel_rfl, by kernel_rfl, by kernel_rfl, by kernel_rfl⟩)
/-- kernel.whole -/
def Pu : TI := ⟨33, 392, .struct [(0, 95), (4, 96), (5, 107), (29, 63), (30, 66), (32, 3)], [.aC (.slice none 0 0), .aC (.slice none 0 0), .d (.int .i64) (0 : Int), .lit false, .aC (.slice none 0 0), .d (.arr 2 (.pair (.pair (.arr 4 (.int .u64)) (.pair (.arr 4 (.int .u64)) (.int .i64))) (.pair (.pair (.bool) (.sl (.pair (.bool) (.bool)))) (.bool)))) (List.replicate 2 (Ty.zero (.pair (.pair (.arr 4 (.int .u64)) (.pair (.arr 4 (.int .u64)) (.int .i64))) (.pair (.pair (.bool) (.sl (.pair (.bool) (.bool)))) (.bool))))), .aC (.slice none 0 0), .aC (.slice none 0 0), .aC (.slice none 0 0), .d (.int .i64) (0 : Int)], some (.pair (.pair (.sl (.int .u8)) (.pair (.sl (.int .u8)) (.pair (.int .i64) (.bool)))) (.pair (.sl (.pair (.int .i64) (.pair (.int .i64) (.pair (.bool) (.pair (.bool) (.pair (.bool) (.pair (.bool) (.bool)))))))) (.pair (.arr 2 (.pair (.pair (.arr 4 (.int .u64)) (.pair (.arr 4 (.int .u64)) (.int .i64))) (.pair (.pair (.bool) (.sl (.pair (.bool) (.bool)))) (.bool)))) (.pair (.sl (.int .u8)) (.pair (.pair (.sl (.sl (.int .u8))) (.sl (.int .u8))) (.int .i64))))))⟩
theorem Ko : aa Tryz.prog 109 Pu := aa.aG (by kernel_rfl) (by kernel_rfl) (by kernel_rfl) (.inl rfl) (⟨_, Tryz.underlying109, by kernel_rfl⟩) (⟨by kernel_rfl, by kernel_rfl, by kernel_rfl, by kernel_rfl⟩)
/-- *strings.Builder -/
def Q5 : TI := ⟨1, 8, .scalar (.pointer 112), [.aC (.pointer none)], none⟩
theorem GG : aa Tryz.prog 110 Q5 := aa.aG (by kernel_rfl) (by kernel_rfl) (by kernel_rfl) (.inr rfl) (⟨Tryz.underlying110, trivial⟩) (trivial)
/-- struct { addr *strings.Builder; buf []uint8 } -/
def Rk : TI := ⟨2, 32, .struct [(0, 110), (1, 63)], [.aC (.pointer none), .aC (.slice none 0 0)], none⟩
theorem Is : aa Tryz.prog 111 Rk := aa.aG (by kernel_rfl) (by kernel_rfl) (by kernel_rfl) (.inl rfl) (⟨_, Tryz.underlying111, by kernel_rfl⟩) (trivial)
/-- strings.Builder -/
def Qn : TI := ⟨2, 32, .struct [(0, 110), (1, 63)], [.aC (.pointer none), .aC (.slice none 0 0)], none⟩
theorem JD : aa Tryz.prog 112 Qn := aa.aG (by kernel_rfl) (by kernel_rfl) (by kernel_rfl) (.inl rfl) (⟨_, Tryz.underlying112, by kernel_rfl⟩) (trivial)
/-- interface { Error() string } -/
def PX : TI := ⟨1, 16, .scalar (.interface #[("Error", 116)]), [.aC .nilIface], some (.err)⟩
theorem Lj : aa Tryz.prog 113 PX := aa.aG (by kernel_rfl) (by kernel_rfl) (by kernel_rfl) (.inr rfl) (⟨Tryz.underlying113, trivial⟩) (⟨by kernel_rfl, by kernel_rfl, by kernel_rfl, by kernel_rfl⟩)
/-- error -/
def Qt : TI := ⟨1, 16, .scalar (.interface #[("Error", 116)]), [.aC .nilIface], some (.err)⟩
theorem GS : aa Tryz.prog 114 Qt := aa.aG (by kernel_rfl) (by kernel_rfl) (by kernel_rfl) (.inr rfl) (⟨Tryz.underlying114, trivial⟩) (⟨by kernel_rfl, by kernel_rfl, by kernel_rfl, by kernel_rfl⟩)
/-- func(uint8) error -/
def QZ : TI := ⟨1, 8, .scalar (.func #[5] #[114] false), [.aC .nilFunc], none⟩
theorem H7 : aa Tryz.prog 115 QZ := aa.aG (by kernel_rfl) (by kernel_rfl) (by kernel_rfl) (.inr rfl) (⟨Tryz.underlying115, trivial⟩) (trivial)
/-- func() string -/
def Q2 : TI := ⟨1, 8, .scalar (.func #[] #[9] false), [.aC .nilFunc], none⟩
theorem Ib : aa Tryz.prog 116 Q2 := aa.aG (by kernel_rfl) (by kernel_rfl) (by kernel_rfl) (.inr rfl) (⟨Tryz.underlying116, trivial⟩) (trivial)
/-- func([]*cores.thread, int, int, func(*cores.thread, *cores.thread) int) -/
def Q3 : TI := ⟨1, 8, .scalar (.func #[42, 3, 3, 49] #[] false), [.aC .nilFunc], none⟩
theorem Ha : aa Tryz.prog 117 Q3 := aa.aG (by kernel_rfl) (by kernel_rfl) (by kernel_rfl) (.inr rfl) (⟨Tryz.underlying117, trivial⟩) (trivial)
/-- slices.sortedHint -/
def Py : TI := ⟨1, 8, .scalar (.int .i64), [.d (.int .i64) (0 : Int)], some (.int .i64)⟩
theorem IE : aa Tryz.prog 118 Py := aa.aG (by kernel_rfl) (by kernel_rfl) (by kernel_rfl) (.inr rfl) (⟨Tryz.underlying118, trivial⟩) (⟨by kernel_rfl, by kernel_rfl, by kernel_rfl, by kernel_rfl⟩)
/-- func([]*cores.thread, int, int, func(*cores.thread, *cores.thread) int) (int, slices.sortedHint) -/
def P8 : TI := ⟨1, 8, .scalar (.func #[42, 3, 3, 49] #[3, 118] false), [.aC .nilFunc], none⟩
theorem Kp : aa Tryz.prog 120 P8 := aa.aG (by kernel_rfl) (by kernel_rfl) (by kernel_rfl) (.inr rfl) (⟨Tryz.underlying120, trivial⟩) (trivial)
/-- func([]*cores.thread, int, int, func(*cores.thread, *cores.thread) int) bool -/
def O8 : TI := ⟨1, 8, .scalar (.func #[42, 3, 3, 49] #[4] false), [.aC .nilFunc], none⟩
theorem Gj : aa Tryz.prog 121 O8 := aa.aG (by kernel_rfl) (by kernel_rfl) (by kernel_rfl) (.inr rfl) (⟨Tryz.underlying121, trivial⟩) (trivial)
/-- func([]*cores.thread, int, int, int, func(*cores.thread, *cores.thread) int) int -/
def Ql : TI := ⟨1, 8, .scalar (.func #[42, 3, 3, 3, 49] #[3] false), [.aC .nilFunc], none⟩
theorem Hv : aa Tryz.prog 122 Ql := aa.aG (by kernel_rfl) (by kernel_rfl) (by kernel_rfl) (.inr rfl) (⟨Tryz.underlying122, trivial⟩) (trivial)
/-- func([]*cores.thread, int, int, int, func(*cores.thread, *cores.thread) int) (int, bool) -/
def PF : TI := ⟨1, 8, .scalar (.func #[42, 3, 3, 3, 49] #[3, 4] false), [.aC .nilFunc], none⟩
theorem Li : aa Tryz.prog 123 PF := aa.aG (by kernel_rfl) (by kernel_rfl) (by kernel_rfl) (.inr rfl) (⟨Tryz.underlying123, trivial⟩) (trivial)
/-- func(uint64) int -/
def Rp : TI := ⟨1, 8, .scalar (.func #[97] #[3] false), [.aC .nilFunc], none⟩
theorem H8 : aa Tryz.prog 124 Rp := aa.aG (by kernel_rfl) (by kernel_rfl) (by kernel_rfl) (.inr rfl) (⟨Tryz.underlying124, trivial⟩) (trivial)
/-- func([]int, int, int) -/
def OP : TI := ⟨1, 8, .scalar (.func #[28, 3, 3] #[] false), [.aC .nilFunc], none⟩
theorem KJ : aa Tryz.prog 125 OP := aa.aG (by kernel_rfl) (by kernel_rfl) (by kernel_rfl) (.inr rfl) (⟨Tryz.underlying125, trivial⟩) (trivial)
/-- func([]int, int, int) (int, slices.sortedHint) -/
def O9 : TI := ⟨1, 8, .scalar (.func #[28, 3, 3] #[3, 118] false), [.aC .nilFunc], none⟩
theorem JG : aa Tryz.prog 126 O9 := aa.aG (by kernel_rfl) (by kernel_rfl) (by kernel_rfl) (.inr rfl) (⟨Tryz.underlying126, trivial⟩) (trivial)
/-- func([]int, int, int) bool -/
def PD : TI := ⟨1, 8, .scalar (.func #[28, 3, 3] #[4] false), [.aC .nilFunc], none⟩
theorem He : aa Tryz.prog 127 PD := aa.aG (by kernel_rfl) (by kernel_rfl) (by kernel_rfl) (.inr rfl) (⟨Tryz.underlying127, trivial⟩) (trivial)
/-- func(int, int) bool -/
def Ra : TI := ⟨1, 8, .scalar (.func #[3, 3] #[4] false), [.aC .nilFunc], none⟩
theorem HU : aa Tryz.prog 128 Ra := aa.aG (by kernel_rfl) (by kernel_rfl) (by kernel_rfl) (.inr rfl) (⟨Tryz.underlying128, trivial⟩) (trivial)
/-- func([]int, int, int, int) int -/
def Pp : TI := ⟨1, 8, .scalar (.func #[28, 3, 3, 3] #[3] false), [.aC .nilFunc], none⟩
theorem Km : aa Tryz.prog 129 Pp := aa.aG (by kernel_rfl) (by kernel_rfl) (by kernel_rfl) (.inr rfl) (⟨Tryz.underlying129, trivial⟩) (trivial)
/-- func([]int, int, int, int) (int, bool) -/
def PQ : TI := ⟨1, 8, .scalar (.func #[28, 3, 3, 3] #[3, 4] false), [.aC .nilFunc], none⟩
theorem Io : aa Tryz.prog 130 PQ := aa.aG (by kernel_rfl) (by kernel_rfl) (by kernel_rfl) (.inr rfl) (⟨Tryz.underlying130, trivial⟩) (trivial)
/-- func([]int, int, ...int) []int -/
def PR : TI := ⟨1, 8, .scalar (.func #[28, 3, 28] #[28] true), [.aC .nilFunc], none⟩
theorem G9 : aa Tryz.prog 131 PR := aa.aG (by kernel_rfl) (by kernel_rfl) (by kernel_rfl) (.inr rfl) (⟨Tryz.underlying131, trivial⟩) (trivial)
/-- func([]int, int) int -/
def OT : TI := ⟨1, 8, .scalar (.func #[28, 3] #[3] false), [.aC .nilFunc], none⟩
theorem Ie : aa Tryz.prog 132 OT := aa.aG (by kernel_rfl) (by kernel_rfl) (by kernel_rfl) (.inr rfl) (⟨Tryz.underlying132, trivial⟩) (trivial)
/-- func([]int, int, int) []int -/
def P1 : TI := ⟨1, 8, .scalar (.func #[28, 3, 3] #[28] false), [.aC .nilFunc], none⟩
theorem Kr : aa Tryz.prog 133 P1 := aa.aG (by kernel_rfl) (by kernel_rfl) (by kernel_rfl) (.inr rfl) (⟨Tryz.underlying133, trivial⟩) (trivial)
/-- func(string) (int, error) -/
def Qz : TI := ⟨1, 8, .scalar (.func #[9] #[3, 114] false), [.aC .nilFunc], none⟩
theorem Jd : aa Tryz.prog 135 Qz := aa.aG (by kernel_rfl) (by kernel_rfl) (by kernel_rfl) (.inr rfl) (⟨Tryz.underlying135, trivial⟩) (trivial)
/-- func() []string -/
def Ph : TI := ⟨1, 8, .scalar (.func #[] #[38] false), [.aC .nilFunc], none⟩
theorem HJ : aa Tryz.prog 136 Ph := aa.aG (by kernel_rfl) (by kernel_rfl) (by kernel_rfl) (.inr rfl) (⟨Tryz.underlying136, trivial⟩) (trivial)
/-- *int -/
def Qs : TI := ⟨1, 8, .scalar (.pointer 3), [.aC (.pointer none)], none⟩
theorem JF : aa Tryz.prog 137 Qs := aa.aG (by kernel_rfl) (by kernel_rfl) (by kernel_rfl) (.inr rfl) (⟨Tryz.underlying137, trivial⟩) (trivial)
/-- func(*api.KernOp) *int -/
def Rn : TI := ⟨1, 8, .scalar (.func #[139] #[137] false), [.aC .nilFunc], none⟩
theorem Gn : aa Tryz.prog 138 Rn := aa.aG (by kernel_rfl) (by kernel_rfl) (by kernel_rfl) (.inr rfl) (⟨Tryz.underlying138, trivial⟩) (trivial)
/-- *api.KernOp -/
def QJ : TI := ⟨1, 8, .scalar (.pointer 75), [.aC (.pointer none)], none⟩
theorem KL : aa Tryz.prog 139 QJ := aa.aG (by kernel_rfl) (by kernel_rfl) (by kernel_rfl) (.inr rfl) (⟨Tryz.underlying139, trivial⟩) (trivial)
/-- func(api.KernOp) (string, bool) -/
def OX : TI := ⟨1, 8, .scalar (.func #[75] #[9, 4] false), [.aC .nilFunc], none⟩
theorem GJ : aa Tryz.prog 141 OX := aa.aG (by kernel_rfl) (by kernel_rfl) (by kernel_rfl) (.inr rfl) (⟨Tryz.underlying141, trivial⟩) (trivial)
/-- struct { Core int; Vec int; Level bool; Masked bool; Up bool; Kept bool; Sent bool } -/
def QI : TI := ⟨7, 24, .struct [(0, 3), (1, 3), (2, 4), (3, 4), (4, 4), (5, 4), (6, 4)], [.d (.int .i64) (0 : Int), .d (.int .i64) (0 : Int), .lit false, .lit false, .lit false, .lit false, .lit false], some (.pair (.int .i64) (.pair (.int .i64) (.pair (.bool) (.pair (.bool) (.pair (.bool) (.pair (.bool) (.bool)))))))⟩
theorem KV : aa Tryz.prog 142 QI := aa.aG (by kernel_rfl) (by kernel_rfl) (by kernel_rfl) (.inl rfl) (⟨_, Tryz.underlying142, by kernel_rfl⟩) (⟨by kernel_rfl, by kernel_rfl, by kernel_rfl, by kernel_rfl⟩)
/-- api.Pin -/
def PL : TI := ⟨7, 24, .struct [(0, 3), (1, 3), (2, 4), (3, 4), (4, 4), (5, 4), (6, 4)], [.d (.int .i64) (0 : Int), .d (.int .i64) (0 : Int), .lit false, .lit false, .lit false, .lit false, .lit false], some (.pair (.int .i64) (.pair (.int .i64) (.pair (.bool) (.pair (.bool) (.pair (.bool) (.pair (.bool) (.bool)))))))⟩
theorem Gi : aa Tryz.prog 143 PL := aa.aG (by kernel_rfl) (by kernel_rfl) (by kernel_rfl) (.inl rfl) (⟨_, Tryz.underlying143, by kernel_rfl⟩) (⟨by kernel_rfl, by kernel_rfl, by kernel_rfl, by kernel_rfl⟩)
/-- func(api.Errno) api.KernAns -/
def Pz : TI := ⟨1, 8, .scalar (.func #[25] #[72] false), [.aC .nilFunc], none⟩
theorem I9 : aa Tryz.prog 144 Pz := aa.aG (by kernel_rfl) (by kernel_rfl) (by kernel_rfl) (.inr rfl) (⟨Tryz.underlying144, trivial⟩) (trivial)
/-- func(api.UartOp) (uint8, api.Errno) -/
def Rq : TI := ⟨1, 8, .scalar (.func #[148] #[5, 25] false), [.aC .nilFunc], none⟩
theorem JQ : aa Tryz.prog 146 Rq := aa.aG (by kernel_rfl) (by kernel_rfl) (by kernel_rfl) (.inr rfl) (⟨Tryz.underlying146, trivial⟩) (trivial)
/-- struct { Kind int; Byte uint8 } -/
def OG : TI := ⟨2, 16, .struct [(0, 3), (1, 5)], [.d (.int .i64) (0 : Int), .d (.int .u8) (0 : Int)], some (.pair (.int .i64) (.int .u8))⟩
theorem H5 : aa Tryz.prog 147 OG := aa.aG (by kernel_rfl) (by kernel_rfl) (by kernel_rfl) (.inl rfl) (⟨_, Tryz.underlying147, by kernel_rfl⟩) (⟨by kernel_rfl, by kernel_rfl, by kernel_rfl, by kernel_rfl⟩)
/-- api.UartOp -/
def PM : TI := ⟨2, 16, .struct [(0, 3), (1, 5)], [.d (.int .i64) (0 : Int), .d (.int .u8) (0 : Int)], some (.pair (.int .i64) (.int .u8))⟩
theorem Jy : aa Tryz.prog 148 PM := aa.aG (by kernel_rfl) (by kernel_rfl) (by kernel_rfl) (.inl rfl) (⟨_, Tryz.underlying148, by kernel_rfl⟩) (⟨by kernel_rfl, by kernel_rfl, by kernel_rfl, by kernel_rfl⟩)
/-- func(int) api.Errno -/
def Q9 : TI := ⟨1, 8, .scalar (.func #[3] #[25] false), [.aC .nilFunc], none⟩
theorem Ht : aa Tryz.prog 149 Q9 := aa.aG (by kernel_rfl) (by kernel_rfl) (by kernel_rfl) (.inr rfl) (⟨Tryz.underlying149, trivial⟩) (trivial)
/-- func(api.Tty, int) (api.Tty, []uint8, api.Errno) -/
def Qc : TI := ⟨1, 8, .scalar (.func #[66, 3] #[66, 63, 25] false), [.aC .nilFunc], none⟩
theorem Jp : aa Tryz.prog 151 Qc := aa.aG (by kernel_rfl) (by kernel_rfl) (by kernel_rfl) (.inr rfl) (⟨Tryz.underlying151, trivial⟩) (trivial)
/-- *kernel.core -/
def ON : TI := ⟨1, 8, .scalar (.pointer 106), [.aC (.pointer none)], none⟩
theorem GM : aa Tryz.prog 152 ON := aa.aG (by kernel_rfl) (by kernel_rfl) (by kernel_rfl) (.inr rfl) (⟨Tryz.underlying152, trivial⟩) (trivial)
/-- func(int64, int) string -/
def Q7 : TI := ⟨1, 8, .scalar (.func #[2, 3] #[9] false), [.aC .nilFunc], none⟩
theorem Jv : aa Tryz.prog 153 Q7 := aa.aG (by kernel_rfl) (by kernel_rfl) (by kernel_rfl) (.inr rfl) (⟨Tryz.underlying153, trivial⟩) (trivial)
/-- *uint8 -/
def QV : TI := ⟨1, 8, .scalar (.pointer 5), [.aC (.pointer none)], none⟩
theorem IM : aa Tryz.prog 154 QV := aa.aG (by kernel_rfl) (by kernel_rfl) (by kernel_rfl) (.inr rfl) (⟨Tryz.underlying154, trivial⟩) (trivial)
/-- slices.xorshift -/
def QM : TI := ⟨1, 8, .scalar (.int .u64), [.d (.int .u64) (0 : Int)], some (.int .u64)⟩
theorem Jo : aa Tryz.prog 155 QM := aa.aG (by kernel_rfl) (by kernel_rfl) (by kernel_rfl) (.inr rfl) (⟨Tryz.underlying155, trivial⟩) (⟨by kernel_rfl, by kernel_rfl, by kernel_rfl, by kernel_rfl⟩)
/-- func(int) uint -/
def Qy : TI := ⟨1, 8, .scalar (.func #[3] #[79] false), [.aC .nilFunc], none⟩
theorem Kn : aa Tryz.prog 156 Qy := aa.aG (by kernel_rfl) (by kernel_rfl) (by kernel_rfl) (.inr rfl) (⟨Tryz.underlying156, trivial⟩) (trivial)
/-- func() uint64 -/
def Qk : TI := ⟨1, 8, .scalar (.func #[] #[97] false), [.aC .nilFunc], none⟩
theorem GF : aa Tryz.prog 157 Qk := aa.aG (by kernel_rfl) (by kernel_rfl) (by kernel_rfl) (.inr rfl) (⟨Tryz.underlying157, trivial⟩) (trivial)
/-- func([]*cores.thread, int, *int, func(*cores.thread, *cores.thread) int) int -/
def Pw : TI := ⟨1, 8, .scalar (.func #[42, 3, 137, 49] #[3] false), [.aC .nilFunc], none⟩
theorem JA : aa Tryz.prog 158 Pw := aa.aG (by kernel_rfl) (by kernel_rfl) (by kernel_rfl) (.inr rfl) (⟨Tryz.underlying158, trivial⟩) (trivial)
/-- func([]*cores.thread, int, int, int, *int, func(*cores.thread, *cores.thread) int) int -/
def Rg : TI := ⟨1, 8, .scalar (.func #[42, 3, 3, 3, 137, 49] #[3] false), [.aC .nilFunc], none⟩
theorem GQ : aa Tryz.prog 159 Rg := aa.aG (by kernel_rfl) (by kernel_rfl) (by kernel_rfl) (.inr rfl) (⟨Tryz.underlying159, trivial⟩) (trivial)
/-- func([]int, int, *int) int -/
def QD : TI := ⟨1, 8, .scalar (.func #[28, 3, 137] #[3] false), [.aC .nilFunc], none⟩
theorem K3 : aa Tryz.prog 160 QD := aa.aG (by kernel_rfl) (by kernel_rfl) (by kernel_rfl) (.inr rfl) (⟨Tryz.underlying160, trivial⟩) (trivial)
/-- func([]int, int, int, int, *int) int -/
def QW : TI := ⟨1, 8, .scalar (.func #[28, 3, 3, 3, 137] #[3] false), [.aC .nilFunc], none⟩
theorem J7 : aa Tryz.prog 161 QW := aa.aG (by kernel_rfl) (by kernel_rfl) (by kernel_rfl) (.inr rfl) (⟨Tryz.underlying161, trivial⟩) (trivial)
/-- func([]int, []int) bool -/
def Qv : TI := ⟨1, 8, .scalar (.func #[28, 28] #[4] false), [.aC .nilFunc], none⟩
theorem Hb : aa Tryz.prog 162 Qv := aa.aG (by kernel_rfl) (by kernel_rfl) (by kernel_rfl) (.inr rfl) (⟨Tryz.underlying162, trivial⟩) (trivial)
/-- func([]int, int) -/
def OM : TI := ⟨1, 8, .scalar (.func #[28, 3] #[] false), [.aC .nilFunc], none⟩
theorem Hk : aa Tryz.prog 163 OM := aa.aG (by kernel_rfl) (by kernel_rfl) (by kernel_rfl) (.inr rfl) (⟨Tryz.underlying163, trivial⟩) (trivial)
/-- func(string, string) int -/
def Qw : TI := ⟨1, 8, .scalar (.func #[9, 9] #[3] false), [.aC .nilFunc], none⟩
theorem Ld : aa Tryz.prog 164 Qw := aa.aG (by kernel_rfl) (by kernel_rfl) (by kernel_rfl) (.inr rfl) (⟨Tryz.underlying164, trivial⟩) (trivial)
/-- func(string, string, int, int, error) error -/
def Q6 : TI := ⟨1, 8, .scalar (.func #[9, 9, 3, 3, 114] #[114] false), [.aC .nilFunc], none⟩
theorem Jk : aa Tryz.prog 165 Q6 := aa.aG (by kernel_rfl) (by kernel_rfl) (by kernel_rfl) (.inr rfl) (⟨Tryz.underlying165, trivial⟩) (trivial)
/-- func(api.Uart, api.UartOp) (api.Uart, uint8, api.Errno) -/
def PG : TI := ⟨1, 8, .scalar (.func #[95, 148] #[95, 5, 25] false), [.aC .nilFunc], none⟩
theorem JC : aa Tryz.prog 167 PG := aa.aG (by kernel_rfl) (by kernel_rfl) (by kernel_rfl) (.inr rfl) (⟨Tryz.underlying167, trivial⟩) (trivial)
/-- func(api.Local, api.LocalOp) (api.Local, int, api.Errno) -/
def QO : TI := ⟨1, 8, .scalar (.func #[101, 171] #[101, 3, 25] false), [.aC .nilFunc], none⟩
theorem IK : aa Tryz.prog 169 QO := aa.aG (by kernel_rfl) (by kernel_rfl) (by kernel_rfl) (.inr rfl) (⟨Tryz.underlying169, trivial⟩) (trivial)
/-- struct { Kind int; N int } -/
def Qd : TI := ⟨2, 16, .struct [(0, 3), (1, 3)], [.d (.int .i64) (0 : Int), .d (.int .i64) (0 : Int)], some (.pair (.int .i64) (.int .i64))⟩
theorem I1 : aa Tryz.prog 170 Qd := aa.aG (by kernel_rfl) (by kernel_rfl) (by kernel_rfl) (.inl rfl) (⟨_, Tryz.underlying170, by kernel_rfl⟩) (⟨by kernel_rfl, by kernel_rfl, by kernel_rfl, by kernel_rfl⟩)
/-- api.LocalOp -/
def QR : TI := ⟨2, 16, .struct [(0, 3), (1, 3)], [.d (.int .i64) (0 : Int), .d (.int .i64) (0 : Int)], some (.pair (.int .i64) (.int .i64))⟩
theorem GL : aa Tryz.prog 171 QR := aa.aG (by kernel_rfl) (by kernel_rfl) (by kernel_rfl) (.inl rfl) (⟨_, Tryz.underlying171, by kernel_rfl⟩) (⟨by kernel_rfl, by kernel_rfl, by kernel_rfl, by kernel_rfl⟩)
/-- func(api.Local) int -/
def QP : TI := ⟨1, 8, .scalar (.func #[101] #[3] false), [.aC .nilFunc], none⟩
theorem ID : aa Tryz.prog 172 QP := aa.aG (by kernel_rfl) (by kernel_rfl) (by kernel_rfl) (.inr rfl) (⟨Tryz.underlying172, trivial⟩) (trivial)
/-- func(api.Tty, uint8) (api.Tty, api.Errno) -/
def Qj : TI := ⟨1, 8, .scalar (.func #[66, 5] #[66, 25] false), [.aC .nilFunc], none⟩
theorem KK : aa Tryz.prog 174 Qj := aa.aG (by kernel_rfl) (by kernel_rfl) (by kernel_rfl) (.inr rfl) (⟨Tryz.underlying174, trivial⟩) (trivial)
/-- func(api.Tty) bool -/
def Qu : TI := ⟨1, 8, .scalar (.func #[66] #[4] false), [.aC .nilFunc], none⟩
theorem HV : aa Tryz.prog 175 Qu := aa.aG (by kernel_rfl) (by kernel_rfl) (by kernel_rfl) (.inr rfl) (⟨Tryz.underlying175, trivial⟩) (trivial)
/-- func(api.Tty) api.Tty -/
def Ps : TI := ⟨1, 8, .scalar (.func #[66] #[66] false), [.aC .nilFunc], none⟩
theorem Ji : aa Tryz.prog 176 Ps := aa.aG (by kernel_rfl) (by kernel_rfl) (by kernel_rfl) (.inr rfl) (⟨Tryz.underlying176, trivial⟩) (trivial)
/-- func(api.Core, int) (api.Core, api.Errno) -/
def QQ : TI := ⟨1, 8, .scalar (.func #[104, 3] #[104, 25] false), [.aC .nilFunc], none⟩
theorem J2 : aa Tryz.prog 178 QQ := aa.aG (by kernel_rfl) (by kernel_rfl) (by kernel_rfl) (.inr rfl) (⟨Tryz.underlying178, trivial⟩) (trivial)
/-- [24]uint8 -/
def O5 : TI := ⟨24, 24, .arr 24 5, [.d (.arr 24 (.int .u8)) (List.replicate 24 (Ty.zero (.int .u8)))], some (.arr 24 (.int .u8))⟩
theorem KC : aa Tryz.prog 179 O5 := aa.aG (by kernel_rfl) (by kernel_rfl) (by kernel_rfl) (.inl rfl) (Tryz.underlying179) (⟨by kernel_rfl, by kernel_rfl, by kernel_rfl, by kernel_rfl⟩)
/-- func([]uint8, uint64) -/
def Rl : TI := ⟨1, 8, .scalar (.func #[63, 97] #[] false), [.aC .nilFunc], none⟩
theorem Jx : aa Tryz.prog 180 Rl := aa.aG (by kernel_rfl) (by kernel_rfl) (by kernel_rfl) (.inr rfl) (⟨Tryz.underlying180, trivial⟩) (trivial)
/-- func([]uint8, uint64, int, bool, bool) ([]uint8, string) -/
def Po : TI := ⟨1, 8, .scalar (.func #[63, 97, 3, 4, 4] #[63, 9] false), [.aC .nilFunc], none⟩
theorem Ke : aa Tryz.prog 182 Po := aa.aG (by kernel_rfl) (by kernel_rfl) (by kernel_rfl) (.inr rfl) (⟨Tryz.underlying182, trivial⟩) (trivial)
/-- func(unsafe.Pointer) unsafe.Pointer -/
def Q0 : TI := ⟨1, 8, .scalar (.func #[183] #[183] false), [.aC .nilFunc], none⟩
theorem Hq : aa Tryz.prog 184 Q0 := aa.aG (by kernel_rfl) (by kernel_rfl) (by kernel_rfl) (.inr rfl) (⟨Tryz.underlying184, trivial⟩) (trivial)
/-- *slices.xorshift -/
def Qx : TI := ⟨1, 8, .scalar (.pointer 155), [.aC (.pointer none)], none⟩
theorem KI : aa Tryz.prog 185 Qx := aa.aG (by kernel_rfl) (by kernel_rfl) (by kernel_rfl) (.inr rfl) (⟨Tryz.underlying185, trivial⟩) (trivial)
/-- func([]*cores.thread, int, int, *int, func(*cores.thread, *cores.thread) int) (int, int) -/
def PB : TI := ⟨1, 8, .scalar (.func #[42, 3, 3, 137, 49] #[3, 3] false), [.aC .nilFunc], none⟩
theorem GU : aa Tryz.prog 187 PB := aa.aG (by kernel_rfl) (by kernel_rfl) (by kernel_rfl) (.inr rfl) (⟨Tryz.underlying187, trivial⟩) (trivial)
/-- func([]int, int, int, *int) (int, int) -/
def Ri : TI := ⟨1, 8, .scalar (.func #[28, 3, 3, 137] #[3, 3] false), [.aC .nilFunc], none⟩
theorem KM : aa Tryz.prog 188 Ri := aa.aG (by kernel_rfl) (by kernel_rfl) (by kernel_rfl) (.inr rfl) (⟨Tryz.underlying188, trivial⟩) (trivial)
/-- func(string, uint8) int -/
def QX : TI := ⟨1, 8, .scalar (.func #[9, 5] #[3] false), [.aC .nilFunc], none⟩
theorem Il : aa Tryz.prog 189 QX := aa.aG (by kernel_rfl) (by kernel_rfl) (by kernel_rfl) (.inr rfl) (⟨Tryz.underlying189, trivial⟩) (trivial)
/-- func(int) int -/
def Qe : TI := ⟨1, 8, .scalar (.func #[3] #[3] false), [.aC .nilFunc], none⟩
theorem JB : aa Tryz.prog 190 Qe := aa.aG (by kernel_rfl) (by kernel_rfl) (by kernel_rfl) (.inr rfl) (⟨Tryz.underlying190, trivial⟩) (trivial)
/-- strconv.Error -/
def Qo : TI := ⟨1, 8, .scalar (.int .i64), [.d (.int .i64) (0 : Int)], some (.int .i64)⟩
theorem II : aa Tryz.prog 191 Qo := aa.aG (by kernel_rfl) (by kernel_rfl) (by kernel_rfl) (.inr rfl) (⟨Tryz.underlying191, trivial⟩) (⟨by kernel_rfl, by kernel_rfl, by kernel_rfl, by kernel_rfl⟩)
/-- func(string, int, int) (int64, error) -/
def PW : TI := ⟨1, 8, .scalar (.func #[9, 3, 3] #[2, 114] false), [.aC .nilFunc], none⟩
theorem Hr : aa Tryz.prog 193 PW := aa.aG (by kernel_rfl) (by kernel_rfl) (by kernel_rfl) (.inr rfl) (⟨Tryz.underlying193, trivial⟩) (trivial)
/-- *strconv.NumError -/
def Pj : TI := ⟨1, 8, .scalar (.pointer 228), [.aC (.pointer none)], none⟩
theorem G0 : aa Tryz.prog 194 Pj := aa.aG (by kernel_rfl) (by kernel_rfl) (by kernel_rfl) (.inr rfl) (⟨Tryz.underlying194, trivial⟩) (trivial)
/-- func(string, string) *strconv.NumError -/
def QG : TI := ⟨1, 8, .scalar (.func #[9, 9] #[194] false), [.aC .nilFunc], none⟩
theorem I6 : aa Tryz.prog 195 QG := aa.aG (by kernel_rfl) (by kernel_rfl) (by kernel_rfl) (.inr rfl) (⟨Tryz.underlying195, trivial⟩) (trivial)
/-- func(string, string, int) *strconv.NumError -/
def Qg : TI := ⟨1, 8, .scalar (.func #[9, 9, 3] #[194] false), [.aC .nilFunc], none⟩
theorem GK : aa Tryz.prog 196 Qg := aa.aG (by kernel_rfl) (by kernel_rfl) (by kernel_rfl) (.inr rfl) (⟨Tryz.underlying196, trivial⟩) (trivial)
/-- func(api.Errno) (api.Uart, uint8, api.Errno) -/
def QK : TI := ⟨1, 8, .scalar (.func #[25] #[95, 5, 25] false), [.aC .nilFunc], none⟩
theorem JT : aa Tryz.prog 197 QK := aa.aG (by kernel_rfl) (by kernel_rfl) (by kernel_rfl) (.inr rfl) (⟨Tryz.underlying197, trivial⟩) (trivial)
/-- func(api.Uart) bool -/
def Rb : TI := ⟨1, 8, .scalar (.func #[95] #[4] false), [.aC .nilFunc], none⟩
theorem Iv : aa Tryz.prog 198 Rb := aa.aG (by kernel_rfl) (by kernel_rfl) (by kernel_rfl) (.inr rfl) (⟨Tryz.underlying198, trivial⟩) (trivial)
/-- func(api.Errno) (api.Local, int, api.Errno) -/
def OK : TI := ⟨1, 8, .scalar (.func #[25] #[101, 3, 25] false), [.aC .nilFunc], none⟩
theorem JX : aa Tryz.prog 199 OK := aa.aG (by kernel_rfl) (by kernel_rfl) (by kernel_rfl) (.inr rfl) (⟨Tryz.underlying199, trivial⟩) (trivial)
/-- func(api.Local) bool -/
def PZ : TI := ⟨1, 8, .scalar (.func #[101] #[4] false), [.aC .nilFunc], none⟩
theorem K6 : aa Tryz.prog 200 PZ := aa.aG (by kernel_rfl) (by kernel_rfl) (by kernel_rfl) (.inr rfl) (⟨Tryz.underlying200, trivial⟩) (trivial)
/-- func(api.Bits, int) api.Bits -/
def QE : TI := ⟨1, 8, .scalar (.func #[99, 3] #[99] false), [.aC .nilFunc], none⟩
theorem Gk : aa Tryz.prog 201 QE := aa.aG (by kernel_rfl) (by kernel_rfl) (by kernel_rfl) (.inr rfl) (⟨Tryz.underlying201, trivial⟩) (trivial)
/-- func(api.Bits) int -/
def OF : TI := ⟨1, 8, .scalar (.func #[99] #[3] false), [.aC .nilFunc], none⟩
theorem G8 : aa Tryz.prog 202 OF := aa.aG (by kernel_rfl) (by kernel_rfl) (by kernel_rfl) (.inr rfl) (⟨Tryz.underlying202, trivial⟩) (trivial)
/-- []api.Sent -/
def Pn : TI := ⟨1, 24, .slice 209, [.aC (.slice none 0 0)], some (.sl (.pair (.int .i64) (.pair (.int .i64) (.int .i64))))⟩
theorem JV : aa Tryz.prog 203 Pn := aa.aG (by kernel_rfl) (by kernel_rfl) (by kernel_rfl) (.inr rfl) (Tryz.underlying203) (⟨by kernel_rfl, by kernel_rfl, by kernel_rfl, by kernel_rfl⟩)
/-- func([]api.Pin, api.PinOp) ([]api.Pin, []api.Sent, api.Errno) -/
def Rh : TI := ⟨1, 8, .scalar (.func #[96, 207] #[96, 203, 25] false), [.aC .nilFunc], none⟩
theorem JN : aa Tryz.prog 205 Rh := aa.aG (by kernel_rfl) (by kernel_rfl) (by kernel_rfl) (.inr rfl) (⟨Tryz.underlying205, trivial⟩) (trivial)
/-- struct { Kind int; Pin int } -/
def O7 : TI := ⟨2, 16, .struct [(0, 3), (1, 3)], [.d (.int .i64) (0 : Int), .d (.int .i64) (0 : Int)], some (.pair (.int .i64) (.int .i64))⟩
theorem HW : aa Tryz.prog 206 O7 := aa.aG (by kernel_rfl) (by kernel_rfl) (by kernel_rfl) (.inl rfl) (⟨_, Tryz.underlying206, by kernel_rfl⟩) (⟨by kernel_rfl, by kernel_rfl, by kernel_rfl, by kernel_rfl⟩)
/-- api.PinOp -/
def PU : TI := ⟨2, 16, .struct [(0, 3), (1, 3)], [.d (.int .i64) (0 : Int), .d (.int .i64) (0 : Int)], some (.pair (.int .i64) (.int .i64))⟩
theorem HX : aa Tryz.prog 207 PU := aa.aG (by kernel_rfl) (by kernel_rfl) (by kernel_rfl) (.inl rfl) (⟨_, Tryz.underlying207, by kernel_rfl⟩) (⟨by kernel_rfl, by kernel_rfl, by kernel_rfl, by kernel_rfl⟩)
/-- struct { Pin int; Core int; Vec int } -/
def OV : TI := ⟨3, 24, .struct [(0, 3), (1, 3), (2, 3)], [.d (.int .i64) (0 : Int), .d (.int .i64) (0 : Int), .d (.int .i64) (0 : Int)], some (.pair (.int .i64) (.pair (.int .i64) (.int .i64)))⟩
theorem HS : aa Tryz.prog 208 OV := aa.aG (by kernel_rfl) (by kernel_rfl) (by kernel_rfl) (.inl rfl) (⟨_, Tryz.underlying208, by kernel_rfl⟩) (⟨by kernel_rfl, by kernel_rfl, by kernel_rfl, by kernel_rfl⟩)
/-- api.Sent -/
def OY : TI := ⟨3, 24, .struct [(0, 3), (1, 3), (2, 3)], [.d (.int .i64) (0 : Int), .d (.int .i64) (0 : Int), .d (.int .i64) (0 : Int)], some (.pair (.int .i64) (.pair (.int .i64) (.int .i64)))⟩
theorem Jw : aa Tryz.prog 209 OY := aa.aG (by kernel_rfl) (by kernel_rfl) (by kernel_rfl) (.inl rfl) (⟨_, Tryz.underlying209, by kernel_rfl⟩) (⟨by kernel_rfl, by kernel_rfl, by kernel_rfl, by kernel_rfl⟩)
/-- func(*api.Tty, ...uint8) -/
def Qb : TI := ⟨1, 8, .scalar (.func #[211, 63] #[] true), [.aC .nilFunc], none⟩
theorem I0 : aa Tryz.prog 210 Qb := aa.aG (by kernel_rfl) (by kernel_rfl) (by kernel_rfl) (.inr rfl) (⟨Tryz.underlying210, trivial⟩) (trivial)
/-- *api.Tty -/
def OQ : TI := ⟨1, 8, .scalar (.pointer 66), [.aC (.pointer none)], none⟩
theorem Hn : aa Tryz.prog 211 OQ := aa.aG (by kernel_rfl) (by kernel_rfl) (by kernel_rfl) (.inr rfl) (⟨Tryz.underlying211, trivial⟩) (trivial)
/-- func([]uint8) int -/
def Qr : TI := ⟨1, 8, .scalar (.func #[63] #[3] false), [.aC .nilFunc], none⟩
theorem I5 : aa Tryz.prog 212 Qr := aa.aG (by kernel_rfl) (by kernel_rfl) (by kernel_rfl) (.inr rfl) (⟨Tryz.underlying212, trivial⟩) (trivial)
/-- func([][]uint8, func([]uint8) bool) bool -/
def OZ : TI := ⟨1, 8, .scalar (.func #[64, 214] #[4] false), [.aC .nilFunc], none⟩
theorem GP : aa Tryz.prog 213 OZ := aa.aG (by kernel_rfl) (by kernel_rfl) (by kernel_rfl) (.inr rfl) (⟨Tryz.underlying213, trivial⟩) (trivial)
/-- func([]uint8) bool -/
def Rj : TI := ⟨1, 8, .scalar (.func #[63] #[4] false), [.aC .nilFunc], none⟩
theorem IJ : aa Tryz.prog 214 Rj := aa.aG (by kernel_rfl) (by kernel_rfl) (by kernel_rfl) (.inr rfl) (⟨Tryz.underlying214, trivial⟩) (trivial)
/-- func(api.Core) bool -/
def P7 : TI := ⟨1, 8, .scalar (.func #[104] #[4] false), [.aC .nilFunc], none⟩
theorem Ip : aa Tryz.prog 215 P7 := aa.aG (by kernel_rfl) (by kernel_rfl) (by kernel_rfl) (.inr rfl) (⟨Tryz.underlying215, trivial⟩) (trivial)
/-- struct { On bool; Irq bool } -/
def Pb : TI := ⟨2, 2, .struct [(0, 4), (1, 4)], [.lit false, .lit false], some (.pair (.bool) (.bool))⟩
theorem Iu : aa Tryz.prog 216 Pb := aa.aG (by kernel_rfl) (by kernel_rfl) (by kernel_rfl) (.inl rfl) (⟨_, Tryz.underlying216, by kernel_rfl⟩) (⟨by kernel_rfl, by kernel_rfl, by kernel_rfl, by kernel_rfl⟩)
/-- api.Frame -/
def Pg : TI := ⟨2, 2, .struct [(0, 4), (1, 4)], [.lit false, .lit false], some (.pair (.bool) (.bool))⟩
theorem K4 : aa Tryz.prog 217 Pg := aa.aG (by kernel_rfl) (by kernel_rfl) (by kernel_rfl) (.inl rfl) (⟨_, Tryz.underlying217, by kernel_rfl⟩) (⟨by kernel_rfl, by kernel_rfl, by kernel_rfl, by kernel_rfl⟩)
/-- func([]api.Frame) []api.Frame -/
def O1 : TI := ⟨1, 8, .scalar (.func #[102] #[102] false), [.aC .nilFunc], none⟩
theorem G4 : aa Tryz.prog 218 O1 := aa.aG (by kernel_rfl) (by kernel_rfl) (by kernel_rfl) (.inr rfl) (⟨Tryz.underlying218, trivial⟩) (trivial)
/-- func(bool) int -/
def QA : TI := ⟨1, 8, .scalar (.func #[4] #[3] false), [.aC .nilFunc], none⟩
theorem IC : aa Tryz.prog 219 QA := aa.aG (by kernel_rfl) (by kernel_rfl) (by kernel_rfl) (.inr rfl) (⟨Tryz.underlying219, trivial⟩) (trivial)
/-- [20]uint64 -/
def PT : TI := ⟨20, 160, .arr 20 97, [.d (.arr 20 (.int .u64)) (List.replicate 20 (Ty.zero (.int .u64)))], some (.arr 20 (.int .u64))⟩
theorem JM : aa Tryz.prog 220 PT := aa.aG (by kernel_rfl) (by kernel_rfl) (by kernel_rfl) (.inl rfl) (Tryz.underlying220) (⟨by kernel_rfl, by kernel_rfl, by kernel_rfl, by kernel_rfl⟩)
/-- [65]uint8 -/
def OU : TI := ⟨65, 65, .arr 65 5, [.d (.arr 65 (.int .u8)) (List.replicate 65 (Ty.zero (.int .u8)))], some (.arr 65 (.int .u8))⟩
theorem Kh : aa Tryz.prog 221 OU := aa.aG (by kernel_rfl) (by kernel_rfl) (by kernel_rfl) (.inl rfl) (Tryz.underlying221) (⟨by kernel_rfl, by kernel_rfl, by kernel_rfl, by kernel_rfl⟩)
/-- func(string) (uint32, uint32) -/
def PO : TI := ⟨1, 8, .scalar (.func #[9] #[53, 53] false), [.aC .nilFunc], none⟩
theorem GB : aa Tryz.prog 223 PO := aa.aG (by kernel_rfl) (by kernel_rfl) (by kernel_rfl) (.inr rfl) (⟨Tryz.underlying223, trivial⟩) (trivial)
/-- func(string, int, int) (uint64, error) -/
def P0 : TI := ⟨1, 8, .scalar (.func #[9, 3, 3] #[97, 114] false), [.aC .nilFunc], none⟩
theorem Ky : aa Tryz.prog 225 P0 := aa.aG (by kernel_rfl) (by kernel_rfl) (by kernel_rfl) (.inr rfl) (⟨Tryz.underlying225, trivial⟩) (trivial)
/-- func(string) string -/
def PA : TI := ⟨1, 8, .scalar (.func #[9] #[9] false), [.aC .nilFunc], none⟩
theorem K9 : aa Tryz.prog 226 PA := aa.aG (by kernel_rfl) (by kernel_rfl) (by kernel_rfl) (.inr rfl) (⟨Tryz.underlying226, trivial⟩) (trivial)
/-- struct { Func string; Num string; Err error } -/
def QN : TI := ⟨3, 48, .struct [(0, 9), (1, 9), (2, 114)], [.d .str ([] : List Int), .d .str ([] : List Int), .aC .nilIface], some (.pair (.str) (.pair (.str) (.err)))⟩
theorem Hu : aa Tryz.prog 227 QN := aa.aG (by kernel_rfl) (by kernel_rfl) (by kernel_rfl) (.inl rfl) (⟨_, Tryz.underlying227, by kernel_rfl⟩) (⟨by kernel_rfl, by kernel_rfl, by kernel_rfl, by kernel_rfl⟩)
/-- strconv.NumError -/
def QT : TI := ⟨3, 48, .struct [(0, 9), (1, 9), (2, 114)], [.d .str ([] : List Int), .d .str ([] : List Int), .aC .nilIface], some (.pair (.str) (.pair (.str) (.err)))⟩
theorem K2 : aa Tryz.prog 228 QT := aa.aG (by kernel_rfl) (by kernel_rfl) (by kernel_rfl) (.inl rfl) (⟨_, Tryz.underlying228, by kernel_rfl⟩) (⟨by kernel_rfl, by kernel_rfl, by kernel_rfl, by kernel_rfl⟩)
/-- func(string) error -/
def OW : TI := ⟨1, 8, .scalar (.func #[9] #[114] false), [.aC .nilFunc], none⟩
theorem HA : aa Tryz.prog 229 OW := aa.aG (by kernel_rfl) (by kernel_rfl) (by kernel_rfl) (.inr rfl) (⟨Tryz.underlying229, trivial⟩) (trivial)
/-- func(api.Bits, int) int -/
def P9 : TI := ⟨1, 8, .scalar (.func #[99, 3] #[3] false), [.aC .nilFunc], none⟩
theorem Iw : aa Tryz.prog 230 P9 := aa.aG (by kernel_rfl) (by kernel_rfl) (by kernel_rfl) (.inr rfl) (⟨Tryz.underlying230, trivial⟩) (trivial)
/-- func([]api.Pin) bool -/
def Rf : TI := ⟨1, 8, .scalar (.func #[96] #[4] false), [.aC .nilFunc], none⟩
theorem Jc : aa Tryz.prog 231 Rf := aa.aG (by kernel_rfl) (by kernel_rfl) (by kernel_rfl) (.inr rfl) (⟨Tryz.underlying231, trivial⟩) (trivial)
/-- func([]api.Pin) []api.Pin -/
def Q4 : TI := ⟨1, 8, .scalar (.func #[96] #[96] false), [.aC .nilFunc], none⟩
theorem K7 : aa Tryz.prog 232 Q4 := aa.aG (by kernel_rfl) (by kernel_rfl) (by kernel_rfl) (.inr rfl) (⟨Tryz.underlying232, trivial⟩) (trivial)
/-- *api.Pin -/
def O0 : TI := ⟨1, 8, .scalar (.pointer 143), [.aC (.pointer none)], none⟩
theorem Ic : aa Tryz.prog 233 O0 := aa.aG (by kernel_rfl) (by kernel_rfl) (by kernel_rfl) (.inr rfl) (⟨Tryz.underlying233, trivial⟩) (trivial)
/-- func(*api.Pin, bool) bool -/
def O6 : TI := ⟨1, 8, .scalar (.func #[233, 4] #[4] false), [.aC .nilFunc], none⟩
theorem GO : aa Tryz.prog 234 O6 := aa.aG (by kernel_rfl) (by kernel_rfl) (by kernel_rfl) (.inr rfl) (⟨Tryz.underlying234, trivial⟩) (trivial)
/-- func([][]uint8) [][]uint8 -/
def OL : TI := ⟨1, 8, .scalar (.func #[64] #[64] false), [.aC .nilFunc], none⟩
theorem GW : aa Tryz.prog 235 OL := aa.aG (by kernel_rfl) (by kernel_rfl) (by kernel_rfl) (.inr rfl) (⟨Tryz.underlying235, trivial⟩) (trivial)
/-- func([][]uint8, func([]uint8) bool) int -/
def P5 : TI := ⟨1, 8, .scalar (.func #[64, 214] #[3] false), [.aC .nilFunc], none⟩
theorem JH : aa Tryz.prog 236 P5 := aa.aG (by kernel_rfl) (by kernel_rfl) (by kernel_rfl) (.inr rfl) (⟨Tryz.underlying236, trivial⟩) (trivial)
/-- func(uint8) uint8 -/
def PH : TI := ⟨1, 8, .scalar (.func #[5] #[5] false), [.aC .nilFunc], none⟩
theorem Hs : aa Tryz.prog 237 PH := aa.aG (by kernel_rfl) (by kernel_rfl) (by kernel_rfl) (.inr rfl) (⟨Tryz.underlying237, trivial⟩) (trivial)
/-- func(string) bool -/
def P2 : TI := ⟨1, 8, .scalar (.func #[9] #[4] false), [.aC .nilFunc], none⟩
theorem Lk : aa Tryz.prog 238 P2 := aa.aG (by kernel_rfl) (by kernel_rfl) (by kernel_rfl) (.inr rfl) (⟨Tryz.underlying238, trivial⟩) (trivial)
/-- *errors.errorString -/
def OR : TI := ⟨1, 8, .scalar (.pointer 241), [.aC (.pointer none)], none⟩
theorem IP : aa Tryz.prog 239 OR := aa.aG (by kernel_rfl) (by kernel_rfl) (by kernel_rfl) (.inr rfl) (⟨Tryz.underlying239, trivial⟩) (trivial)
/-- struct { s string } -/
def Rc : TI := ⟨1, 16, .struct [(0, 9)], [.d .str ([] : List Int)], none⟩
theorem KX : aa Tryz.prog 240 Rc := aa.aG (by kernel_rfl) (by kernel_rfl) (by kernel_rfl) (.inl rfl) (⟨_, Tryz.underlying240, by kernel_rfl⟩) (trivial)
/-- errors.errorString -/
def Qf : TI := ⟨1, 16, .struct [(0, 9)], [.d .str ([] : List Int)], none⟩
theorem IA : aa Tryz.prog 241 Qf := aa.aG (by kernel_rfl) (by kernel_rfl) (by kernel_rfl) (.inl rfl) (⟨_, Tryz.underlying241, by kernel_rfl⟩) (trivial)
/-- func([]api.Pin, func(api.Pin) bool) bool -/
def Q8 : TI := ⟨1, 8, .scalar (.func #[96, 243] #[4] false), [.aC .nilFunc], none⟩
theorem KW : aa Tryz.prog 242 Q8 := aa.aG (by kernel_rfl) (by kernel_rfl) (by kernel_rfl) (.inr rfl) (⟨Tryz.underlying242, trivial⟩) (trivial)
/-- func(api.Pin) bool -/
def OH : TI := ⟨1, 8, .scalar (.func #[143] #[4] false), [.aC .nilFunc], none⟩
theorem Jz : aa Tryz.prog 243 OH := aa.aG (by kernel_rfl) (by kernel_rfl) (by kernel_rfl) (.inr rfl) (⟨Tryz.underlying243, trivial⟩) (trivial)
/-- [32]uint8 -/
def Px : TI := ⟨32, 32, .arr 32 5, [.d (.arr 32 (.int .u8)) (List.replicate 32 (Ty.zero (.int .u8)))], some (.arr 32 (.int .u8))⟩
theorem GH : aa Tryz.prog 244 Px := aa.aG (by kernel_rfl) (by kernel_rfl) (by kernel_rfl) (.inl rfl) (Tryz.underlying244) (⟨by kernel_rfl, by kernel_rfl, by kernel_rfl, by kernel_rfl⟩)
/-- [64]uint8 -/
def Pr : TI := ⟨64, 64, .arr 64 5, [.d (.arr 64 (.int .u8)) (List.replicate 64 (Ty.zero (.int .u8)))], some (.arr 64 (.int .u8))⟩
theorem GI : aa Tryz.prog 245 Pr := aa.aG (by kernel_rfl) (by kernel_rfl) (by kernel_rfl) (.inl rfl) (Tryz.underlying245) (⟨by kernel_rfl, by kernel_rfl, by kernel_rfl, by kernel_rfl⟩)
/-- func([]api.Pin, func(api.Pin) bool) int -/
def Pe : TI := ⟨1, 8, .scalar (.func #[96, 243] #[3] false), [.aC .nilFunc], none⟩
theorem IB : aa Tryz.prog 246 Pe := aa.aG (by kernel_rfl) (by kernel_rfl) (by kernel_rfl) (.inr rfl) (⟨Tryz.underlying246, trivial⟩) (trivial)
/-- struct { _interface *abi.Type; concrete *abi.Type; asserted *abi.Type; missingMethod string } -/
def Qp : TI := ⟨4, 40, .struct [(0, 17), (1, 17), (2, 17), (3, 9)], [.aC (.pointer none), .aC (.pointer none), .aC (.pointer none), .d .str ([] : List Int)], none⟩
theorem Lg : aa Tryz.prog 247 Qp := aa.aG (by kernel_rfl) (by kernel_rfl) (by kernel_rfl) (.inl rfl) (⟨_, Tryz.underlying247, by kernel_rfl⟩) (trivial)
/-- runtime.TypeAssertionError -/
def Qh : TI := ⟨4, 40, .struct [(0, 17), (1, 17), (2, 17), (3, 9)], [.aC (.pointer none), .aC (.pointer none), .aC (.pointer none), .d .str ([] : List Int)], none⟩
theorem Jg : aa Tryz.prog 248 Qh := aa.aG (by kernel_rfl) (by kernel_rfl) (by kernel_rfl) (.inl rfl) (⟨_, Tryz.underlying248, by kernel_rfl⟩) (trivial)
/-- func() int -/
def QC : TI := ⟨1, 8, .scalar (.func #[] #[3] false), [.aC .nilFunc], none⟩
theorem JJ : aa Tryz.prog 252 QC := aa.aG (by kernel_rfl) (by kernel_rfl) (by kernel_rfl) (.inr rfl) (⟨Tryz.underlying252, trivial⟩) (trivial)
/-- abi.TFlag -/
def O3 : TI := ⟨1, 1, .scalar (.int .u8), [.d (.int .u8) (0 : Int)], some (.int .u8)⟩
theorem GV : aa Tryz.prog 253 O3 := aa.aG (by kernel_rfl) (by kernel_rfl) (by kernel_rfl) (.inr rfl) (⟨Tryz.underlying253, trivial⟩) (⟨by kernel_rfl, by kernel_rfl, by kernel_rfl, by kernel_rfl⟩)
/-- abi.Kind -/
def Qm : TI := ⟨1, 1, .scalar (.int .u8), [.d (.int .u8) (0 : Int)], some (.int .u8)⟩
theorem G2 : aa Tryz.prog 254 Qm := aa.aG (by kernel_rfl) (by kernel_rfl) (by kernel_rfl) (.inr rfl) (⟨Tryz.underlying254, trivial⟩) (⟨by kernel_rfl, by kernel_rfl, by kernel_rfl, by kernel_rfl⟩)
/-- func(unsafe.Pointer, unsafe.Pointer) bool -/
def OS : TI := ⟨1, 8, .scalar (.func #[183, 183] #[4] false), [.aC .nilFunc], none⟩
theorem KT : aa Tryz.prog 255 OS := aa.aG (by kernel_rfl) (by kernel_rfl) (by kernel_rfl) (.inr rfl) (⟨Tryz.underlying255, trivial⟩) (trivial)
/-- abi.NameOff -/
def O2 : TI := ⟨1, 4, .scalar (.int .i32), [.d (.int .i32) (0 : Int)], some (.int .i32)⟩
theorem KQ : aa Tryz.prog 256 O2 := aa.aG (by kernel_rfl) (by kernel_rfl) (by kernel_rfl) (.inr rfl) (⟨Tryz.underlying256, trivial⟩) (⟨by kernel_rfl, by kernel_rfl, by kernel_rfl, by kernel_rfl⟩)
/-- abi.TypeOff -/
def Rm : TI := ⟨1, 4, .scalar (.int .i32), [.d (.int .i32) (0 : Int)], some (.int .i32)⟩
theorem Gq : aa Tryz.prog 257 Rm := aa.aG (by kernel_rfl) (by kernel_rfl) (by kernel_rfl) (.inr rfl) (⟨Tryz.underlying257, trivial⟩) (⟨by kernel_rfl, by kernel_rfl, by kernel_rfl, by kernel_rfl⟩)
/-- struct { Size_ uintptr; PtrBytes uintptr; Hash uint32; TFlag abi.TFlag; Align_ uint8; FieldAlign_ uint8; Kind_ abi.Kind; Equal func(unsafe.Pointer, unsafe.Pointer) bool; GCData *uint8; Str abi.NameOff; PtrToThis abi.TypeOff } -/
def PE : TI := ⟨11, 48, .struct [(0, 12), (1, 12), (2, 53), (3, 253), (4, 5), (5, 5), (6, 254), (7, 255), (8, 154), (9, 256), (10, 257)], [.d (.int .u64) (0 : Int), .d (.int .u64) (0 : Int), .d (.int .u32) (0 : Int), .d (.int .u8) (0 : Int), .d (.int .u8) (0 : Int), .d (.int .u8) (0 : Int), .d (.int .u8) (0 : Int), .aC .nilFunc, .aC (.pointer none), .d (.int .i32) (0 : Int), .d (.int .i32) (0 : Int)], none⟩
theorem KB : aa Tryz.prog 258 PE := aa.aG (by kernel_rfl) (by kernel_rfl) (by kernel_rfl) (.inl rfl) (⟨_, Tryz.underlying258, by kernel_rfl⟩) (trivial)
/-- abi.Type -/
def P3 : TI := ⟨11, 48, .struct [(0, 12), (1, 12), (2, 53), (3, 253), (4, 5), (5, 5), (6, 254), (7, 255), (8, 154), (9, 256), (10, 257)], [.d (.int .u64) (0 : Int), .d (.int .u64) (0 : Int), .d (.int .u32) (0 : Int), .d (.int .u8) (0 : Int), .d (.int .u8) (0 : Int), .d (.int .u8) (0 : Int), .d (.int .u8) (0 : Int), .aC .nilFunc, .aC (.pointer none), .d (.int .i32) (0 : Int), .d (.int .i32) (0 : Int)], none⟩
theorem IX : aa Tryz.prog 259 P3 := aa.aG (by kernel_rfl) (by kernel_rfl) (by kernel_rfl) (.inl rfl) (⟨_, Tryz.underlying259, by kernel_rfl⟩) (trivial)
theorem Ob : kL Tryz.prog 31 (.pair (.int .i64) (.pair (.int .i64) (.int .i64))) := ⟨(Exists.intro _ (And.intro Tryz.underlying31 (And.intro (by kernel_rfl) (And.intro (by kernel_rfl) (And.intro (by kernel_rfl) (And.intro Tryz.underlying3 (And.intro (by kernel_rfl) (And.intro (by kernel_rfl) (And.intro Tryz.underlying3 (And.intro (by kernel_rfl) (And.intro (by kernel_rfl) Tryz.underlying3))))))))))), rfl, rfl, by kernel_rfl, by kernel_rfl⟩
theorem Ml : kL Tryz.prog 33 (.pair (.int .i64) (.pair (.int .i64) (.int .i64))) := ⟨(Exists.intro _ (And.intro Tryz.underlying33 (And.intro (by kernel_rfl) (And.intro (by kernel_rfl) (And.intro (by kernel_rfl) (And.intro Tryz.underlying3 (And.intro (by kernel_rfl) (And.intro (by kernel_rfl) (And.intro Tryz.underlying3 (And.intro (by kernel_rfl) (And.intro (by kernel_rfl) Tryz.underlying3))))))))))), rfl, rfl, by kernel_rfl, by kernel_rfl⟩
theorem Oo : kL Tryz.prog 45 (.pair (.pair (.int .i64) (.pair (.int .i64) (.int .i64))) (.pair (.int .i64) (.pair (.int .i64) (.int .i64)))) := ⟨(Exists.intro _ (And.intro Tryz.underlying45 (And.intro (by kernel_rfl) (And.intro (by kernel_rfl) (And.intro (by kernel_rfl) (And.intro (Exists.intro _ (And.intro Tryz.underlying31 (And.intro (by kernel_rfl) (And.intro (by kernel_rfl) (And.intro (by kernel_rfl) (And.intro Tryz.underlying3 (And.intro (by kernel_rfl) (And.intro (by kernel_rfl) (And.intro Tryz.underlying3 (And.intro (by kernel_rfl) (And.intro (by kernel_rfl) Tryz.underlying3))))))))))) (And.intro (by kernel_rfl) (And.intro (by kernel_rfl) (And.intro Tryz.underlying3 (And.intro (by kernel_rfl) (And.intro (by kernel_rfl) (And.intro Tryz.underlying3 (And.intro (by kernel_rfl) (And.intro (by kernel_rfl) Tryz.underlying3)))))))))))))), rfl, rfl, by kernel_rfl, by kernel_rfl⟩
theorem Nj : kL Tryz.prog 75 (.pair (.int .i64) (.pair (.int .i64) (.pair (.int .i64) (.int .u8)))) := ⟨(Exists.intro _ (And.intro Tryz.underlying75 (And.intro (by kernel_rfl) (And.intro (by kernel_rfl) (And.intro (by kernel_rfl) (And.intro Tryz.underlying3 (And.intro (by kernel_rfl) (And.intro (by kernel_rfl) (And.intro Tryz.underlying3 (And.intro (by kernel_rfl) (And.intro (by kernel_rfl) (And.intro Tryz.underlying3 (And.intro (by kernel_rfl) (And.intro (by kernel_rfl) Tryz.underlying5)))))))))))))), rfl, rfl, by kernel_rfl, by kernel_rfl⟩
theorem Oa : kL Tryz.prog 98 (.arr 4 (.int .u64)) := ⟨(Exists.intro 97 (And.intro Tryz.underlying98 (And.intro (by kernel_rfl) (And.intro (by kernel_rfl) Tryz.underlying97)))), rfl, rfl, by kernel_rfl, by kernel_rfl⟩
theorem Ox : kL Tryz.prog 99 (.arr 4 (.int .u64)) := ⟨(Exists.intro 97 (And.intro Tryz.underlying99 (And.intro (by kernel_rfl) (And.intro (by kernel_rfl) Tryz.underlying97)))), rfl, rfl, by kernel_rfl, by kernel_rfl⟩
theorem G5 : kL Tryz.prog 101 (.pair (.arr 4 (.int .u64)) (.pair (.arr 4 (.int .u64)) (.int .i64))) := ⟨(Exists.intro _ (And.intro Tryz.underlying101 (And.intro (by kernel_rfl) (And.intro (by kernel_rfl) (And.intro (by kernel_rfl) (And.intro (Exists.intro 97 (And.intro Tryz.underlying99 (And.intro (by kernel_rfl) (And.intro (by kernel_rfl) Tryz.underlying97)))) (And.intro (by kernel_rfl) (And.intro (by kernel_rfl) (And.intro (Exists.intro 97 (And.intro Tryz.underlying99 (And.intro (by kernel_rfl) (And.intro (by kernel_rfl) Tryz.underlying97)))) (And.intro (by kernel_rfl) (And.intro (by kernel_rfl) Tryz.underlying3))))))))))), rfl, rfl, by kernel_rfl, by kernel_rfl⟩
theorem It : kL Tryz.prog 143 (.pair (.int .i64) (.pair (.int .i64) (.pair (.bool) (.pair (.bool) (.pair (.bool) (.pair (.bool) (.bool))))))) := ⟨(Exists.intro _ (And.intro Tryz.underlying143 (And.intro (by kernel_rfl) (And.intro (by kernel_rfl) (And.intro (by kernel_rfl) (And.intro Tryz.underlying3 (And.intro (by kernel_rfl) (And.intro (by kernel_rfl) (And.intro Tryz.underlying3 (And.intro (by kernel_rfl) (And.intro (by kernel_rfl) (And.intro Tryz.underlying4 (And.intro (by kernel_rfl) (And.intro (by kernel_rfl) (And.intro Tryz.underlying4 (And.intro (by kernel_rfl) (And.intro (by kernel_rfl) (And.intro Tryz.underlying4 (And.intro (by kernel_rfl) (And.intro (by kernel_rfl) (And.intro Tryz.underlying4 (And.intro (by kernel_rfl) (And.intro (by kernel_rfl) Tryz.underlying4))))))))))))))))))))))), rfl, rfl, by kernel_rfl, by kernel_rfl⟩
theorem Ir : kL Tryz.prog 148 (.pair (.int .i64) (.int .u8)) := ⟨(Exists.intro _ (And.intro Tryz.underlying148 (And.intro (by kernel_rfl) (And.intro (by kernel_rfl) (And.intro (by kernel_rfl) (And.intro Tryz.underlying3 (And.intro (by kernel_rfl) (And.intro (by kernel_rfl) Tryz.underlying5)))))))), rfl, rfl, by kernel_rfl, by kernel_rfl⟩
theorem KZ : kL Tryz.prog 171 (.pair (.int .i64) (.int .i64)) := ⟨(Exists.intro _ (And.intro Tryz.underlying171 (And.intro (by kernel_rfl) (And.intro (by kernel_rfl) (And.intro (by kernel_rfl) (And.intro Tryz.underlying3 (And.intro (by kernel_rfl) (And.intro (by kernel_rfl) Tryz.underlying3)))))))), rfl, rfl, by kernel_rfl, by kernel_rfl⟩
theorem Hz : kL Tryz.prog 179 (.arr 24 (.int .u8)) := ⟨(Exists.intro 5 (And.intro Tryz.underlying179 (And.intro (by kernel_rfl) (And.intro (by kernel_rfl) Tryz.underlying5)))), rfl, rfl, by kernel_rfl, by kernel_rfl⟩
theorem KE : kL Tryz.prog 207 (.pair (.int .i64) (.int .i64)) := ⟨(Exists.intro _ (And.intro Tryz.underlying207 (And.intro (by kernel_rfl) (And.intro (by kernel_rfl) (And.intro (by kernel_rfl) (And.intro Tryz.underlying3 (And.intro (by kernel_rfl) (And.intro (by kernel_rfl) Tryz.underlying3)))))))), rfl, rfl, by kernel_rfl, by kernel_rfl⟩
theorem IU : kL Tryz.prog 209 (.pair (.int .i64) (.pair (.int .i64) (.int .i64))) := ⟨(Exists.intro _ (And.intro Tryz.underlying209 (And.intro (by kernel_rfl) (And.intro (by kernel_rfl) (And.intro (by kernel_rfl) (And.intro Tryz.underlying3 (And.intro (by kernel_rfl) (And.intro (by kernel_rfl) (And.intro Tryz.underlying3 (And.intro (by kernel_rfl) (And.intro (by kernel_rfl) Tryz.underlying3))))))))))), rfl, rfl, by kernel_rfl, by kernel_rfl⟩
theorem Ix : kL Tryz.prog 217 (.pair (.bool) (.bool)) := ⟨(Exists.intro _ (And.intro Tryz.underlying217 (And.intro (by kernel_rfl) (And.intro (by kernel_rfl) (And.intro (by kernel_rfl) (And.intro Tryz.underlying4 (And.intro (by kernel_rfl) (And.intro (by kernel_rfl) Tryz.underlying4)))))))), rfl, rfl, by kernel_rfl, by kernel_rfl⟩
theorem Gv : kL Tryz.prog 220 (.arr 20 (.int .u64)) := ⟨(Exists.intro 97 (And.intro Tryz.underlying220 (And.intro (by kernel_rfl) (And.intro (by kernel_rfl) Tryz.underlying97)))), rfl, rfl, by kernel_rfl, by kernel_rfl⟩
theorem J3 : kL Tryz.prog 221 (.arr 65 (.int .u8)) := ⟨(Exists.intro 5 (And.intro Tryz.underlying221 (And.intro (by kernel_rfl) (And.intro (by kernel_rfl) Tryz.underlying5)))), rfl, rfl, by kernel_rfl, by kernel_rfl⟩
theorem Hj : kL Tryz.prog 244 (.arr 32 (.int .u8)) := ⟨(Exists.intro 5 (And.intro Tryz.underlying244 (And.intro (by kernel_rfl) (And.intro (by kernel_rfl) Tryz.underlying5)))), rfl, rfl, by kernel_rfl, by kernel_rfl⟩
theorem HH : kL Tryz.prog 245 (.arr 64 (.int .u8)) := ⟨(Exists.intro 5 (And.intro Tryz.underlying245 (And.intro (by kernel_rfl) (And.intro (by kernel_rfl) Tryz.underlying5)))), rfl, rfl, by kernel_rfl, by kernel_rfl⟩
def env : Env := { VB := [(1, VR), (2, VH), (3, VG), (4, VI), (5, VO), (6, VP), (7, VL), (8, VK), (9, VN), (10, TJ), (11, T2), (12, UO), (13, TO), (14, U3), (15, UN), (16, U4), (17, Uh), (18, TY), (19, TC), (21, UG), (22, TM), (23, UH), (24, Ur), (25, TA), (27, S8), (28, S7), (29, Tn), (30, SZ), (31, TD), (32, U1), (33, Tl), (34, Tt), (36, S6), (37, T8), (38, S2), (40, Um), (41, Tc), (42, Tz), (43, TR), (44, Tq), (45, Uq), (46, Un), (47, TV), (48, UZ), (49, UQ), (50, Tw), (51, TG), (52, S0), (53, Uw), (54, UX), (55, TE), (56, UU), (58, U6), (59, Uk), (61, TP), (62, Tm), (63, Ti), (64, Tk), (65, U0), (66, TL), (67, T3), (68, S5), (70, TH), (71, UJ), (72, Te), (73, UR), (74, T6), (75, U7), (76, S9), (77, Uc), (78, Tv), (79, UW), (80, Uy), (81, Uz), (83, TQ), (84, Ts), (85, UK), (87, Tf), (89, UD), (90, Ub), (91, Ut), (92, Ud), (93, Tg), (94, T4), (95, Ta), (96, Tp), (97, US), (98, U9), (99, Uf), (100, O4), (101, QB), (102, P6), (103, Pm), (104, Pc), (105, QY), (106, Pf), (107, Pq), (108, OO), (109, Pu), (110, Q5), (111, Rk), (112, Qn), (113, PX), (114, Qt), (115, QZ), (116, Q2), (117, Q3), (118, Py), (120, P8), (121, O8), (122, Ql), (123, PF), (124, Rp), (125, OP), (126, O9), (127, PD), (128, Ra), (129, Pp), (130, PQ), (131, PR), (132, OT), (133, P1), (135, Qz), (136, Ph), (137, Qs), (138, Rn), (139, QJ), (141, OX), (142, QI), (143, PL), (144, Pz), (146, Rq), (147, OG), (148, PM), (149, Q9), (151, Qc), (152, ON), (153, Q7), (154, QV), (155, QM), (156, Qy), (157, Qk), (158, Pw), (159, Rg), (160, QD), (161, QW), (162, Qv), (163, OM), (164, Qw), (165, Q6), (167, PG), (169, QO), (170, Qd), (171, QR), (172, QP), (174, Qj), (175, Qu), (176, Ps), (178, QQ), (179, O5), (180, Rl), (182, Po), (184, Q0), (185, Qx), (187, PB), (188, Ri), (189, QX), (190, Qe), (191, Qo), (193, PW), (194, Pj), (195, QG), (196, Qg), (197, QK), (198, Rb), (199, OK), (200, PZ), (201, QE), (202, OF), (203, Pn), (205, Rh), (206, O7), (207, PU), (208, OV), (209, OY), (210, Qb), (211, OQ), (212, Qr), (213, OZ), (214, Rj), (215, P7), (216, Pb), (217, Pg), (218, O1), (219, QA), (220, PT), (221, OU), (223, PO), (225, P0), (226, PA), (227, QN), (228, QT), (229, OW), (230, P9), (231, Rf), (232, Q4), (233, O0), (234, O6), (235, OL), (236, P5), (237, PH), (238, P2), (239, OR), (240, Rc), (241, Qf), (242, Q8), (243, OH), (244, Px), (245, Pr), (246, Pe), (247, Qp), (248, Qh), (252, QC), (253, O3), (254, Qm), (255, OS), (256, O2), (257, Rm), (258, PE), (259, P3)], eqs := [(31, .pair (.int .i64) (.pair (.int .i64) (.int .i64))), (33, .pair (.int .i64) (.pair (.int .i64) (.int .i64))), (45, .pair (.pair (.int .i64) (.pair (.int .i64) (.int .i64))) (.pair (.int .i64) (.pair (.int .i64) (.int .i64)))), (75, .pair (.int .i64) (.pair (.int .i64) (.pair (.int .i64) (.int .u8)))), (98, .arr 4 (.int .u64)), (99, .arr 4 (.int .u64)), (101, .pair (.arr 4 (.int .u64)) (.pair (.arr 4 (.int .u64)) (.int .i64))), (143, .pair (.int .i64) (.pair (.int .i64) (.pair (.bool) (.pair (.bool) (.pair (.bool) (.pair (.bool) (.bool))))))), (148, .pair (.int .i64) (.int .u8)), (171, .pair (.int .i64) (.int .i64)), (179, .arr 24 (.int .u8)), (207, .pair (.int .i64) (.int .i64)), (209, .pair (.int .i64) (.pair (.int .i64) (.int .i64))), (217, .pair (.bool) (.bool)), (220, .arr 20 (.int .u64)), (221, .arr 65 (.int .u8)), (244, .arr 32 (.int .u8)), (245, .arr 64 (.int .u8))] }
theorem ba : aY Tryz.prog env := yo (E := env) ⟨RB, ⟨Sf, ⟨RI, ⟨Rt, ⟨SI, ⟨Sc, ⟨Sj, ⟨R3, ⟨RD, ⟨Of, ⟨M3, ⟨NQ, ⟨LX, ⟨NF, ⟨M0, ⟨Mm, ⟨Np, ⟨MH, ⟨LO, ⟨NI, ⟨Mh, ⟨Mf, ⟨Oc, ⟨Nc, ⟨NM, ⟨NS, ⟨L1, ⟨M1, ⟨Ov, ⟨Oz, ⟨MX, ⟨NO, ⟨Mx, ⟨NY, ⟨MP, ⟨MD, ⟨Nf, ⟨MK, ⟨Mv, ⟨ML, ⟨Nk, ⟨N9, ⟨Ni, ⟨MJ, ⟨Nx, ⟨L3, ⟨NX, ⟨M5, ⟨NH, ⟨MF, ⟨Oe, ⟨NR, ⟨Mw, ⟨Nr, ⟨Nq, ⟨LH, ⟨NN, ⟨Mq, ⟨L7, ⟨L6, ⟨L5, ⟨OE, ⟨Mb, ⟨LY, ⟨M7, ⟨NK, ⟨M4, ⟨Mc, ⟨OB, ⟨MS, ⟨Nu, ⟨Og, ⟨Mg, ⟨MV, ⟨MZ, ⟨NW, ⟨OD, ⟨Oh, ⟨Oj, ⟨L9, ⟨NT, ⟨Om, ⟨Ms, ⟨OC, ⟨Ot, ⟨My, ⟨LL, ⟨L2, ⟨LM, ⟨Gx, ⟨I8, ⟨Ig, ⟨Gy, ⟨Hy, ⟨HD, ⟨HY, ⟨IS, ⟨Lb, ⟨Ko, ⟨GG, ⟨Is, ⟨JD, ⟨Lj, ⟨GS, ⟨H7, ⟨Ib, ⟨Ha, ⟨IE, ⟨Kp, ⟨Gj, ⟨Hv, ⟨Li, ⟨H8, ⟨KJ, ⟨JG, ⟨He, ⟨HU, ⟨Km, ⟨Io, ⟨G9, ⟨Ie, ⟨Kr, ⟨Jd, ⟨HJ, ⟨JF, ⟨Gn, ⟨KL, ⟨GJ, ⟨KV, ⟨Gi, ⟨I9, ⟨JQ, ⟨H5, ⟨Jy, ⟨Ht, ⟨Jp, ⟨GM, ⟨Jv, ⟨IM, ⟨Jo, ⟨Kn, ⟨GF, ⟨JA, ⟨GQ, ⟨K3, ⟨J7, ⟨Hb, ⟨Hk, ⟨Ld, ⟨Jk, ⟨JC, ⟨IK, ⟨I1, ⟨GL, ⟨ID, ⟨KK, ⟨HV, ⟨Ji, ⟨J2, ⟨KC, ⟨Jx, ⟨Ke, ⟨Hq, ⟨KI, ⟨GU, ⟨KM, ⟨Il, ⟨JB, ⟨II, ⟨Hr, ⟨G0, ⟨I6, ⟨GK, ⟨JT, ⟨Iv, ⟨JX, ⟨K6, ⟨Gk, ⟨G8, ⟨JV, ⟨JN, ⟨HW, ⟨HX, ⟨HS, ⟨Jw, ⟨I0, ⟨Hn, ⟨I5, ⟨GP, ⟨IJ, ⟨Ip, ⟨Iu, ⟨K4, ⟨G4, ⟨IC, ⟨JM, ⟨Kh, ⟨GB, ⟨Ky, ⟨K9, ⟨Hu, ⟨K2, ⟨HA, ⟨Iw, ⟨Jc, ⟨K7, ⟨Ic, ⟨GO, ⟨GW, ⟨JH, ⟨Hs, ⟨Lk, ⟨IP, ⟨KX, ⟨IA, ⟨KW, ⟨Jz, ⟨GH, ⟨GI, ⟨IB, ⟨Lg, ⟨Jg, ⟨JJ, ⟨GV, ⟨G2, ⟨KT, ⟨KQ, ⟨Gq, ⟨KB, ⟨IX, trivial⟩⟩⟩⟩⟩⟩⟩⟩⟩⟩⟩⟩⟩⟩⟩⟩⟩⟩⟩⟩⟩⟩⟩⟩⟩⟩⟩⟩⟩⟩⟩⟩⟩⟩⟩⟩⟩⟩⟩⟩⟩⟩⟩⟩⟩⟩⟩⟩⟩⟩⟩⟩⟩⟩⟩⟩⟩⟩⟩⟩⟩⟩⟩⟩⟩⟩⟩⟩⟩⟩⟩⟩⟩⟩⟩⟩⟩⟩⟩⟩⟩⟩⟩⟩⟩⟩⟩⟩⟩⟩⟩⟩⟩⟩⟩⟩⟩⟩⟩⟩⟩⟩⟩⟩⟩⟩⟩⟩⟩⟩⟩⟩⟩⟩⟩⟩⟩⟩⟩⟩⟩⟩⟩⟩⟩⟩⟩⟩⟩⟩⟩⟩⟩⟩⟩⟩⟩⟩⟩⟩⟩⟩⟩⟩⟩⟩⟩⟩⟩⟩⟩⟩⟩⟩⟩⟩⟩⟩⟩⟩⟩⟩⟩⟩⟩⟩⟩⟩⟩⟩⟩⟩⟩⟩⟩⟩⟩⟩⟩⟩⟩⟩⟩⟩⟩⟩⟩⟩⟩⟩⟩⟩⟩⟩⟩⟩⟩⟩⟩⟩⟩⟩⟩⟩⟩⟩⟩⟩⟩⟩⟩⟩⟩⟩⟩⟩⟩⟩⟩⟩⟩⟩⟩⟩⟩⟩⟩⟩⟩⟩ ⟨Ob, ⟨Ml, ⟨Oo, ⟨Nj, ⟨Oa, ⟨Ox, ⟨G5, ⟨It, ⟨Ir, ⟨KZ, ⟨Hz, ⟨KE, ⟨IU, ⟨Ix, ⟨Gv, ⟨J3, ⟨Hj, ⟨HH, trivial⟩⟩⟩⟩⟩⟩⟩⟩⟩⟩⟩⟩⟩⟩⟩⟩⟩⟩
end Go.Proofs.YtlnlichdidobpaaGreatDoor
