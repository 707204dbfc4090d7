/-
  The conditions that the executor comes to, written out (by a tool of ours), and that they are the conditions (by the kernel).
-/
import Derived.Test.YtlkhpbjjimjhbaaDoorVecC
namespace Go.Proofs.YtlkhpbjjimjhbaaDoor.Vec
open Go.Sx
set_option maxRecDepth 100000

def E_lead (x : Int × Unit) : Prop :=
 Holds True ∧
 ((-9223372036854775808 : Int) ≤ (64 : Int) - (↑(Lib.bitLen x.fst.toNat) : Int) ∧
 (64 : Int) - (↑(Lib.bitLen x.fst.toNat) : Int) ≤ (9223372036854775807 : Int)) ∧
 (64 : Int) - (↑(Lib.bitLen x.fst.toNat) : Int) = (64 : Int) - (↑(Lib.bitLen x.fst.toNat) : Int)

theorem E_lead_eq (x : HL (cLead : Ctr).as) : vc (fx_lead x) 1 29 Tryd.f29 (cLead) x = E_lead x := by kernel_rfl

def E_fits (x : Int × Unit) : Prop :=
 (decide ((0 : Int) ≤ x.fst) = true → decide ((0 : Int) ≤ x.fst) = true) ∧
 (decide ((0 : Int) ≤ x.fst) = true → decide ((0 : Int) ≤ x.fst) = true) ∧ (decide ((0 : Int) ≤ x.fst) && decide (x.fst < (256 : Int))) = fits x.fst

theorem E_fits_eq (x : HL (cFits : Ctr).as) : vc (fx_fits x) 1 28 Tryd.f28 (cFits) x = E_fits x := by kernel_rfl

def E_has (x : List Int × Int × Unit) : Prop :=
 Holds True ∧
 (fits x.snd.fst = true → fits x.snd.fst = true ∧ (0 : Int) ≤ x.snd.fst ∧ (0 : Int) < (64 : Int)) ∧
 (fits x.snd.fst = true → fits x.snd.fst = true ∧ (0 : Int) ≤ x.snd.fst / (64 : Int) ∧ x.snd.fst / (64 : Int) < (↑(4 : Nat) : Int)) ∧
 (fits x.snd.fst = true → fits x.snd.fst = true) ∧
 (fits x.snd.fst = true → fits x.snd.fst = true ∧ (0 : Int) ≤ x.snd.fst ∧ (0 : Int) < (64 : Int)) ∧
 (fits x.snd.fst = true → (fits x.snd.fst = true ∧ fits x.snd.fst = true) ∧ (0 : Int) ≤ x.snd.fst % (64 : Int)) ∧
 (fits x.snd.fst = true → fits x.snd.fst = true) ∧
 (fits x.snd.fst = true → fits x.snd.fst = true) ∧
 (fits x.snd.fst = true → fits x.snd.fst = true) ∧
 (fits x.snd.fst &&
 bits BinOp.and IntKind.u64
 (x.fst.getD (x.snd.fst / (64 : Int)).toNat (0 : Int) / (2 : Int) ^ min (x.snd.fst % (64 : Int)).toNat IntKind.u64.bits)
 (1 : Int) ==
 (1 : Int)) =
 hasB x.fst x.snd.fst

theorem E_has_eq (x : HL (cHas : Ctr).as) : vc (fx_has x) 1 40 Tryd.f40 (cHas) x = E_has x := by kernel_rfl

def E_with (x : List Int × Int × Unit) : Prop :=
 Holds True ∧
 (fits x.snd.fst = true →
 ((0 : Int) ≤ x.snd.fst ∧ (0 : Int) < (64 : Int)) ∧
 ((0 : Int) ≤ x.snd.fst / (64 : Int) ∧ x.snd.fst / (64 : Int) < (↑(4 : Nat) : Int)) ∧
 ((0 : Int) ≤ x.snd.fst ∧ (0 : Int) < (64 : Int)) ∧
 (0 : Int) ≤ x.snd.fst % (64 : Int) ∧
 ((0 : Int) ≤ x.snd.fst / (64 : Int) ∧ x.snd.fst / (64 : Int) < (↑(4 : Nat) : Int)) ∧
 x.fst.set (x.snd.fst / (64 : Int)).toNat
 (bits BinOp.or IntKind.u64 (x.fst.getD (x.snd.fst / (64 : Int)).toNat (0 : Int))
 (IntKind.u64.wrap ((1 : Int) * (2 : Int) ^ min (x.snd.fst % (64 : Int)).toNat IntKind.u64.bits))) =
 putB x.fst x.snd.fst true) ∧
 (fits x.snd.fst = false → x.fst = putB x.fst x.snd.fst true)

theorem E_with_eq (x : HL (cWith : Ctr).as) : vc (fx_with x) 1 16 Tryd.f16 (cWith) x = E_with x := by kernel_rfl

def E_without (x : List Int × Int × Unit) : Prop :=
 Holds True ∧
 (fits x.snd.fst = true →
 ((0 : Int) ≤ x.snd.fst ∧ (0 : Int) < (64 : Int)) ∧
 ((0 : Int) ≤ x.snd.fst / (64 : Int) ∧ x.snd.fst / (64 : Int) < (↑(4 : Nat) : Int)) ∧
 ((0 : Int) ≤ x.snd.fst ∧ (0 : Int) < (64 : Int)) ∧
 (0 : Int) ≤ x.snd.fst % (64 : Int) ∧
 ((0 : Int) ≤ x.snd.fst / (64 : Int) ∧ x.snd.fst / (64 : Int) < (↑(4 : Nat) : Int)) ∧
 x.fst.set (x.snd.fst / (64 : Int)).toNat
 (bits BinOp.andNot IntKind.u64 (x.fst.getD (x.snd.fst / (64 : Int)).toNat (0 : Int))
 (IntKind.u64.wrap ((1 : Int) * (2 : Int) ^ min (x.snd.fst % (64 : Int)).toNat IntKind.u64.bits))) =
 putB x.fst x.snd.fst false) ∧
 (fits x.snd.fst = false → x.fst = putB x.fst x.snd.fst false)

theorem E_without_eq (x : HL (cWithout : Ctr).as) : vc (fx_without x) 1 17 Tryd.f17 (cWithout) x = E_without x := by kernel_rfl

def E_next (x : List Int × Int × Unit) : Prop :=
 Holds True ∧
 ((!fits (max x.snd.fst (0 : Int))) = true → (-1 : Int) = nextOf x.fst x.snd.fst) ∧
 ((!fits (max x.snd.fst (0 : Int))) = false →
 ((0 : Int) ≤ max x.snd.fst (0 : Int) ∧ (0 : Int) < (64 : Int)) ∧
 ((0 : Int) ≤ max x.snd.fst (0 : Int) / (64 : Int) ∧ max x.snd.fst (0 : Int) / (64 : Int) < (↑(4 : Nat) : Int)) ∧
 ((0 : Int) ≤ max x.snd.fst (0 : Int) ∧ (0 : Int) < (64 : Int)) ∧
 (0 : Int) ≤ max x.snd.fst (0 : Int) % (64 : Int) ∧
 ((0 : Int) ≤ IntKind.u64.wrap ((1 : Int) * (2 : Int) ^ min (max x.snd.fst (0 : Int) % (64 : Int)).toNat IntKind.u64.bits) - (1 : Int) ∧
 IntKind.u64.wrap ((1 : Int) * (2 : Int) ^ min (max x.snd.fst (0 : Int) % (64 : Int)).toNat IntKind.u64.bits) - (1 : Int) ≤
 (18446744073709551615 : Int)) ∧
 ((0 : Int) ≤ max x.snd.fst (0 : Int) / (64 : Int) ∧ max x.snd.fst (0 : Int) / (64 : Int) < (↑(4 : Nat) : Int)) ∧
 ((0 : Int) ≤ max x.snd.fst (0 : Int) ∧ (0 : Int) < (64 : Int)) ∧
 ((((0 : Int) ≤ max x.snd.fst (0 : Int) / (64 : Int) ∧
 max x.snd.fst (0 : Int) / (64 : Int) ≤ (4 : Int) ∧
 nextOf x.fst x.snd.fst =
 nextB
 (bitN
 (x.fst.set (max x.snd.fst (0 : Int) / (64 : Int)).toNat
 (bits BinOp.andNot IntKind.u64 (x.fst.getD (max x.snd.fst (0 : Int) / (64 : Int)).toNat (0 : Int))
 (IntKind.u64.wrap
 ((1 : Int) * (2 : Int) ^ min (max x.snd.fst (0 : Int) % (64 : Int)).toNat IntKind.u64.bits) -
 (1 : Int)))))
 ((64 : Nat) * (max x.snd.fst (0 : Int) / (64 : Int)).toNat)
 ((64 : Nat) * ((4 : Int) - max x.snd.fst (0 : Int) / (64 : Int)).toNat)) ∧
 True) ∧
 ((True ∧ True) ∧ max x.snd.fst (0 : Int) / (64 : Int) = max x.snd.fst (0 : Int) / (64 : Int) ∧ True) ∧
 ((x.fst.set (max x.snd.fst (0 : Int) / (64 : Int)).toNat
 (bits BinOp.andNot IntKind.u64 (x.fst.getD (max x.snd.fst (0 : Int) / (64 : Int)).toNat (0 : Int))
 (IntKind.u64.wrap ((1 : Int) * (2 : Int) ^ min (max x.snd.fst (0 : Int) % (64 : Int)).toNat IntKind.u64.bits) -
 (1 : Int))) =
 x.fst.set (max x.snd.fst (0 : Int) / (64 : Int)).toNat
 (bits BinOp.andNot IntKind.u64 (x.fst.getD (max x.snd.fst (0 : Int) / (64 : Int)).toNat (0 : Int))
 (IntKind.u64.wrap ((1 : Int) * (2 : Int) ^ min (max x.snd.fst (0 : Int) % (64 : Int)).toNat IntKind.u64.bits) -
 (1 : Int))) ∧
 True) ∧
 True) ∧
 True) ∧
 ∀ (g : List Int × Int × Unit),
 (0 : Int) ≤ g.snd.fst ∧
 g.snd.fst ≤ (4 : Int) ∧
 nextOf x.fst x.snd.fst =
 nextB (bitN g.fst) ((64 : Nat) * g.snd.fst.toNat) ((64 : Nat) * ((4 : Int) - g.snd.fst).toNat) →
 (g.fst.length = (4 : Nat) ∧ ∀ (x : Int), x ∈ g.fst → (0 : Int) ≤ x ∧ x ≤ (18446744073709551615 : Int)) ∧
 ((-9223372036854775808 : Int) ≤ g.snd.fst ∧ g.snd.fst ≤ (9223372036854775807 : Int)) ∧ True →
 (decide (g.snd.fst < (4 : Int)) = true →
 ((0 : Int) ≤ g.snd.fst ∧ g.snd.fst < (↑(4 : Nat) : Int)) ∧
 ((g.fst.getD g.snd.fst.toNat (0 : Int) != (0 : Int)) = true →
 ((-9223372036854775808 : Int) ≤ (64 : Int) * g.snd.fst ∧ (64 : Int) * g.snd.fst ≤ (9223372036854775807 : Int)) ∧
 ((0 : Int) ≤ g.snd.fst ∧ g.snd.fst < (↑(4 : Nat) : Int)) ∧
 Holds True ∧
 ((-9223372036854775808 : Int) ≤
 (64 : Int) * g.snd.fst +
 (↑(Lib.ctz (64 : Nat) (g.fst.getD g.snd.fst.toNat (0 : Int)).toNat) : Int) ∧
 (64 : Int) * g.snd.fst + (↑(Lib.ctz (64 : Nat) (g.fst.getD g.snd.fst.toNat (0 : Int)).toNat) : Int) ≤
 (9223372036854775807 : Int)) ∧
 (64 : Int) * g.snd.fst + (↑(Lib.ctz (64 : Nat) (g.fst.getD g.snd.fst.toNat (0 : Int)).toNat) : Int) =
 nextOf x.fst x.snd.fst) ∧
 ((g.fst.getD g.snd.fst.toNat (0 : Int) != (0 : Int)) = false →
 ((-9223372036854775808 : Int) ≤ g.snd.fst + (1 : Int) ∧ g.snd.fst + (1 : Int) ≤ (9223372036854775807 : Int)) ∧
 (((0 : Int) ≤ g.snd.fst + (1 : Int) ∧
 g.snd.fst + (1 : Int) ≤ (4 : Int) ∧
 nextOf x.fst x.snd.fst =
 nextB (bitN g.fst) ((64 : Nat) * (g.snd.fst + (1 : Int)).toNat)
 ((64 : Nat) * ((4 : Int) - (g.snd.fst + (1 : Int))).toNat)) ∧
 ((4 : Int) - (g.snd.fst + (1 : Int))).toNat < ((4 : Int) - g.snd.fst).toNat) ∧
 ((True ∧ True) ∧ g.snd.fst + (1 : Int) = g.snd.fst + (1 : Int) ∧ True) ∧
 ((g.fst = g.fst ∧ True) ∧ True) ∧ True)) ∧
 (decide (g.snd.fst < (4 : Int)) = false → (-1 : Int) = nextOf x.fst x.snd.fst))

theorem E_next_eq (x : HL (cNext : Ctr).as) : vc (fx_next x) 1 21 Tryd.f21 (cNext) x = E_next x := by kernel_rfl

def E_all (x : List Int × Unit) : Prop :=
 Holds True ∧
 (((x.fst = x.fst ∧
 (-1 : Int) ≤ nextOf x.fst (0 : Int) ∧
 nextOf x.fst (0 : Int) ≤ (255 : Int) ∧
 (↑([] : List Int).length : Int) ≤ (256 : Int) ∧
 (nextOf x.fst (0 : Int) = (-1 : Int) ∧ ([] : List Int) = allOf x.fst ∨
 (0 : Int) ≤ nextOf x.fst (0 : Int) ∧
 bitN x.fst (nextOf x.fst (0 : Int)).toNat = true ∧ ([] : List Int) = allB (bitN x.fst) (nextOf x.fst (0 : Int)).toNat)) ∧
 True) ∧
 ((True ∧ True) ∧ True ∧ nextOf x.fst (0 : Int) = nextOf x.fst (0 : Int) ∧ True) ∧
 ((x.fst = x.fst ∧ True) ∧ ([] : List Int) = ([] : List Int) ∧ True) ∧ True) ∧
 ∀ (g : List Int × List Int × Int × Unit),
 g.fst = x.fst ∧
 (-1 : Int) ≤ g.snd.snd.fst ∧
 g.snd.snd.fst ≤ (255 : Int) ∧
 (↑g.snd.fst.length : Int) ≤ (256 : Int) ∧
 (g.snd.snd.fst = (-1 : Int) ∧ g.snd.fst = allOf x.fst ∨
 (0 : Int) ≤ g.snd.snd.fst ∧ bitN x.fst g.snd.snd.fst.toNat = true ∧ g.snd.fst = allB (bitN x.fst) g.snd.snd.fst.toNat) →
 (g.fst.length = (4 : Nat) ∧ ∀ (x : Int), x ∈ g.fst → (0 : Int) ≤ x ∧ x ≤ (18446744073709551615 : Int)) ∧
 (g.snd.fst.length ≤ (9223372036854775807 : Nat) ∧
 ∀ (x : Int), x ∈ g.snd.fst → (-9223372036854775808 : Int) ≤ x ∧ x ≤ (9223372036854775807 : Int)) ∧
 ((-9223372036854775808 : Int) ≤ g.snd.snd.fst ∧ g.snd.snd.fst ≤ (9223372036854775807 : Int)) ∧ True →
 (decide ((0 : Int) ≤ g.snd.snd.fst) = true →
 (g.snd.fst.length + (((0 : Int) :: ([] : List Int)).set (0 : Nat) g.snd.snd.fst).length ≤ (9223372036854775807 : Nat) ∧
 (g.snd.fst.length + (((0 : Int) :: ([] : List Int)).set (0 : Nat) g.snd.snd.fst).length +
 (g.snd.fst.length + (((0 : Int) :: ([] : List Int)).set (0 : Nat) g.snd.snd.fst).length) / (4 : Nat) +
 (192 : Nat)) *
 (8 : Nat) ≤
 (281474976710656 : Nat)) ∧
 ((-9223372036854775808 : Int) ≤ g.snd.snd.fst + (1 : Int) ∧ g.snd.snd.fst + (1 : Int) ≤ (9223372036854775807 : Int)) ∧
 Holds True ∧
 ((g.fst = x.fst ∧
 (-1 : Int) ≤ nextOf g.fst (g.snd.snd.fst + (1 : Int)) ∧
 nextOf g.fst (g.snd.snd.fst + (1 : Int)) ≤ (255 : Int) ∧
 (↑(g.snd.fst ++ ((0 : Int) :: ([] : List Int)).set (0 : Nat) g.snd.snd.fst).length : Int) ≤ (256 : Int) ∧
 (nextOf g.fst (g.snd.snd.fst + (1 : Int)) = (-1 : Int) ∧
 g.snd.fst ++ ((0 : Int) :: ([] : List Int)).set (0 : Nat) g.snd.snd.fst = allOf x.fst ∨
 (0 : Int) ≤ nextOf g.fst (g.snd.snd.fst + (1 : Int)) ∧
 bitN x.fst (nextOf g.fst (g.snd.snd.fst + (1 : Int))).toNat = true ∧
 g.snd.fst ++ ((0 : Int) :: ([] : List Int)).set (0 : Nat) g.snd.snd.fst =
 allB (bitN x.fst) (nextOf g.fst (g.snd.snd.fst + (1 : Int))).toNat)) ∧
 ((256 : Int) -
 if nextOf g.fst (g.snd.snd.fst + (1 : Int)) = (-1 : Int) then (256 : Int)
 else nextOf g.fst (g.snd.snd.fst + (1 : Int))).toNat <
 ((256 : Int) - if g.snd.snd.fst = (-1 : Int) then (256 : Int) else g.snd.snd.fst).toNat) ∧
 ((True ∧ True) ∧ True ∧ nextOf g.fst (g.snd.snd.fst + (1 : Int)) = nextOf g.fst (g.snd.snd.fst + (1 : Int)) ∧ True) ∧
 ((g.fst = g.fst ∧ True) ∧
 g.snd.fst ++ ((0 : Int) :: ([] : List Int)).set (0 : Nat) g.snd.snd.fst =
 g.snd.fst ++ ((0 : Int) :: ([] : List Int)).set (0 : Nat) g.snd.snd.fst ∧
 True) ∧
 True) ∧
 (decide ((0 : Int) ≤ g.snd.snd.fst) = false → g.snd.fst = allOf x.fst)

theorem E_all_eq (x : HL (cAll : Ctr).as) : vc (fx_all x) 1 39 Tryd.f39 (cAll) x = E_all x := by kernel_rfl

def E_cloneS (x : List (Int × Int) × Unit) : Prop :=
 ∀ (b : Bool),
 (b = true → x.fst = ([] : List (Int × Int))) →
 (b = true → ([] : List (Int × Int)) = x.fst) ∧
 (b = false →
 (([] : List (Int × Int)).length + x.fst.length ≤ (9223372036854775807 : Nat) ∧
 (([] : List (Int × Int)).length + x.fst.length + (([] : List (Int × Int)).length + x.fst.length) / (4 : Nat) + (192 : Nat)) * (16 : Nat) ≤
 (281474976710656 : Nat)) ∧
 ([] : List (Int × Int)) ++ x.fst = x.fst)

theorem E_cloneS_eq (x : HL (cCloneS : Ctr).as) : vc (fx_cloneS x) 1 26 Tryd.f26 (cCloneS) x = E_cloneS x := by kernel_rfl

def E_eqS (x : List (Int × Int) × List (Int × Int) × Unit) : Prop :=
 (((↑x.fst.length : Int) != (↑x.snd.fst.length : Int)) = true → false = decide (x.fst = x.snd.fst)) ∧
 (((↑x.fst.length : Int) != (↑x.snd.fst.length : Int)) = false →
 ((((0 : Int) ≤ (0 : Int) ∧
 (0 : Int) ≤ (↑x.fst.length : Int) ∧ List.take (Int.toNat (0 : Int)) x.fst = List.take (Int.toNat (0 : Int)) x.snd.fst) ∧
 True) ∧
 (x.fst = x.fst ∧ x.snd.fst = x.snd.fst ∧ (↑x.fst.length : Int) = (↑x.fst.length : Int) ∧ (0 : Int) = (0 : Int) ∧ True) ∧ True ∧ True) ∧
 ∀ (g : Int × Unit),
 (0 : Int) ≤ g.fst ∧ g.fst ≤ (↑x.fst.length : Int) ∧ List.take g.fst.toNat x.fst = List.take g.fst.toNat x.snd.fst →
 ((-9223372036854775808 : Int) ≤ g.fst ∧ g.fst ≤ (9223372036854775807 : Int)) ∧ True →
 (decide (g.fst < (↑x.fst.length : Int)) = true →
 ((0 : Int) ≤ g.fst ∧ g.fst < (↑x.fst.length : Int)) ∧
 ((0 : Int) ≤ g.fst ∧ g.fst < (↑x.snd.fst.length : Int)) ∧
 ((!deq ((Ty.int IntKind.i64).pair (Ty.int IntKind.i64))
 ((x.fst.getD g.fst.toNat ((0 : Int), (0 : Int))).fst, (x.fst.getD g.fst.toNat ((0 : Int), (0 : Int))).snd)
 ((x.snd.fst.getD g.fst.toNat ((0 : Int), (0 : Int))).fst, (x.snd.fst.getD g.fst.toNat ((0 : Int), (0 : Int))).snd)) =
 true →
 false = decide (x.fst = x.snd.fst)) ∧
 ((!deq ((Ty.int IntKind.i64).pair (Ty.int IntKind.i64))
 ((x.fst.getD g.fst.toNat ((0 : Int), (0 : Int))).fst, (x.fst.getD g.fst.toNat ((0 : Int), (0 : Int))).snd)
 ((x.snd.fst.getD g.fst.toNat ((0 : Int), (0 : Int))).fst, (x.snd.fst.getD g.fst.toNat ((0 : Int), (0 : Int))).snd)) =
 false →
 ((-9223372036854775808 : Int) ≤ g.fst + (1 : Int) ∧ g.fst + (1 : Int) ≤ (9223372036854775807 : Int)) ∧
 (((0 : Int) ≤ g.fst + (1 : Int) ∧
 g.fst + (1 : Int) ≤ (↑x.fst.length : Int) ∧
 List.take (g.fst + (1 : Int)).toNat x.fst = List.take (g.fst + (1 : Int)).toNat x.snd.fst) ∧
 ((↑x.fst.length : Int) - (g.fst + (1 : Int))).toNat < ((↑x.fst.length : Int) - g.fst).toNat) ∧
 (x.fst = x.fst ∧
 x.snd.fst = x.snd.fst ∧
 (↑x.fst.length : Int) = (↑x.fst.length : Int) ∧ g.fst + (1 : Int) = g.fst + (1 : Int) ∧ True) ∧
 True ∧ True)) ∧
 (decide (g.fst < (↑x.fst.length : Int)) = false → true = decide (x.fst = x.snd.fst)))

theorem E_eqS_eq (x : HL (cEqS : Ctr).as) : vc (fx_eqS x) 1 14 Tryd.f14 (cEqS) x = E_eqS x := by kernel_rfl

def E_eqE (x : List Int × List Int × Unit) : Prop :=
 (((↑x.fst.length : Int) != (↑x.snd.fst.length : Int)) = true → false = decide (x.fst = x.snd.fst)) ∧
 (((↑x.fst.length : Int) != (↑x.snd.fst.length : Int)) = false →
 ((((0 : Int) ≤ (0 : Int) ∧
 (0 : Int) ≤ (↑x.fst.length : Int) ∧ List.take (Int.toNat (0 : Int)) x.fst = List.take (Int.toNat (0 : Int)) x.snd.fst) ∧
 True) ∧
 (x.fst = x.fst ∧ x.snd.fst = x.snd.fst ∧ (↑x.fst.length : Int) = (↑x.fst.length : Int) ∧ (0 : Int) = (0 : Int) ∧ True) ∧ True ∧ True) ∧
 ∀ (g : Int × Unit),
 (0 : Int) ≤ g.fst ∧ g.fst ≤ (↑x.fst.length : Int) ∧ List.take g.fst.toNat x.fst = List.take g.fst.toNat x.snd.fst →
 ((-9223372036854775808 : Int) ≤ g.fst ∧ g.fst ≤ (9223372036854775807 : Int)) ∧ True →
 (decide (g.fst < (↑x.fst.length : Int)) = true →
 ((0 : Int) ≤ g.fst ∧ g.fst < (↑x.fst.length : Int)) ∧
 ((0 : Int) ≤ g.fst ∧ g.fst < (↑x.snd.fst.length : Int)) ∧
 ((x.fst.getD g.fst.toNat (0 : Int) != x.snd.fst.getD g.fst.toNat (0 : Int)) = true → false = decide (x.fst = x.snd.fst)) ∧
 ((x.fst.getD g.fst.toNat (0 : Int) != x.snd.fst.getD g.fst.toNat (0 : Int)) = false →
 ((-9223372036854775808 : Int) ≤ g.fst + (1 : Int) ∧ g.fst + (1 : Int) ≤ (9223372036854775807 : Int)) ∧
 (((0 : Int) ≤ g.fst + (1 : Int) ∧
 g.fst + (1 : Int) ≤ (↑x.fst.length : Int) ∧
 List.take (g.fst + (1 : Int)).toNat x.fst = List.take (g.fst + (1 : Int)).toNat x.snd.fst) ∧
 ((↑x.fst.length : Int) - (g.fst + (1 : Int))).toNat < ((↑x.fst.length : Int) - g.fst).toNat) ∧
 (x.fst = x.fst ∧
 x.snd.fst = x.snd.fst ∧
 (↑x.fst.length : Int) = (↑x.fst.length : Int) ∧ g.fst + (1 : Int) = g.fst + (1 : Int) ∧ True) ∧
 True ∧ True)) ∧
 (decide (g.fst < (↑x.fst.length : Int)) = false → true = decide (x.fst = x.snd.fst)))

theorem E_eqE_eq (x : HL (cEqI : Ctr).as) : vc (fx_eqE x) 1 13 Tryd.f13 (cEqI) x = E_eqE x := by kernel_rfl

def E_vplay (x : Int × Int × List (Int × Int × Int) × Unit) : Prop :=
 ((!decide (x.1 < (1 : Int))) = true → (!decide (x.1 < (1 : Int))) = true) ∧
 (decide (x.1 < (1 : Int)) = false → (!decide (x.1 < (1 : Int))) = true) ∧
 ((!(decide (x.1 < (1 : Int)) || decide ((8 : Int) < x.1))) = true → (!(decide (x.1 < (1 : Int)) || decide ((8 : Int) < x.1))) = true) ∧
 ((decide (x.1 < (1 : Int)) || decide ((8 : Int) < x.1)) = false → (!(decide (x.1 < (1 : Int)) || decide ((8 : Int) < x.1))) = true) ∧
 ((!(decide (x.1 < (1 : Int)) || decide ((8 : Int) < x.1) || decide (x.2.1 < (0 : Int)))) = true →
 (!(decide (x.1 < (1 : Int)) || decide ((8 : Int) < x.1) || decide (x.2.1 < (0 : Int)))) = true) ∧
 ((decide (x.1 < (1 : Int)) || decide ((8 : Int) < x.1) || decide (x.2.1 < (0 : Int))) = false →
 (!(decide (x.1 < (1 : Int)) || decide ((8 : Int) < x.1) || decide (x.2.1 < (0 : Int)))) = true) ∧
 ((decide (x.1 < (1 : Int)) || decide ((8 : Int) < x.1) || decide (x.2.1 < (0 : Int)) || decide ((2000 : Int) < x.2.1)) =
 true →
 ([] : List Int) = (playV x).1 ∧ ([] : List (Int × Int)) = (playV x).2.1 ∧ (2 : Int) = (playV x).2.2.1) ∧
 ((decide (x.1 < (1 : Int)) || decide ((8 : Int) < x.1) || decide (x.2.1 < (0 : Int)) || decide ((2000 : Int) < x.2.1)) =
 false →
 (((0 : Int) ≤ x.2.1 ∧ x.2.1 ≤ x.2.1) ∧
 x.2.1 * (↑(16 : Nat) : Int) ≤ (140737488355328 : Int) ∧ x.2.1 ≤ (9223372036854775807 : Int)) ∧
 (((0 : Int) ≤ x.1 ∧ x.1 ≤ x.1) ∧
 x.1 * (↑(32 : Nat) : Int) ≤ (140737488355328 : Int) ∧ x.1 ≤ (9223372036854775807 : Int)) ∧
 ((((0 : Int) ≤ (0 : Int) ∧
 (0 : Int) ≤ (↑x.2.2.1.length : Int) ∧
 plV x.1 x.2.1 (List.take (Int.toNat (0 : Int)) x.2.2.1) =
 (List.replicate x.2.1.toNat ((0 : Int), (0 : Int)), ([] : List Int)) ∧
 (↑([] : List Int).length : Int) = (0 : Int) ∧
 RelV x.1 (List.replicate x.2.1.toNat ((0 : Int), (0 : Int)))
 (List.replicate x.1.toNat ((0 : Int) :: (0 : Int) :: (0 : Int) :: (0 : Int) :: ([] : List Int)))) ∧
 True) ∧
 ((True ∧ True) ∧
 True ∧
 x.2.2.1 = x.2.2.1 ∧
 (↑x.2.2.1.length : Int) = (↑x.2.2.1.length : Int) ∧ (0 : Int) = (0 : Int) ∧ True) ∧
 ((x.1 = x.1 ∧ True ∧ True ∧ True) ∧
 List.replicate x.2.1.toNat ((0 : Int), (0 : Int)) = List.replicate x.2.1.toNat ((0 : Int), (0 : Int)) ∧
 List.replicate x.1.toNat ((0 : Int) :: (0 : Int) :: (0 : Int) :: (0 : Int) :: ([] : List Int)) =
 List.replicate x.1.toNat ((0 : Int) :: (0 : Int) :: (0 : Int) :: (0 : Int) :: ([] : List Int)) ∧
 ([] : List Int) = ([] : List Int) ∧ True) ∧
 True) ∧
 ∀ (g : (Unit × List (Int × Int) × List (List Int)) × List Int × Int × Unit),
 (0 : Int) ≤ g.2.2.1 ∧
 g.2.2.1 ≤ (↑x.2.2.1.length : Int) ∧
 plV x.1 x.2.1 (List.take g.2.2.1.toNat x.2.2.1) = (g.1.2.1, g.2.1) ∧
 (↑g.2.1.length : Int) = g.2.2.1 ∧ RelV x.1 g.1.2.1 g.1.2.2 →
 (True ∧
 (g.1.2.1.length ≤ (9223372036854775807 : Nat) ∧
 ∀ (x : Int × Int),
 x ∈ g.1.2.1 →
 ((-9223372036854775808 : Int) ≤ x.1 ∧ x.1 ≤ (9223372036854775807 : Int)) ∧
 (-9223372036854775808 : Int) ≤ x.2 ∧ x.2 ≤ (9223372036854775807 : Int)) ∧
 g.1.2.2.length ≤ (9223372036854775807 : Nat) ∧
 ∀ (x : List Int),
 x ∈ g.1.2.2 →
 x.length = (4 : Nat) ∧ ∀ (x_1 : Int), x_1 ∈ x → (0 : Int) ≤ x_1 ∧ x_1 ≤ (18446744073709551615 : Int)) ∧
 (g.2.1.length ≤ (9223372036854775807 : Nat) ∧
 ∀ (x : Int), x ∈ g.2.1 → (-9223372036854775808 : Int) ≤ x ∧ x ≤ (9223372036854775807 : Int)) ∧
 ((-9223372036854775808 : Int) ≤ g.2.2.1 ∧ g.2.2.1 ≤ (9223372036854775807 : Int)) ∧ True →
 (decide (g.2.2.1 < (↑x.2.2.1.length : Int)) = true →
 ((0 : Int) ≤ g.2.2.1 ∧ g.2.2.1 < (↑x.2.2.1.length : Int)) ∧
 ((!decide ((x.2.2.1.getD g.2.2.1.toNat ((0 : Int), (0 : Int), (0 : Int))).1 < (1 : Int))) = true →
 (!decide ((x.2.2.1.getD g.2.2.1.toNat ((0 : Int), (0 : Int), (0 : Int))).1 < (1 : Int))) = true) ∧
 ((!decide ((x.2.2.1.getD g.2.2.1.toNat ((0 : Int), (0 : Int), (0 : Int))).1 < (1 : Int))) = true →
 (!decide ((x.2.2.1.getD g.2.2.1.toNat ((0 : Int), (0 : Int), (0 : Int))).1 < (1 : Int))) =
 true) ∧
 (decide ((x.2.2.1.getD g.2.2.1.toNat ((0 : Int), (0 : Int), (0 : Int))).1 < (1 : Int)) = false →
 (!decide ((x.2.2.1.getD g.2.2.1.toNat ((0 : Int), (0 : Int), (0 : Int))).1 < (1 : Int))) =
 true) ∧
 ((decide ((x.2.2.1.getD g.2.2.1.toNat ((0 : Int), (0 : Int), (0 : Int))).1 < (1 : Int)) ||
 decide ((3 : Int) < (x.2.2.1.getD g.2.2.1.toNat ((0 : Int), (0 : Int), (0 : Int))).1)) =
 true →
 (g.2.1.length + (((0 : Int) :: ([] : List Int)).set (0 : Nat) (5 : Int)).length ≤
 (9223372036854775807 : Nat) ∧
 (g.2.1.length + (((0 : Int) :: ([] : List Int)).set (0 : Nat) (5 : Int)).length +
 (g.2.1.length + (((0 : Int) :: ([] : List Int)).set (0 : Nat) (5 : Int)).length) /
 (4 : Nat) +
 (192 : Nat)) *
 (8 : Nat) ≤
 (281474976710656 : Nat)) ∧
 ((-9223372036854775808 : Int) ≤ g.2.2.1 + (1 : Int) ∧
 g.2.2.1 + (1 : Int) ≤ (9223372036854775807 : Int)) ∧
 (((0 : Int) ≤ g.2.2.1 + (1 : Int) ∧
 g.2.2.1 + (1 : Int) ≤ (↑x.2.2.1.length : Int) ∧
 plV x.1 x.2.1 (List.take (g.2.2.1 + (1 : Int)).toNat x.2.2.1) =
 (g.1.2.1, g.2.1 ++ ((0 : Int) :: ([] : List Int)).set (0 : Nat) (5 : Int)) ∧
 (↑(g.2.1 ++ ((0 : Int) :: ([] : List Int)).set (0 : Nat) (5 : Int)).length : Int) =
 g.2.2.1 + (1 : Int) ∧
 RelV x.1 g.1.2.1 g.1.2.2) ∧
 ((↑x.2.2.1.length : Int) - (g.2.2.1 + (1 : Int))).toNat <
 ((↑x.2.2.1.length : Int) - g.2.2.1).toNat) ∧
 ((True ∧ True) ∧
 True ∧
 x.2.2.1 = x.2.2.1 ∧
 (↑x.2.2.1.length : Int) = (↑x.2.2.1.length : Int) ∧
 g.2.2.1 + (1 : Int) = g.2.2.1 + (1 : Int) ∧ True) ∧
 ((x.1 = x.1 ∧ True ∧ True ∧ True) ∧
 g.1.2.1 = g.1.2.1 ∧
 g.1.2.2 = g.1.2.2 ∧
 g.2.1 ++ ((0 : Int) :: ([] : List Int)).set (0 : Nat) (5 : Int) =
 g.2.1 ++ ((0 : Int) :: ([] : List Int)).set (0 : Nat) (5 : Int) ∧
 True) ∧
 True) ∧
 ((decide ((x.2.2.1.getD g.2.2.1.toNat ((0 : Int), (0 : Int), (0 : Int))).1 < (1 : Int)) ||
 decide ((3 : Int) < (x.2.2.1.getD g.2.2.1.toNat ((0 : Int), (0 : Int), (0 : Int))).1)) =
 false →
 (decide ((x.2.2.1.getD g.2.2.1.toNat ((0 : Int), (0 : Int), (0 : Int))).2.1 < (0 : Int)) =
 false →
 (decide
 ((↑g.1.2.1.length : Int) ≤
 (x.2.2.1.getD g.2.2.1.toNat ((0 : Int), (0 : Int), (0 : Int))).2.1) =
 true →
 (g.2.1.length + (((0 : Int) :: ([] : List Int)).set (0 : Nat) (2 : Int)).length ≤
 (9223372036854775807 : Nat) ∧
 (g.2.1.length + (((0 : Int) :: ([] : List Int)).set (0 : Nat) (2 : Int)).length +
 (g.2.1.length + (((0 : Int) :: ([] : List Int)).set (0 : Nat) (2 : Int)).length) /
 (4 : Nat) +
 (192 : Nat)) *
 (8 : Nat) ≤
 (281474976710656 : Nat)) ∧
 ((-9223372036854775808 : Int) ≤ g.2.2.1 + (1 : Int) ∧
 g.2.2.1 + (1 : Int) ≤ (9223372036854775807 : Int)) ∧
 (((0 : Int) ≤ g.2.2.1 + (1 : Int) ∧
 g.2.2.1 + (1 : Int) ≤ (↑x.2.2.1.length : Int) ∧
 plV x.1 x.2.1 (List.take (g.2.2.1 + (1 : Int)).toNat x.2.2.1) =
 (g.1.2.1,
 g.2.1 ++ ((0 : Int) :: ([] : List Int)).set (0 : Nat) (2 : Int)) ∧
 (↑(g.2.1 ++ ((0 : Int) :: ([] : List Int)).set (0 : Nat) (2 : Int)).length :
 Int) =
 g.2.2.1 + (1 : Int) ∧
 RelV x.1 g.1.2.1 g.1.2.2) ∧
 ((↑x.2.2.1.length : Int) - (g.2.2.1 + (1 : Int))).toNat <
 ((↑x.2.2.1.length : Int) - g.2.2.1).toNat) ∧
 ((True ∧ True) ∧
 True ∧
 x.2.2.1 = x.2.2.1 ∧
 (↑x.2.2.1.length : Int) = (↑x.2.2.1.length : Int) ∧
 g.2.2.1 + (1 : Int) = g.2.2.1 + (1 : Int) ∧ True) ∧
 ((x.1 = x.1 ∧ True ∧ True ∧ True) ∧
 g.1.2.1 = g.1.2.1 ∧
 g.1.2.2 = g.1.2.2 ∧
 g.2.1 ++ ((0 : Int) :: ([] : List Int)).set (0 : Nat) (2 : Int) =
 g.2.1 ++ ((0 : Int) :: ([] : List Int)).set (0 : Nat) (2 : Int) ∧
 True) ∧
 True) ∧
 (decide
 ((↑g.1.2.1.length : Int) ≤
 (x.2.2.1.getD g.2.2.1.toNat ((0 : Int), (0 : Int), (0 : Int))).2.1) =
 false →
 ((0 : Int) ≤ (x.2.2.1.getD g.2.2.1.toNat ((0 : Int), (0 : Int), (0 : Int))).2.1 ∧
 (x.2.2.1.getD g.2.2.1.toNat ((0 : Int), (0 : Int), (0 : Int))).2.1 <
 (↑g.1.2.1.length : Int)) ∧
 ((((x.2.2.1.getD g.2.2.1.toNat ((0 : Int), (0 : Int), (0 : Int))).1 ==
 (1 : Int)) ==
 decide
 ((0 : Int) <
 (g.1.2.1.getD
 (x.2.2.1.getD g.2.2.1.toNat
 ((0 : Int), (0 : Int), (0 : Int))).2.1.toNat
 ((0 : Int), (0 : Int))).2)) =
 true →
 (((x.2.2.1.getD g.2.2.1.toNat ((0 : Int), (0 : Int), (0 : Int))).1 ==
 (1 : Int)) =
 true →
 (g.2.1.length + (((0 : Int) :: ([] : List Int)).set (0 : Nat) (6 : Int)).length ≤
 (9223372036854775807 : Nat) ∧
 (g.2.1.length +
 (((0 : Int) :: ([] : List Int)).set (0 : Nat) (6 : Int)).length +
 (g.2.1.length +
 (((0 : Int) :: ([] : List Int)).set (0 : Nat) (6 : Int)).length) /
 (4 : Nat) +
 (192 : Nat)) *
 (8 : Nat) ≤
 (281474976710656 : Nat)) ∧
 ((-9223372036854775808 : Int) ≤ g.2.2.1 + (1 : Int) ∧
 g.2.2.1 + (1 : Int) ≤ (9223372036854775807 : Int)) ∧
 (((0 : Int) ≤ g.2.2.1 + (1 : Int) ∧
 g.2.2.1 + (1 : Int) ≤ (↑x.2.2.1.length : Int) ∧
 plV x.1 x.2.1
 (List.take (g.2.2.1 + (1 : Int)).toNat x.2.2.1) =
 (g.1.2.1,
 g.2.1 ++ ((0 : Int) :: ([] : List Int)).set (0 : Nat) (6 : Int)) ∧
 (↑(g.2.1 ++
 ((0 : Int) :: ([] : List Int)).set (0 : Nat)
 (6 : Int)).length :
 Int) =
 g.2.2.1 + (1 : Int) ∧
 RelV x.1 g.1.2.1 g.1.2.2) ∧
 ((↑x.2.2.1.length : Int) - (g.2.2.1 + (1 : Int))).toNat <
 ((↑x.2.2.1.length : Int) - g.2.2.1).toNat) ∧
 ((True ∧ True) ∧
 True ∧
 x.2.2.1 = x.2.2.1 ∧
 (↑x.2.2.1.length : Int) = (↑x.2.2.1.length : Int) ∧
 g.2.2.1 + (1 : Int) = g.2.2.1 + (1 : Int) ∧ True) ∧
 ((x.1 = x.1 ∧ True ∧ True ∧ True) ∧
 g.1.2.1 = g.1.2.1 ∧
 g.1.2.2 = g.1.2.2 ∧
 g.2.1 ++ ((0 : Int) :: ([] : List Int)).set (0 : Nat) (6 : Int) =
 g.2.1 ++
 ((0 : Int) :: ([] : List Int)).set (0 : Nat) (6 : Int) ∧
 True) ∧
 True) ∧
 (((x.2.2.1.getD g.2.2.1.toNat ((0 : Int), (0 : Int), (0 : Int))).1 ==
 (1 : Int)) =
 false →
 (g.2.1.length + (((0 : Int) :: ([] : List Int)).set (0 : Nat) (3 : Int)).length ≤
 (9223372036854775807 : Nat) ∧
 (g.2.1.length +
 (((0 : Int) :: ([] : List Int)).set (0 : Nat) (3 : Int)).length +
 (g.2.1.length +
 (((0 : Int) :: ([] : List Int)).set (0 : Nat) (3 : Int)).length) /
 (4 : Nat) +
 (192 : Nat)) *
 (8 : Nat) ≤
 (281474976710656 : Nat)) ∧
 ((-9223372036854775808 : Int) ≤ g.2.2.1 + (1 : Int) ∧
 g.2.2.1 + (1 : Int) ≤ (9223372036854775807 : Int)) ∧
 (((0 : Int) ≤ g.2.2.1 + (1 : Int) ∧
 g.2.2.1 + (1 : Int) ≤ (↑x.2.2.1.length : Int) ∧
 plV x.1 x.2.1
 (List.take (g.2.2.1 + (1 : Int)).toNat x.2.2.1) =
 (g.1.2.1,
 g.2.1 ++ ((0 : Int) :: ([] : List Int)).set (0 : Nat) (3 : Int)) ∧
 (↑(g.2.1 ++
 ((0 : Int) :: ([] : List Int)).set (0 : Nat)
 (3 : Int)).length :
 Int) =
 g.2.2.1 + (1 : Int) ∧
 RelV x.1 g.1.2.1 g.1.2.2) ∧
 ((↑x.2.2.1.length : Int) - (g.2.2.1 + (1 : Int))).toNat <
 ((↑x.2.2.1.length : Int) - g.2.2.1).toNat) ∧
 ((True ∧ True) ∧
 True ∧
 x.2.2.1 = x.2.2.1 ∧
 (↑x.2.2.1.length : Int) = (↑x.2.2.1.length : Int) ∧
 g.2.2.1 + (1 : Int) = g.2.2.1 + (1 : Int) ∧ True) ∧
 ((x.1 = x.1 ∧ True ∧ True ∧ True) ∧
 g.1.2.1 = g.1.2.1 ∧
 g.1.2.2 = g.1.2.2 ∧
 g.2.1 ++ ((0 : Int) :: ([] : List Int)).set (0 : Nat) (3 : Int) =
 g.2.1 ++
 ((0 : Int) :: ([] : List Int)).set (0 : Nat) (3 : Int) ∧
 True) ∧
 True)) ∧
 ((((x.2.2.1.getD g.2.2.1.toNat ((0 : Int), (0 : Int), (0 : Int))).1 ==
 (1 : Int)) ==
 decide
 ((0 : Int) <
 (g.1.2.1.getD
 (x.2.2.1.getD g.2.2.1.toNat
 ((0 : Int), (0 : Int), (0 : Int))).2.1.toNat
 ((0 : Int), (0 : Int))).2)) =
 false →
 (((x.2.2.1.getD g.2.2.1.toNat ((0 : Int), (0 : Int), (0 : Int))).1 ==
 (1 : Int)) =
 true →
 ((((0 : Int) ≤ (0 : Int) ∧
 (0 : Int) ≤ x.1 ∧
 (-1 : Int) =
 (bst
 (okc
 (x.2.2.1.getD g.2.2.1.toNat
 ((0 : Int), (0 : Int), (0 : Int))).2.2
 (Int.negSucc (nat_lit 0)))
 (ldT g.1.2.2) (Int.toNat (0 : Int))).1) ∧
 True) ∧
 ((True ∧ True) ∧
 (x.2.2.1.getD g.2.2.1.toNat
 ((0 : Int), (0 : Int), (0 : Int))).2.2 =
 (x.2.2.1.getD g.2.2.1.toNat
 ((0 : Int), (0 : Int), (0 : Int))).2.2 ∧
 (-1 : Int) = (-1 : Int) ∧
 (-1 : Int) = (-1 : Int) ∧ x.1 = x.1 ∧ (0 : Int) = (0 : Int) ∧ True) ∧
 ((x.1 = x.1 ∧ True ∧ True ∧ True) ∧
 g.1.2.1 = g.1.2.1 ∧
 g.1.2.2 = g.1.2.2 ∧
 ((x.2.2.1.getD g.2.2.1.toNat
 ((0 : Int), (0 : Int), (0 : Int))).1 =
 (x.2.2.1.getD g.2.2.1.toNat
 ((0 : Int), (0 : Int), (0 : Int))).1 ∧
 (x.2.2.1.getD g.2.2.1.toNat
 ((0 : Int), (0 : Int), (0 : Int))).2.1 =
 (x.2.2.1.getD g.2.2.1.toNat
 ((0 : Int), (0 : Int), (0 : Int))).2.1 ∧
 (x.2.2.1.getD g.2.2.1.toNat
 ((0 : Int), (0 : Int), (0 : Int))).2.2 =
 (x.2.2.1.getD g.2.2.1.toNat
 ((0 : Int), (0 : Int), (0 : Int))).2.2 ∧
 True) ∧
 g.2.1 = g.2.1 ∧
 ((x.2.2.1.getD g.2.2.1.toNat
 ((0 : Int), (0 : Int), (0 : Int))).1 =
 (x.2.2.1.getD g.2.2.1.toNat
 ((0 : Int), (0 : Int), (0 : Int))).1 ∧
 (x.2.2.1.getD g.2.2.1.toNat
 ((0 : Int), (0 : Int), (0 : Int))).2.1 =
 (x.2.2.1.getD g.2.2.1.toNat
 ((0 : Int), (0 : Int), (0 : Int))).2.1 ∧
 (x.2.2.1.getD g.2.2.1.toNat
 ((0 : Int), (0 : Int), (0 : Int))).2.2 =
 (x.2.2.1.getD g.2.2.1.toNat
 ((0 : Int), (0 : Int), (0 : Int))).2.2 ∧
 True) ∧
 True) ∧
 (True ∧ True) ∧
 ((x.2.2.1.getD g.2.2.1.toNat
 ((0 : Int), (0 : Int), (0 : Int))).1 =
 (x.2.2.1.getD g.2.2.1.toNat
 ((0 : Int), (0 : Int), (0 : Int))).1 ∧
 (x.2.2.1.getD g.2.2.1.toNat
 ((0 : Int), (0 : Int), (0 : Int))).2.1 =
 (x.2.2.1.getD g.2.2.1.toNat
 ((0 : Int), (0 : Int), (0 : Int))).2.1 ∧
 (x.2.2.1.getD g.2.2.1.toNat
 ((0 : Int), (0 : Int), (0 : Int))).2.2 =
 (x.2.2.1.getD g.2.2.1.toNat
 ((0 : Int), (0 : Int), (0 : Int))).2.2 ∧
 True) ∧
 True ∧
 (True ∧ True) ∧
 (0 : Int) = (0 : Int) ∧
 True ∧
 True ∧
 false = false ∧
 (True ∧ True) ∧
 (x.2.2.1.getD g.2.2.1.toNat
 ((0 : Int), (0 : Int), (0 : Int))).1 =
 (x.2.2.1.getD g.2.2.1.toNat
 ((0 : Int), (0 : Int), (0 : Int))).1 ∧
 decide
 ((x.2.2.1.getD g.2.2.1.toNat
 ((0 : Int), (0 : Int), (0 : Int))).1 <
 (1 : Int)) =
 decide
 ((x.2.2.1.getD g.2.2.1.toNat
 ((0 : Int), (0 : Int), (0 : Int))).1 <
 (1 : Int)) ∧
 decide
 ((x.2.2.1.getD g.2.2.1.toNat
 ((0 : Int), (0 : Int), (0 : Int))).1 <
 (1 : Int)) =
 decide
 ((x.2.2.1.getD g.2.2.1.toNat
 ((0 : Int), (0 : Int), (0 : Int))).1 <
 (1 : Int)) ∧
 True ∧
 True ∧
 True ∧
 (decide
 ((x.2.2.1.getD g.2.2.1.toNat
 ((0 : Int), (0 : Int),
 (0 : Int))).1 <
 (1 : Int)) ||
 decide
 ((3 : Int) <
 (x.2.2.1.getD g.2.2.1.toNat
 ((0 : Int), (0 : Int),
 (0 : Int))).1)) =
 (decide
 ((x.2.2.1.getD g.2.2.1.toNat
 ((0 : Int), (0 : Int),
 (0 : Int))).1 <
 (1 : Int)) ||
 decide
 ((3 : Int) <
 (x.2.2.1.getD g.2.2.1.toNat
 ((0 : Int), (0 : Int),
 (0 : Int))).1)) ∧
 false = false ∧
 (True ∧ True) ∧
 (x.2.2.1.getD g.2.2.1.toNat
 ((0 : Int), (0 : Int),
 (0 : Int))).2.1 =
 (x.2.2.1.getD g.2.2.1.toNat
 ((0 : Int), (0 : Int),
 (0 : Int))).2.1 ∧
 decide
 ((x.2.2.1.getD
 g.2.2.1.toNat
 ((0 : Int), (0 : Int),
 (0 : Int))).2.1 <
 (0 : Int)) =
 decide
 ((x.2.2.1.getD
 g.2.2.1.toNat
 ((0 : Int), (0 : Int),
 (0 : Int))).2.1 <
 (0 : Int)) ∧
 false = false ∧
 (True ∧ True) ∧
 (x.2.2.1.getD
 g.2.2.1.toNat
 ((0 : Int), (0 : Int),
 (0 : Int))).2.1 =
 (x.2.2.1.getD
 g.2.2.1.toNat
 ((0 : Int), (0 : Int),
 (0 : Int))).2.1 ∧
 (True ∧ True) ∧
 (True ∧ True) ∧
 (True ∧ True) ∧
 True ∧
 (↑g.1.2.1.length :
 Int) =
 (↑g.1.2.1.length :
 Int) ∧
 decide
 ((↑g.1.2.1.length :
 Int) ≤
 (x.2.2.1.getD
 g.2.2.1.toNat
 ((0 :
 Int),
 (0 :
 Int),
 (0 :
 Int))).2.1) =
 decide
 ((↑g.1.2.1.length :
 Int) ≤
 (x.2.2.1.getD
 g.2.2.1.toNat
 ((0 :
 Int),
 (0 :
 Int),
 (0 :
 Int))).2.1) ∧
 decide
 ((↑g.1.2.1.length :
 Int) ≤
 (x.2.2.1.getD
 g.2.2.1.toNat
 ((0 :
 Int),
 (0 :
 Int),
 (0 :
 Int))).2.1) =
 decide
 ((↑g.1.2.1.length :
 Int) ≤
 (x.2.2.1.getD
 g.2.2.1.toNat
 ((0 :
 Int),
 (0 :
 Int),
 (0 :
 Int))).2.1) ∧
 false = false ∧
 (True ∧ True) ∧
 (x.2.2.1.getD
 g.2.2.1.toNat
 ((0 :
 Int),
 (0 :
 Int),
 (0 :
 Int))).1 =
 (x.2.2.1.getD
 g.2.2.1.toNat
 ((0 :
 Int),
 (0 :
 Int),
 (0 :
 Int))).1 ∧
 ((x.2.2.1.getD
 g.2.2.1.toNat
 ((0 :
 Int),
 (0 :
 Int),
 (0 :
 Int))).1 ==
 (1 :
 Int)) =
 ((x.2.2.1.getD
 g.2.2.1.toNat
 ((0 :
 Int),
 (0 :
 Int),
 (0 :
 Int))).1 ==
 (1 :
 Int)) ∧
 (True ∧
 True) ∧
 (True ∧
 True) ∧
 (True ∧
 True) ∧
 True ∧
 (True ∧
 True) ∧
 (x.2.2.1.getD
 g.2.2.1.toNat
 ((0 :
 Int),
 (0 :
 Int),
 (0 :
 Int))).2.1 =
 (x.2.2.1.getD
 g.2.2.1.toNat
 ((0 :
 Int),
 (0 :
 Int),
 (0 :
 Int))).2.1 ∧
 ((True ∧
 True ∧
 True) ∧
 (x.2.2.1.getD
 g.2.2.1.toNat
 ((0 :
 Int),
 (0 :
 Int),
 (0 :
 Int))).2.1.toNat =
 (x.2.2.1.getD
 g.2.2.1.toNat
 ((0 :
 Int),
 (0 :
 Int),
 (0 :
 Int))).2.1.toNat) ∧
 ((True ∧
 True ∧
 True) ∧
 (x.2.2.1.getD
 g.2.2.1.toNat
 ((0 :
 Int),
 (0 :
 Int),
 (0 :
 Int))).2.1.toNat =
 (x.2.2.1.getD
 g.2.2.1.toNat
 ((0 :
 Int),
 (0 :
 Int),
 (0 :
 Int))).2.1.toNat) ∧
 (g.1.2.1.getD
 (x.2.2.1.getD
 g.2.2.1.toNat
 ((0 :
 Int),
 (0 :
 Int),
 (0 :
 Int))).2.1.toNat
 ((0 :
 Int),
 (0 :
 Int))).2 =
 (g.1.2.1.getD
 (x.2.2.1.getD
 g.2.2.1.toNat
 ((0 :
 Int),
 (0 :
 Int),
 (0 :
 Int))).2.1.toNat
 ((0 :
 Int),
 (0 :
 Int))).2 ∧
 decide
 ((0 :
 Int) <
 (g.1.2.1.getD
 (x.2.2.1.getD
 g.2.2.1.toNat
 ((0 :
 Int),
 (0 :
 Int),
 (0 :
 Int))).2.1.toNat
 ((0 :
 Int),
 (0 :
 Int))).2) =
 decide
 ((0 :
 Int) <
 (g.1.2.1.getD
 (x.2.2.1.getD
 g.2.2.1.toNat
 ((0 :
 Int),
 (0 :
 Int),
 (0 :
 Int))).2.1.toNat
 ((0 :
 Int),
 (0 :
 Int))).2) ∧
 (((x.2.2.1.getD
 g.2.2.1.toNat
 ((0 :
 Int),
 (0 :
 Int),
 (0 :
 Int))).1 ==
 (1 :
 Int)) ==
 decide
 ((0 :
 Int) <
 (g.1.2.1.getD
 (x.2.2.1.getD
 g.2.2.1.toNat
 ((0 :
 Int),
 (0 :
 Int),
 (0 :
 Int))).2.1.toNat
 ((0 :
 Int),
 (0 :
 Int))).2)) =
 (((x.2.2.1.getD
 g.2.2.1.toNat
 ((0 :
 Int),
 (0 :
 Int),
 (0 :
 Int))).1 ==
 (1 :
 Int)) ==
 decide
 ((0 :
 Int) <
 (g.1.2.1.getD
 (x.2.2.1.getD
 g.2.2.1.toNat
 ((0 :
 Int),
 (0 :
 Int),
 (0 :
 Int))).2.1.toNat
 ((0 :
 Int),
 (0 :
 Int))).2)) ∧
 True ∧
 True ∧
 True ∧
 (True ∧
 True) ∧
 (x.2.2.1.getD
 g.2.2.1.toNat
 ((0 :
 Int),
 (0 :
 Int),
 (0 :
 Int))).1 =
 (x.2.2.1.getD
 g.2.2.1.toNat
 ((0 :
 Int),
 (0 :
 Int),
 (0 :
 Int))).1 ∧
 true =
 true ∧
 ((x.2.2.1.getD
 g.2.2.1.toNat
 ((0 :
 Int),
 (0 :
 Int),
 (0 :
 Int))).1 ==
 (1 :
 Int)) =
 ((x.2.2.1.getD
 g.2.2.1.toNat
 ((0 :
 Int),
 (0 :
 Int),
 (0 :
 Int))).1 ==
 (1 :
 Int)) ∧
 (True ∧
 True) ∧
 (True ∧
 True) ∧
 (x.2.2.1.getD
 g.2.2.1.toNat
 ((0 :
 Int),
 (0 :
 Int),
 (0 :
 Int))).2.2 =
 (x.2.2.1.getD
 g.2.2.1.toNat
 ((0 :
 Int),
 (0 :
 Int),
 (0 :
 Int))).2.2 ∧
 True ∧
 True ∧
 True ∧
 True ∧
 True ∧
 True ∧
 True ∧
 True ∧
 True ∧
 True ∧
 True ∧
 True ∧
 True ∧
 True ∧
 True ∧
 True ∧
 True ∧
 True ∧
 True ∧
 True ∧
 True ∧
 True ∧
 True ∧
 True ∧
 True ∧
 True ∧
 True ∧
 True ∧
 True ∧
 True ∧
 True ∧
 True ∧
 True ∧
 True ∧
 True ∧
 True ∧
 True ∧
 True ∧
 True ∧
 True ∧
 True ∧
 True ∧
 True ∧
 True ∧
 True ∧
 True ∧
 True ∧
 True ∧
 True ∧
 (True ∧
 True) ∧
 True ∧
 True ∧
 (True ∧
 True) ∧
 True ∧
 True ∧
 True ∧
 True ∧
 True ∧
 True ∧
 True ∧
 True ∧
 True ∧
 True ∧
 True ∧
 True ∧
 True ∧
 True ∧
 True ∧
 True ∧
 True ∧
 True ∧
 True ∧
 True ∧
 True ∧
 x.2.2.1 =
 x.2.2.1 ∧
 (↑x.2.2.1.length :
 Int) =
 (↑x.2.2.1.length :
 Int) ∧
 g.2.2.1 =
 g.2.2.1 ∧
 true =
 true ∧
 True ∧
 ((x.2.2.1.getD
 g.2.2.1.toNat
 ((0 :
 Int),
 (0 :
 Int),
 (0 :
 Int))).1 =
 (x.2.2.1.getD
 g.2.2.1.toNat
 ((0 :
 Int),
 (0 :
 Int),
 (0 :
 Int))).1 ∧
 (x.2.2.1.getD
 g.2.2.1.toNat
 ((0 :
 Int),
 (0 :
 Int),
 (0 :
 Int))).2.1 =
 (x.2.2.1.getD
 g.2.2.1.toNat
 ((0 :
 Int),
 (0 :
 Int),
 (0 :
 Int))).2.1 ∧
 (x.2.2.1.getD
 g.2.2.1.toNat
 ((0 :
 Int),
 (0 :
 Int),
 (0 :
 Int))).2.2 =
 (x.2.2.1.getD
 g.2.2.1.toNat
 ((0 :
 Int),
 (0 :
 Int),
 (0 :
 Int))).2.2 ∧
 True) ∧
 True ∧
 (True ∧
 True) ∧
 ((x.2.2.1.getD
 g.2.2.1.toNat
 ((0 :
 Int),
 (0 :
 Int),
 (0 :
 Int))).1 =
 (x.2.2.1.getD
 g.2.2.1.toNat
 ((0 :
 Int),
 (0 :
 Int),
 (0 :
 Int))).1 ∧
 (x.2.2.1.getD
 g.2.2.1.toNat
 ((0 :
 Int),
 (0 :
 Int),
 (0 :
 Int))).2.1 =
 (x.2.2.1.getD
 g.2.2.1.toNat
 ((0 :
 Int),
 (0 :
 Int),
 (0 :
 Int))).2.1 ∧
 (x.2.2.1.getD
 g.2.2.1.toNat
 ((0 :
 Int),
 (0 :
 Int),
 (0 :
 Int))).2.2 =
 (x.2.2.1.getD
 g.2.2.1.toNat
 ((0 :
 Int),
 (0 :
 Int),
 (0 :
 Int))).2.2 ∧
 True) ∧
 True ∧
 True ∧
 True ∧
 True ∧
 True ∧
 True ∧
 True ∧
 True ∧
 True ∧
 True ∧
 True) ∧
 ∀ (g_1 : Int × Int × Unit),
 (0 : Int) ≤ g_1.2.1 ∧
 g_1.2.1 ≤ x.1 ∧
 g_1.1 =
 (bst
 (okc
 (x.2.2.1.getD g.2.2.1.toNat
 ((0 : Int), (0 : Int), (0 : Int))).2.2
 (Int.negSucc (nat_lit 0)))
 (ldT g.1.2.2) g_1.2.1.toNat).1 →
 ((-9223372036854775808 : Int) ≤ g_1.1 ∧ g_1.1 ≤ (9223372036854775807 : Int)) ∧
 ((-9223372036854775808 : Int) ≤ g_1.2.1 ∧
 g_1.2.1 ≤ (9223372036854775807 : Int)) ∧
 True →
 (decide (g_1.2.1 < x.1) = true →
 (0 : Int) ≤ g_1.2.1 ∧
 ((bits BinOp.and IntKind.i64
 ((x.2.2.1.getD g.2.2.1.toNat
 ((0 : Int), (0 : Int), (0 : Int))).2.2 /
 (2 : Int) ^ min g_1.2.1.toNat IntKind.i64.bits)
 (1 : Int) ==
 (1 : Int)) =
 true →
 (bits BinOp.and IntKind.i64
 ((x.2.2.1.getD g.2.2.1.toNat
 ((0 : Int), (0 : Int), (0 : Int))).2.2 /
 (2 : Int) ^ min g_1.2.1.toNat IntKind.i64.bits)
 (1 : Int) ==
 (1 : Int)) =
 true ∧
 (bits BinOp.and IntKind.i64
 ((x.2.2.1.getD g.2.2.1.toNat
 ((0 : Int), (0 : Int), (0 : Int))).2.2 /
 (2 : Int) ^ min g_1.2.1.toNat IntKind.i64.bits)
 (1 : Int) ==
 (1 : Int)) =
 true) ∧
 ((bits BinOp.and IntKind.i64
 ((x.2.2.1.getD g.2.2.1.toNat
 ((0 : Int), (0 : Int), (0 : Int))).2.2 /
 (2 : Int) ^ min g_1.2.1.toNat IntKind.i64.bits)
 (1 : Int) ==
 (1 : Int)) =
 true →
 (bits BinOp.and IntKind.i64
 ((x.2.2.1.getD g.2.2.1.toNat
 ((0 : Int), (0 : Int), (0 : Int))).2.2 /
 (2 : Int) ^ min g_1.2.1.toNat IntKind.i64.bits)
 (1 : Int) ==
 (1 : Int)) =
 true) ∧
 ((bits BinOp.and IntKind.i64
 ((x.2.2.1.getD g.2.2.1.toNat
 ((0 : Int), (0 : Int), (0 : Int))).2.2 /
 (2 : Int) ^ min g_1.2.1.toNat IntKind.i64.bits)
 (1 : Int) ==
 (1 : Int) &&
 g_1.2.1 != (-1 : Int)) =
 true →
 ((bits BinOp.and IntKind.i64
 ((x.2.2.1.getD g.2.2.1.toNat
 ((0 : Int), (0 : Int), (0 : Int))).2.2 /
 (2 : Int) ^ min g_1.2.1.toNat IntKind.i64.bits)
 (1 : Int) ==
 (1 : Int) &&
 g_1.2.1 != (-1 : Int)) =
 true ∧
 (bits BinOp.and IntKind.i64
 ((x.2.2.1.getD g.2.2.1.toNat
 ((0 : Int), (0 : Int), (0 : Int))).2.2 /
 (2 : Int) ^ min g_1.2.1.toNat IntKind.i64.bits)
 (1 : Int) ==
 (1 : Int) &&
 g_1.2.1 != (-1 : Int)) =
 true) ∧
 ((0 : Int) ≤ g_1.2.1 ∧
 g_1.2.1 < (↑g.1.2.2.length : Int)) ∧
 Holds True ∧
 (decide
 ((↑(allOf
 (g.1.2.2.getD g_1.2.1.toNat
 ((0 : Int) ::
 (0 : Int) ::
 (0 : Int) ::
 (0 : Int) ::
 ([] : List Int)))).length :
 Int) <
 (224 : Int)) =
 true →
 (decide (g_1.1 < (0 : Int)) = false →
 ((!decide (g_1.1 < (0 : Int))) = true ∧
 (!decide (g_1.1 < (0 : Int))) = true) ∧
 ((0 : Int) ≤ g_1.2.1 ∧
 g_1.2.1 < (↑g.1.2.2.length : Int)) ∧
 Holds True ∧
 ((0 : Int) ≤ g_1.1 ∧
 g_1.1 < (↑g.1.2.2.length : Int)) ∧
 Holds True ∧
 (decide
 ((↑(allOf
 (g.1.2.2.getD
 g_1.2.1.toNat
 ((0 : Int) ::
 (0 : Int) ::
 (0 : Int) ::
 (0 : Int) ::
 ([] :
 List
 Int)))).length :
 Int) <
 (↑(allOf
 (g.1.2.2.getD
 g_1.1.toNat
 ((0 : Int) ::
 (0 : Int) ::
 (0 : Int) ::
 (0 : Int) ::
 ([] :
 List
 Int)))).length :
 Int)) =
 true →
 ((-9223372036854775808 : Int) ≤
 g_1.2.1 + (1 : Int) ∧
 g_1.2.1 + (1 : Int) ≤
 (9223372036854775807 : Int)) ∧
 (((0 : Int) ≤
 g_1.2.1 + (1 : Int) ∧
 g_1.2.1 + (1 : Int) ≤
 x.1 ∧
 g_1.2.1 =
 (bst
 (okc
 (x.2.2.1.getD
 g.2.2.1.toNat
 ((0 : Int),
 (0 : Int),
 (0 :
 Int))).2.2
 (Int.negSucc
 (nat_lit 0)))
 (ldT g.1.2.2)
 (g_1.2.1 +
 (1 :
 Int)).toNat).1) ∧
 (x.1 -
 (g_1.2.1 +
 (1 : Int))).toNat <
 (x.1 - g_1.2.1).toNat) ∧
 ((True ∧ True) ∧
 (x.2.2.1.getD
 g.2.2.1.toNat
 ((0 : Int),
 (0 : Int),
 (0 :
 Int))).2.2 =
 (x.2.2.1.getD
 g.2.2.1.toNat
 ((0 : Int),
 (0 : Int),
 (0 :
 Int))).2.2 ∧
 (-1 : Int) = (-1 : Int) ∧
 g_1.2.1 =
 g_1.2.1 ∧
 x.1 = x.1 ∧
 g_1.2.1 +
 (1 : Int) =
 g_1.2.1 +
 (1 : Int) ∧
 True) ∧
 ((x.1 = x.1 ∧
 True ∧ True ∧ True) ∧
 g.1.2.1 =
 g.1.2.1 ∧
 g.1.2.2 =
 g.1.2.2 ∧
 ((x.2.2.1.getD
 g.2.2.1.toNat
 ((0 : Int),
 (0 : Int),
 (0 :
 Int))).1 =
 (x.2.2.1.getD
 g.2.2.1.toNat
 ((0 : Int),
 (0 : Int),
 (0 :
 Int))).1 ∧
 (x.2.2.1.getD
 g.2.2.1.toNat
 ((0 :
 Int),
 (0 :
 Int),
 (0 :
 Int))).2.1 =
 (x.2.2.1.getD
 g.2.2.1.toNat
 ((0 :
 Int),
 (0 :
 Int),
 (0 :
 Int))).2.1 ∧
 (x.2.2.1.getD
 g.2.2.1.toNat
 ((0 :
 Int),
 (0 :
 Int),
 (0 :
 Int))).2.2 =
 (x.2.2.1.getD
 g.2.2.1.toNat
 ((0 :
 Int),
 (0 :
 Int),
 (0 :
 Int))).2.2 ∧
 True) ∧
 g.2.1 =
 g.2.1 ∧
 ((x.2.2.1.getD
 g.2.2.1.toNat
 ((0 :
 Int),
 (0 :
 Int),
 (0 :
 Int))).1 =
 (x.2.2.1.getD
 g.2.2.1.toNat
 ((0 :
 Int),
 (0 :
 Int),
 (0 :
 Int))).1 ∧
 (x.2.2.1.getD
 g.2.2.1.toNat
 ((0 :
 Int),
 (0 :
 Int),
 (0 :
 Int))).2.1 =
 (x.2.2.1.getD
 g.2.2.1.toNat
 ((0 :
 Int),
 (0 :
 Int),
 (0 :
 Int))).2.1 ∧
 (x.2.2.1.getD
 g.2.2.1.toNat
 ((0 :
 Int),
 (0 :
 Int),
 (0 :
 Int))).2.2 =
 (x.2.2.1.getD
 g.2.2.1.toNat
 ((0 :
 Int),
 (0 :
 Int),
 (0 :
 Int))).2.2 ∧
 True) ∧
 True) ∧
 (True ∧ True) ∧
 ((x.2.2.1.getD
 g.2.2.1.toNat
 ((0 : Int),
 (0 : Int),
 (0 :
 Int))).1 =
 (x.2.2.1.getD
 g.2.2.1.toNat
 ((0 : Int),
 (0 : Int),
 (0 :
 Int))).1 ∧
 (x.2.2.1.getD
 g.2.2.1.toNat
 ((0 : Int),
 (0 : Int),
 (0 :
 Int))).2.1 =
 (x.2.2.1.getD
 g.2.2.1.toNat
 ((0 : Int),
 (0 : Int),
 (0 :
 Int))).2.1 ∧
 (x.2.2.1.getD
 g.2.2.1.toNat
 ((0 : Int),
 (0 : Int),
 (0 :
 Int))).2.2 =
 (x.2.2.1.getD
 g.2.2.1.toNat
 ((0 : Int),
 (0 : Int),
 (0 :
 Int))).2.2 ∧
 True) ∧
 True ∧
 (True ∧ True) ∧
 (0 : Int) =
 (0 : Int) ∧
 True ∧
 True ∧
 false = false ∧
 (True ∧
 True) ∧
 (x.2.2.1.getD
 g.2.2.1.toNat
 ((0 :
 Int),
 (0 :
 Int),
 (0 :
 Int))).1 =
 (x.2.2.1.getD
 g.2.2.1.toNat
 ((0 :
 Int),
 (0 :
 Int),
 (0 :
 Int))).1 ∧
 decide
 ((x.2.2.1.getD
 g.2.2.1.toNat
 ((0 :
 Int),
 (0 :
 Int),
 (0 :
 Int))).1 <
 (1 :
 Int)) =
 decide
 ((x.2.2.1.getD
 g.2.2.1.toNat
 ((0 :
 Int),
 (0 :
 Int),
 (0 :
 Int))).1 <
 (1 :
 Int)) ∧
 decide
 ((x.2.2.1.getD
 g.2.2.1.toNat
 ((0 :
 Int),
 (0 :
 Int),
 (0 :
 Int))).1 <
 (1 :
 Int)) =
 decide
 ((x.2.2.1.getD
 g.2.2.1.toNat
 ((0 :
 Int),
 (0 :
 Int),
 (0 :
 Int))).1 <
 (1 :
 Int)) ∧
 True ∧
 True ∧
 True ∧
 (decide
 ((x.2.2.1.getD
 g.2.2.1.toNat
 ((0 :
 Int),
 (0 :
 Int),
 (0 :
 Int))).1 <
 (1 :
 Int)) ||
 decide
 ((3 :
 Int) <
 (x.2.2.1.getD
 g.2.2.1.toNat
 ((0 :
 Int),
 (0 :
 Int),
 (0 :
 Int))).1)) =
 (decide
 ((x.2.2.1.getD
 g.2.2.1.toNat
 ((0 :
 Int),
 (0 :
 Int),
 (0 :
 Int))).1 <
 (1 :
 Int)) ||
 decide
 ((3 :
 Int) <
 (x.2.2.1.getD
 g.2.2.1.toNat
 ((0 :
 Int),
 (0 :
 Int),
 (0 :
 Int))).1)) ∧
 false =
 false ∧
 (True ∧
 True) ∧
 (x.2.2.1.getD
 g.2.2.1.toNat
 ((0 :
 Int),
 (0 :
 Int),
 (0 :
 Int))).2.1 =
 (x.2.2.1.getD
 g.2.2.1.toNat
 ((0 :
 Int),
 (0 :
 Int),
 (0 :
 Int))).2.1 ∧
 decide
 ((x.2.2.1.getD
 g.2.2.1.toNat
 ((0 :
 Int),
 (0 :
 Int),
 (0 :
 Int))).2.1 <
 (0 :
 Int)) =
 decide
 ((x.2.2.1.getD
 g.2.2.1.toNat
 ((0 :
 Int),
 (0 :
 Int),
 (0 :
 Int))).2.1 <
 (0 :
 Int)) ∧
 false =
 false ∧
 (True ∧
 True) ∧
 (x.2.2.1.getD
 g.2.2.1.toNat
 ((0 :
 Int),
 (0 :
 Int),
 (0 :
 Int))).2.1 =
 (x.2.2.1.getD
 g.2.2.1.toNat
 ((0 :
 Int),
 (0 :
 Int),
 (0 :
 Int))).2.1 ∧
 (True ∧
 True) ∧
 (True ∧
 True) ∧
 (True ∧
 True) ∧
 True ∧
 (↑g.1.2.1.length :
 Int) =
 (↑g.1.2.1.length :
 Int) ∧
 decide
 ((↑g.1.2.1.length :
 Int) ≤
 (x.2.2.1.getD
 g.2.2.1.toNat
 ((0 :
 Int),
 (0 :
 Int),
 (0 :
 Int))).2.1) =
 decide
 ((↑g.1.2.1.length :
 Int) ≤
 (x.2.2.1.getD
 g.2.2.1.toNat
 ((0 :
 Int),
 (0 :
 Int),
 (0 :
 Int))).2.1) ∧
 decide
 ((↑g.1.2.1.length :
 Int) ≤
 (x.2.2.1.getD
 g.2.2.1.toNat
 ((0 :
 Int),
 (0 :
 Int),
 (0 :
 Int))).2.1) =
 decide
 ((↑g.1.2.1.length :
 Int) ≤
 (x.2.2.1.getD
 g.2.2.1.toNat
 ((0 :
 Int),
 (0 :
 Int),
 (0 :
 Int))).2.1) ∧
 false =
 false ∧
 (True ∧
 True) ∧
 (x.2.2.1.getD
 g.2.2.1.toNat
 ((0 :
 Int),
 (0 :
 Int),
 (0 :
 Int))).1 =
 (x.2.2.1.getD
 g.2.2.1.toNat
 ((0 :
 Int),
 (0 :
 Int),
 (0 :
 Int))).1 ∧
 ((x.2.2.1.getD
 g.2.2.1.toNat
 ((0 :
 Int),
 (0 :
 Int),
 (0 :
 Int))).1 ==
 (1 :
 Int)) =
 ((x.2.2.1.getD
 g.2.2.1.toNat
 ((0 :
 Int),
 (0 :
 Int),
 (0 :
 Int))).1 ==
 (1 :
 Int)) ∧
 (True ∧
 True) ∧
 (True ∧
 True) ∧
 (True ∧
 True) ∧
 True ∧
 (True ∧
 True) ∧
 (x.2.2.1.getD
 g.2.2.1.toNat
 ((0 :
 Int),
 (0 :
 Int),
 (0 :
 Int))).2.1 =
 (x.2.2.1.getD
 g.2.2.1.toNat
 ((0 :
 Int),
 (0 :
 Int),
 (0 :
 Int))).2.1 ∧
 ((True ∧
 True ∧
 True) ∧
 (x.2.2.1.getD
 g.2.2.1.toNat
 ((0 :
 Int),
 (0 :
 Int),
 (0 :
 Int))).2.1.toNat =
 (x.2.2.1.getD
 g.2.2.1.toNat
 ((0 :
 Int),
 (0 :
 Int),
 (0 :
 Int))).2.1.toNat) ∧
 ((True ∧
 True ∧
 True) ∧
 (x.2.2.1.getD
 g.2.2.1.toNat
 ((0 :
 Int),
 (0 :
 Int),
 (0 :
 Int))).2.1.toNat =
 (x.2.2.1.getD
 g.2.2.1.toNat
 ((0 :
 Int),
 (0 :
 Int),
 (0 :
 Int))).2.1.toNat) ∧
 (g.1.2.1.getD
 (x.2.2.1.getD
 g.2.2.1.toNat
 ((0 :
 Int),
 (0 :
 Int),
 (0 :
 Int))).2.1.toNat
 ((0 :
 Int),
 (0 :
 Int))).2 =
 (g.1.2.1.getD
 (x.2.2.1.getD
 g.2.2.1.toNat
 ((0 :
 Int),
 (0 :
 Int),
 (0 :
 Int))).2.1.toNat
 ((0 :
 Int),
 (0 :
 Int))).2 ∧
 decide
 ((0 :
 Int) <
 (g.1.2.1.getD
 (x.2.2.1.getD
 g.2.2.1.toNat
 ((0 :
 Int),
 (0 :
 Int),
 (0 :
 Int))).2.1.toNat
 ((0 :
 Int),
 (0 :
 Int))).2) =
 decide
 ((0 :
 Int) <
 (g.1.2.1.getD
 (x.2.2.1.getD
 g.2.2.1.toNat
 ((0 :
 Int),
 (0 :
 Int),
 (0 :
 Int))).2.1.toNat
 ((0 :
 Int),
 (0 :
 Int))).2) ∧
 (((x.2.2.1.getD
 g.2.2.1.toNat
 ((0 :
 Int),
 (0 :
 Int),
 (0 :
 Int))).1 ==
 (1 :
 Int)) ==
 decide
 ((0 :
 Int) <
 (g.1.2.1.getD
 (x.2.2.1.getD
 g.2.2.1.toNat
 ((0 :
 Int),
 (0 :
 Int),
 (0 :
 Int))).2.1.toNat
 ((0 :
 Int),
 (0 :
 Int))).2)) =
 (((x.2.2.1.getD
 g.2.2.1.toNat
 ((0 :
 Int),
 (0 :
 Int),
 (0 :
 Int))).1 ==
 (1 :
 Int)) ==
 decide
 ((0 :
 Int) <
 (g.1.2.1.getD
 (x.2.2.1.getD
 g.2.2.1.toNat
 ((0 :
 Int),
 (0 :
 Int),
 (0 :
 Int))).2.1.toNat
 ((0 :
 Int),
 (0 :
 Int))).2)) ∧
 True ∧
 True ∧
 True ∧
 (True ∧
 True) ∧
 (x.2.2.1.getD
 g.2.2.1.toNat
 ((0 :
 Int),
 (0 :
 Int),
 (0 :
 Int))).1 =
 (x.2.2.1.getD
 g.2.2.1.toNat
 ((0 :
 Int),
 (0 :
 Int),
 (0 :
 Int))).1 ∧
 true =
 true ∧
 ((x.2.2.1.getD
 g.2.2.1.toNat
 ((0 :
 Int),
 (0 :
 Int),
 (0 :
 Int))).1 ==
 (1 :
 Int)) =
 ((x.2.2.1.getD
 g.2.2.1.toNat
 ((0 :
 Int),
 (0 :
 Int),
 (0 :
 Int))).1 ==
 (1 :
 Int)) ∧
 (True ∧
 True) ∧
 (True ∧
 True) ∧
 (x.2.2.1.getD
 g.2.2.1.toNat
 ((0 :
 Int),
 (0 :
 Int),
 (0 :
 Int))).2.2 =
 (x.2.2.1.getD
 g.2.2.1.toNat
 ((0 :
 Int),
 (0 :
 Int),
 (0 :
 Int))).2.2 ∧
 True ∧
 True ∧
 True ∧
 True ∧
 True ∧
 True ∧
 True ∧
 True ∧
 True ∧
 True ∧
 True ∧
 True ∧
 True ∧
 True ∧
 True ∧
 True ∧
 True ∧
 True ∧
 True ∧
 True ∧
 True ∧
 True ∧
 True ∧
 True ∧
 True ∧
 True ∧
 True ∧
 True ∧
 True ∧
 True ∧
 True ∧
 True ∧
 True ∧
 True ∧
 True ∧
 True ∧
 True ∧
 True ∧
 True ∧
 True ∧
 True ∧
 True ∧
 True ∧
 True ∧
 True ∧
 True ∧
 True ∧
 True ∧
 True ∧
 (True ∧
 True) ∧
 True ∧
 True ∧
 (True ∧
 True) ∧
 True ∧
 True ∧
 True ∧
 True ∧
 True ∧
 True ∧
 True ∧
 True ∧
 True ∧
 True ∧
 True ∧
 True ∧
 True ∧
 True ∧
 True ∧
 True ∧
 True ∧
 True ∧
 True ∧
 True ∧
 True ∧
 x.2.2.1 =
 x.2.2.1 ∧
 (↑x.2.2.1.length :
 Int) =
 (↑x.2.2.1.length :
 Int) ∧
 g.2.2.1 =
 g.2.2.1 ∧
 true =
 true ∧
 True ∧
 ((x.2.2.1.getD
 g.2.2.1.toNat
 ((0 :
 Int),
 (0 :
 Int),
 (0 :
 Int))).1 =
 (x.2.2.1.getD
 g.2.2.1.toNat
 ((0 :
 Int),
 (0 :
 Int),
 (0 :
 Int))).1 ∧
 (x.2.2.1.getD
 g.2.2.1.toNat
 ((0 :
 Int),
 (0 :
 Int),
 (0 :
 Int))).2.1 =
 (x.2.2.1.getD
 g.2.2.1.toNat
 ((0 :
 Int),
 (0 :
 Int),
 (0 :
 Int))).2.1 ∧
 (x.2.2.1.getD
 g.2.2.1.toNat
 ((0 :
 Int),
 (0 :
 Int),
 (0 :
 Int))).2.2 =
 (x.2.2.1.getD
 g.2.2.1.toNat
 ((0 :
 Int),
 (0 :
 Int),
 (0 :
 Int))).2.2 ∧
 True) ∧
 True ∧
 (True ∧
 True) ∧
 ((x.2.2.1.getD
 g.2.2.1.toNat
 ((0 :
 Int),
 (0 :
 Int),
 (0 :
 Int))).1 =
 (x.2.2.1.getD
 g.2.2.1.toNat
 ((0 :
 Int),
 (0 :
 Int),
 (0 :
 Int))).1 ∧
 (x.2.2.1.getD
 g.2.2.1.toNat
 ((0 :
 Int),
 (0 :
 Int),
 (0 :
 Int))).2.1 =
 (x.2.2.1.getD
 g.2.2.1.toNat
 ((0 :
 Int),
 (0 :
 Int),
 (0 :
 Int))).2.1 ∧
 (x.2.2.1.getD
 g.2.2.1.toNat
 ((0 :
 Int),
 (0 :
 Int),
 (0 :
 Int))).2.2 =
 (x.2.2.1.getD
 g.2.2.1.toNat
 ((0 :
 Int),
 (0 :
 Int),
 (0 :
 Int))).2.2 ∧
 True) ∧
 True ∧
 True ∧
 True ∧
 True ∧
 True ∧
 True ∧
 True ∧
 True ∧
 True ∧
 True ∧
 True) ∧
 (decide
 ((↑(allOf
 (g.1.2.2.getD
 g_1.2.1.toNat
 ((0 : Int) ::
 (0 : Int) ::
 (0 : Int) ::
 (0 : Int) ::
 ([] :
 List
 Int)))).length :
 Int) <
 (↑(allOf
 (g.1.2.2.getD
 g_1.1.toNat
 ((0 : Int) ::
 (0 : Int) ::
 (0 : Int) ::
 (0 : Int) ::
 ([] :
 List
 Int)))).length :
 Int)) =
 false →
 ((-9223372036854775808 : Int) ≤
 g_1.2.1 + (1 : Int) ∧
 g_1.2.1 + (1 : Int) ≤
 (9223372036854775807 : Int)) ∧
 (((0 : Int) ≤
 g_1.2.1 + (1 : Int) ∧
 g_1.2.1 + (1 : Int) ≤
 x.1 ∧
 g_1.1 =
 (bst
 (okc
 (x.2.2.1.getD
 g.2.2.1.toNat
 ((0 : Int),
 (0 : Int),
 (0 :
 Int))).2.2
 (Int.negSucc
 (nat_lit 0)))
 (ldT g.1.2.2)
 (g_1.2.1 +
 (1 :
 Int)).toNat).1) ∧
 (x.1 -
 (g_1.2.1 +
 (1 : Int))).toNat <
 (x.1 - g_1.2.1).toNat) ∧
 ((True ∧ True) ∧
 (x.2.2.1.getD
 g.2.2.1.toNat
 ((0 : Int),
 (0 : Int),
 (0 :
 Int))).2.2 =
 (x.2.2.1.getD
 g.2.2.1.toNat
 ((0 : Int),
 (0 : Int),
 (0 :
 Int))).2.2 ∧
 (-1 : Int) = (-1 : Int) ∧
 g_1.1 = g_1.1 ∧
 x.1 = x.1 ∧
 g_1.2.1 +
 (1 : Int) =
 g_1.2.1 +
 (1 : Int) ∧
 True) ∧
 ((x.1 = x.1 ∧
 True ∧ True ∧ True) ∧
 g.1.2.1 =
 g.1.2.1 ∧
 g.1.2.2 =
 g.1.2.2 ∧
 ((x.2.2.1.getD
 g.2.2.1.toNat
 ((0 : Int),
 (0 : Int),
 (0 :
 Int))).1 =
 (x.2.2.1.getD
 g.2.2.1.toNat
 ((0 : Int),
 (0 : Int),
 (0 :
 Int))).1 ∧
 (x.2.2.1.getD
 g.2.2.1.toNat
 ((0 :
 Int),
 (0 :
 Int),
 (0 :
 Int))).2.1 =
 (x.2.2.1.getD
 g.2.2.1.toNat
 ((0 :
 Int),
 (0 :
 Int),
 (0 :
 Int))).2.1 ∧
 (x.2.2.1.getD
 g.2.2.1.toNat
 ((0 :
 Int),
 (0 :
 Int),
 (0 :
 Int))).2.2 =
 (x.2.2.1.getD
 g.2.2.1.toNat
 ((0 :
 Int),
 (0 :
 Int),
 (0 :
 Int))).2.2 ∧
 True) ∧
 g.2.1 =
 g.2.1 ∧
 ((x.2.2.1.getD
 g.2.2.1.toNat
 ((0 :
 Int),
 (0 :
 Int),
 (0 :
 Int))).1 =
 (x.2.2.1.getD
 g.2.2.1.toNat
 ((0 :
 Int),
 (0 :
 Int),
 (0 :
 Int))).1 ∧
 (x.2.2.1.getD
 g.2.2.1.toNat
 ((0 :
 Int),
 (0 :
 Int),
 (0 :
 Int))).2.1 =
 (x.2.2.1.getD
 g.2.2.1.toNat
 ((0 :
 Int),
 (0 :
 Int),
 (0 :
 Int))).2.1 ∧
 (x.2.2.1.getD
 g.2.2.1.toNat
 ((0 :
 Int),
 (0 :
 Int),
 (0 :
 Int))).2.2 =
 (x.2.2.1.getD
 g.2.2.1.toNat
 ((0 :
 Int),
 (0 :
 Int),
 (0 :
 Int))).2.2 ∧
 True) ∧
 True) ∧
 (True ∧ True) ∧
 ((x.2.2.1.getD
 g.2.2.1.toNat
 ((0 : Int),
 (0 : Int),
 (0 :
 Int))).1 =
 (x.2.2.1.getD
 g.2.2.1.toNat
 ((0 : Int),
 (0 : Int),
 (0 :
 Int))).1 ∧
 (x.2.2.1.getD
 g.2.2.1.toNat
 ((0 : Int),
 (0 : Int),
 (0 :
 Int))).2.1 =
 (x.2.2.1.getD
 g.2.2.1.toNat
 ((0 : Int),
 (0 : Int),
 (0 :
 Int))).2.1 ∧
 (x.2.2.1.getD
 g.2.2.1.toNat
 ((0 : Int),
 (0 : Int),
 (0 :
 Int))).2.2 =
 (x.2.2.1.getD
 g.2.2.1.toNat
 ((0 : Int),
 (0 : Int),
 (0 :
 Int))).2.2 ∧
 True) ∧
 True ∧
 (True ∧ True) ∧
 (0 : Int) =
 (0 : Int) ∧
 True ∧
 True ∧
 false = false ∧
 (True ∧
 True) ∧
 (x.2.2.1.getD
 g.2.2.1.toNat
 ((0 :
 Int),
 (0 :
 Int),
 (0 :
 Int))).1 =
 (x.2.2.1.getD
 g.2.2.1.toNat
 ((0 :
 Int),
 (0 :
 Int),
 (0 :
 Int))).1 ∧
 decide
 ((x.2.2.1.getD
 g.2.2.1.toNat
 ((0 :
 Int),
 (0 :
 Int),
 (0 :
 Int))).1 <
 (1 :
 Int)) =
 decide
 ((x.2.2.1.getD
 g.2.2.1.toNat
 ((0 :
 Int),
 (0 :
 Int),
 (0 :
 Int))).1 <
 (1 :
 Int)) ∧
 decide
 ((x.2.2.1.getD
 g.2.2.1.toNat
 ((0 :
 Int),
 (0 :
 Int),
 (0 :
 Int))).1 <
 (1 :
 Int)) =
 decide
 ((x.2.2.1.getD
 g.2.2.1.toNat
 ((0 :
 Int),
 (0 :
 Int),
 (0 :
 Int))).1 <
 (1 :
 Int)) ∧
 True ∧
 True ∧
 True ∧
 (decide
 ((x.2.2.1.getD
 g.2.2.1.toNat
 ((0 :
 Int),
 (0 :
 Int),
 (0 :
 Int))).1 <
 (1 :
 Int)) ||
 decide
 ((3 :
 Int) <
 (x.2.2.1.getD
 g.2.2.1.toNat
 ((0 :
 Int),
 (0 :
 Int),
 (0 :
 Int))).1)) =
 (decide
 ((x.2.2.1.getD
 g.2.2.1.toNat
 ((0 :
 Int),
 (0 :
 Int),
 (0 :
 Int))).1 <
 (1 :
 Int)) ||
 decide
 ((3 :
 Int) <
 (x.2.2.1.getD
 g.2.2.1.toNat
 ((0 :
 Int),
 (0 :
 Int),
 (0 :
 Int))).1)) ∧
 false =
 false ∧
 (True ∧
 True) ∧
 (x.2.2.1.getD
 g.2.2.1.toNat
 ((0 :
 Int),
 (0 :
 Int),
 (0 :
 Int))).2.1 =
 (x.2.2.1.getD
 g.2.2.1.toNat
 ((0 :
 Int),
 (0 :
 Int),
 (0 :
 Int))).2.1 ∧
 decide
 ((x.2.2.1.getD
 g.2.2.1.toNat
 ((0 :
 Int),
 (0 :
 Int),
 (0 :
 Int))).2.1 <
 (0 :
 Int)) =
 decide
 ((x.2.2.1.getD
 g.2.2.1.toNat
 ((0 :
 Int),
 (0 :
 Int),
 (0 :
 Int))).2.1 <
 (0 :
 Int)) ∧
 false =
 false ∧
 (True ∧
 True) ∧
 (x.2.2.1.getD
 g.2.2.1.toNat
 ((0 :
 Int),
 (0 :
 Int),
 (0 :
 Int))).2.1 =
 (x.2.2.1.getD
 g.2.2.1.toNat
 ((0 :
 Int),
 (0 :
 Int),
 (0 :
 Int))).2.1 ∧
 (True ∧
 True) ∧
 (True ∧
 True) ∧
 (True ∧
 True) ∧
 True ∧
 (↑g.1.2.1.length :
 Int) =
 (↑g.1.2.1.length :
 Int) ∧
 decide
 ((↑g.1.2.1.length :
 Int) ≤
 (x.2.2.1.getD
 g.2.2.1.toNat
 ((0 :
 Int),
 (0 :
 Int),
 (0 :
 Int))).2.1) =
 decide
 ((↑g.1.2.1.length :
 Int) ≤
 (x.2.2.1.getD
 g.2.2.1.toNat
 ((0 :
 Int),
 (0 :
 Int),
 (0 :
 Int))).2.1) ∧
 decide
 ((↑g.1.2.1.length :
 Int) ≤
 (x.2.2.1.getD
 g.2.2.1.toNat
 ((0 :
 Int),
 (0 :
 Int),
 (0 :
 Int))).2.1) =
 decide
 ((↑g.1.2.1.length :
 Int) ≤
 (x.2.2.1.getD
 g.2.2.1.toNat
 ((0 :
 Int),
 (0 :
 Int),
 (0 :
 Int))).2.1) ∧
 false =
 false ∧
 (True ∧
 True) ∧
 (x.2.2.1.getD
 g.2.2.1.toNat
 ((0 :
 Int),
 (0 :
 Int),
 (0 :
 Int))).1 =
 (x.2.2.1.getD
 g.2.2.1.toNat
 ((0 :
 Int),
 (0 :
 Int),
 (0 :
 Int))).1 ∧
 ((x.2.2.1.getD
 g.2.2.1.toNat
 ((0 :
 Int),
 (0 :
 Int),
 (0 :
 Int))).1 ==
 (1 :
 Int)) =
 ((x.2.2.1.getD
 g.2.2.1.toNat
 ((0 :
 Int),
 (0 :
 Int),
 (0 :
 Int))).1 ==
 (1 :
 Int)) ∧
 (True ∧
 True) ∧
 (True ∧
 True) ∧
 (True ∧
 True) ∧
 True ∧
 (True ∧
 True) ∧
 (x.2.2.1.getD
 g.2.2.1.toNat
 ((0 :
 Int),
 (0 :
 Int),
 (0 :
 Int))).2.1 =
 (x.2.2.1.getD
 g.2.2.1.toNat
 ((0 :
 Int),
 (0 :
 Int),
 (0 :
 Int))).2.1 ∧
 ((True ∧
 True ∧
 True) ∧
 (x.2.2.1.getD
 g.2.2.1.toNat
 ((0 :
 Int),
 (0 :
 Int),
 (0 :
 Int))).2.1.toNat =
 (x.2.2.1.getD
 g.2.2.1.toNat
 ((0 :
 Int),
 (0 :
 Int),
 (0 :
 Int))).2.1.toNat) ∧
 ((True ∧
 True ∧
 True) ∧
 (x.2.2.1.getD
 g.2.2.1.toNat
 ((0 :
 Int),
 (0 :
 Int),
 (0 :
 Int))).2.1.toNat =
 (x.2.2.1.getD
 g.2.2.1.toNat
 ((0 :
 Int),
 (0 :
 Int),
 (0 :
 Int))).2.1.toNat) ∧
 (g.1.2.1.getD
 (x.2.2.1.getD
 g.2.2.1.toNat
 ((0 :
 Int),
 (0 :
 Int),
 (0 :
 Int))).2.1.toNat
 ((0 :
 Int),
 (0 :
 Int))).2 =
 (g.1.2.1.getD
 (x.2.2.1.getD
 g.2.2.1.toNat
 ((0 :
 Int),
 (0 :
 Int),
 (0 :
 Int))).2.1.toNat
 ((0 :
 Int),
 (0 :
 Int))).2 ∧
 decide
 ((0 :
 Int) <
 (g.1.2.1.getD
 (x.2.2.1.getD
 g.2.2.1.toNat
 ((0 :
 Int),
 (0 :
 Int),
 (0 :
 Int))).2.1.toNat
 ((0 :
 Int),
 (0 :
 Int))).2) =
 decide
 ((0 :
 Int) <
 (g.1.2.1.getD
 (x.2.2.1.getD
 g.2.2.1.toNat
 ((0 :
 Int),
 (0 :
 Int),
 (0 :
 Int))).2.1.toNat
 ((0 :
 Int),
 (0 :
 Int))).2) ∧
 (((x.2.2.1.getD
 g.2.2.1.toNat
 ((0 :
 Int),
 (0 :
 Int),
 (0 :
 Int))).1 ==
 (1 :
 Int)) ==
 decide
 ((0 :
 Int) <
 (g.1.2.1.getD
 (x.2.2.1.getD
 g.2.2.1.toNat
 ((0 :
 Int),
 (0 :
 Int),
 (0 :
 Int))).2.1.toNat
 ((0 :
 Int),
 (0 :
 Int))).2)) =
 (((x.2.2.1.getD
 g.2.2.1.toNat
 ((0 :
 Int),
 (0 :
 Int),
 (0 :
 Int))).1 ==
 (1 :
 Int)) ==
 decide
 ((0 :
 Int) <
 (g.1.2.1.getD
 (x.2.2.1.getD
 g.2.2.1.toNat
 ((0 :
 Int),
 (0 :
 Int),
 (0 :
 Int))).2.1.toNat
 ((0 :
 Int),
 (0 :
 Int))).2)) ∧
 True ∧
 True ∧
 True ∧
 (True ∧
 True) ∧
 (x.2.2.1.getD
 g.2.2.1.toNat
 ((0 :
 Int),
 (0 :
 Int),
 (0 :
 Int))).1 =
 (x.2.2.1.getD
 g.2.2.1.toNat
 ((0 :
 Int),
 (0 :
 Int),
 (0 :
 Int))).1 ∧
 true =
 true ∧
 ((x.2.2.1.getD
 g.2.2.1.toNat
 ((0 :
 Int),
 (0 :
 Int),
 (0 :
 Int))).1 ==
 (1 :
 Int)) =
 ((x.2.2.1.getD
 g.2.2.1.toNat
 ((0 :
 Int),
 (0 :
 Int),
 (0 :
 Int))).1 ==
 (1 :
 Int)) ∧
 (True ∧
 True) ∧
 (True ∧
 True) ∧
 (x.2.2.1.getD
 g.2.2.1.toNat
 ((0 :
 Int),
 (0 :
 Int),
 (0 :
 Int))).2.2 =
 (x.2.2.1.getD
 g.2.2.1.toNat
 ((0 :
 Int),
 (0 :
 Int),
 (0 :
 Int))).2.2 ∧
 True ∧
 True ∧
 True ∧
 True ∧
 True ∧
 True ∧
 True ∧
 True ∧
 True ∧
 True ∧
 True ∧
 True ∧
 True ∧
 True ∧
 True ∧
 True ∧
 True ∧
 True ∧
 True ∧
 True ∧
 True ∧
 True ∧
 True ∧
 True ∧
 True ∧
 True ∧
 True ∧
 True ∧
 True ∧
 True ∧
 True ∧
 True ∧
 True ∧
 True ∧
 True ∧
 True ∧
 True ∧
 True ∧
 True ∧
 True ∧
 True ∧
 True ∧
 True ∧
 True ∧
 True ∧
 True ∧
 True ∧
 True ∧
 True ∧
 (True ∧
 True) ∧
 True ∧
 True ∧
 (True ∧
 True) ∧
 True ∧
 True ∧
 True ∧
 True ∧
 True ∧
 True ∧
 True ∧
 True ∧
 True ∧
 True ∧
 True ∧
 True ∧
 True ∧
 True ∧
 True ∧
 True ∧
 True ∧
 True ∧
 True ∧
 True ∧
 True ∧
 x.2.2.1 =
 x.2.2.1 ∧
 (↑x.2.2.1.length :
 Int) =
 (↑x.2.2.1.length :
 Int) ∧
 g.2.2.1 =
 g.2.2.1 ∧
 true =
 true ∧
 True ∧
 ((x.2.2.1.getD
 g.2.2.1.toNat
 ((0 :
 Int),
 (0 :
 Int),
 (0 :
 Int))).1 =
 (x.2.2.1.getD
 g.2.2.1.toNat
 ((0 :
 Int),
 (0 :
 Int),
 (0 :
 Int))).1 ∧
 (x.2.2.1.getD
 g.2.2.1.toNat
 ((0 :
 Int),
 (0 :
 Int),
 (0 :
 Int))).2.1 =
 (x.2.2.1.getD
 g.2.2.1.toNat
 ((0 :
 Int),
 (0 :
 Int),
 (0 :
 Int))).2.1 ∧
 (x.2.2.1.getD
 g.2.2.1.toNat
 ((0 :
 Int),
 (0 :
 Int),
 (0 :
 Int))).2.2 =
 (x.2.2.1.getD
 g.2.2.1.toNat
 ((0 :
 Int),
 (0 :
 Int),
 (0 :
 Int))).2.2 ∧
 True) ∧
 True ∧
 (True ∧
 True) ∧
 ((x.2.2.1.getD
 g.2.2.1.toNat
 ((0 :
 Int),
 (0 :
 Int),
 (0 :
 Int))).1 =
 (x.2.2.1.getD
 g.2.2.1.toNat
 ((0 :
 Int),
 (0 :
 Int),
 (0 :
 Int))).1 ∧
 (x.2.2.1.getD
 g.2.2.1.toNat
 ((0 :
 Int),
 (0 :
 Int),
 (0 :
 Int))).2.1 =
 (x.2.2.1.getD
 g.2.2.1.toNat
 ((0 :
 Int),
 (0 :
 Int),
 (0 :
 Int))).2.1 ∧
 (x.2.2.1.getD
 g.2.2.1.toNat
 ((0 :
 Int),
 (0 :
 Int),
 (0 :
 Int))).2.2 =
 (x.2.2.1.getD
 g.2.2.1.toNat
 ((0 :
 Int),
 (0 :
 Int),
 (0 :
 Int))).2.2 ∧
 True) ∧
 True ∧
 True ∧
 True ∧
 True ∧
 True ∧
 True ∧
 True ∧
 True ∧
 True ∧
 True ∧
 True)) ∧
 (decide (g_1.1 < (0 : Int)) = !false →
 ((-9223372036854775808 : Int) ≤
 g_1.2.1 + (1 : Int) ∧
 g_1.2.1 + (1 : Int) ≤
 (9223372036854775807 : Int)) ∧
 (((0 : Int) ≤ g_1.2.1 + (1 : Int) ∧
 g_1.2.1 + (1 : Int) ≤ x.1 ∧
 g_1.2.1 =
 (bst
 (okc
 (x.2.2.1.getD
 g.2.2.1.toNat
 ((0 : Int), (0 : Int),
 (0 : Int))).2.2
 (Int.negSucc (nat_lit 0)))
 (ldT g.1.2.2)
 (g_1.2.1 +
 (1 : Int)).toNat).1) ∧
 (x.1 - (g_1.2.1 + (1 : Int))).toNat <
 (x.1 - g_1.2.1).toNat) ∧
 ((True ∧ True) ∧
 (x.2.2.1.getD g.2.2.1.toNat
 ((0 : Int), (0 : Int),
 (0 : Int))).2.2 =
 (x.2.2.1.getD g.2.2.1.toNat
 ((0 : Int), (0 : Int),
 (0 : Int))).2.2 ∧
 (-1 : Int) = (-1 : Int) ∧
 g_1.2.1 = g_1.2.1 ∧
 x.1 = x.1 ∧
 g_1.2.1 + (1 : Int) =
 g_1.2.1 + (1 : Int) ∧
 True) ∧
 ((x.1 = x.1 ∧ True ∧ True ∧ True) ∧
 g.1.2.1 = g.1.2.1 ∧
 g.1.2.2 = g.1.2.2 ∧
 ((x.2.2.1.getD
 g.2.2.1.toNat
 ((0 : Int), (0 : Int),
 (0 : Int))).1 =
 (x.2.2.1.getD
 g.2.2.1.toNat
 ((0 : Int), (0 : Int),
 (0 : Int))).1 ∧
 (x.2.2.1.getD
 g.2.2.1.toNat
 ((0 : Int), (0 : Int),
 (0 : Int))).2.1 =
 (x.2.2.1.getD
 g.2.2.1.toNat
 ((0 : Int), (0 : Int),
 (0 : Int))).2.1 ∧
 (x.2.2.1.getD
 g.2.2.1.toNat
 ((0 : Int), (0 : Int),
 (0 :
 Int))).2.2 =
 (x.2.2.1.getD
 g.2.2.1.toNat
 ((0 : Int), (0 : Int),
 (0 :
 Int))).2.2 ∧
 True) ∧
 g.2.1 = g.2.1 ∧
 ((x.2.2.1.getD
 g.2.2.1.toNat
 ((0 : Int), (0 : Int),
 (0 : Int))).1 =
 (x.2.2.1.getD
 g.2.2.1.toNat
 ((0 : Int), (0 : Int),
 (0 : Int))).1 ∧
 (x.2.2.1.getD
 g.2.2.1.toNat
 ((0 : Int),
 (0 : Int),
 (0 :
 Int))).2.1 =
 (x.2.2.1.getD
 g.2.2.1.toNat
 ((0 : Int),
 (0 : Int),
 (0 :
 Int))).2.1 ∧
 (x.2.2.1.getD
 g.2.2.1.toNat
 ((0 : Int),
 (0 : Int),
 (0 :
 Int))).2.2 =
 (x.2.2.1.getD
 g.2.2.1.toNat
 ((0 : Int),
 (0 : Int),
 (0 :
 Int))).2.2 ∧
 True) ∧
 True) ∧
 (True ∧ True) ∧
 ((x.2.2.1.getD g.2.2.1.toNat
 ((0 : Int), (0 : Int),
 (0 : Int))).1 =
 (x.2.2.1.getD
 g.2.2.1.toNat
 ((0 : Int), (0 : Int),
 (0 : Int))).1 ∧
 (x.2.2.1.getD
 g.2.2.1.toNat
 ((0 : Int), (0 : Int),
 (0 : Int))).2.1 =
 (x.2.2.1.getD
 g.2.2.1.toNat
 ((0 : Int), (0 : Int),
 (0 : Int))).2.1 ∧
 (x.2.2.1.getD
 g.2.2.1.toNat
 ((0 : Int), (0 : Int),
 (0 : Int))).2.2 =
 (x.2.2.1.getD
 g.2.2.1.toNat
 ((0 : Int), (0 : Int),
 (0 : Int))).2.2 ∧
 True) ∧
 True ∧
 (True ∧ True) ∧
 (0 : Int) = (0 : Int) ∧
 True ∧
 True ∧
 false = false ∧
 (True ∧ True) ∧
 (x.2.2.1.getD
 g.2.2.1.toNat
 ((0 : Int),
 (0 : Int),
 (0 :
 Int))).1 =
 (x.2.2.1.getD
 g.2.2.1.toNat
 ((0 : Int),
 (0 : Int),
 (0 :
 Int))).1 ∧
 decide
 ((x.2.2.1.getD
 g.2.2.1.toNat
 ((0 : Int),
 (0 : Int),
 (0 :
 Int))).1 <
 (1 : Int)) =
 decide
 ((x.2.2.1.getD
 g.2.2.1.toNat
 ((0 : Int),
 (0 : Int),
 (0 :
 Int))).1 <
 (1 : Int)) ∧
 decide
 ((x.2.2.1.getD
 g.2.2.1.toNat
 ((0 :
 Int),
 (0 :
 Int),
 (0 :
 Int))).1 <
 (1 : Int)) =
 decide
 ((x.2.2.1.getD
 g.2.2.1.toNat
 ((0 :
 Int),
 (0 :
 Int),
 (0 :
 Int))).1 <
 (1 : Int)) ∧
 True ∧
 True ∧
 True ∧
 (decide
 ((x.2.2.1.getD
 g.2.2.1.toNat
 ((0 :
 Int),
 (0 :
 Int),
 (0 :
 Int))).1 <
 (1 :
 Int)) ||
 decide
 ((3 :
 Int) <
 (x.2.2.1.getD
 g.2.2.1.toNat
 ((0 :
 Int),
 (0 :
 Int),
 (0 :
 Int))).1)) =
 (decide
 ((x.2.2.1.getD
 g.2.2.1.toNat
 ((0 :
 Int),
 (0 :
 Int),
 (0 :
 Int))).1 <
 (1 :
 Int)) ||
 decide
 ((3 :
 Int) <
 (x.2.2.1.getD
 g.2.2.1.toNat
 ((0 :
 Int),
 (0 :
 Int),
 (0 :
 Int))).1)) ∧
 false =
 false ∧
 (True ∧
 True) ∧
 (x.2.2.1.getD
 g.2.2.1.toNat
 ((0 :
 Int),
 (0 :
 Int),
 (0 :
 Int))).2.1 =
 (x.2.2.1.getD
 g.2.2.1.toNat
 ((0 :
 Int),
 (0 :
 Int),
 (0 :
 Int))).2.1 ∧
 decide
 ((x.2.2.1.getD
 g.2.2.1.toNat
 ((0 :
 Int),
 (0 :
 Int),
 (0 :
 Int))).2.1 <
 (0 :
 Int)) =
 decide
 ((x.2.2.1.getD
 g.2.2.1.toNat
 ((0 :
 Int),
 (0 :
 Int),
 (0 :
 Int))).2.1 <
 (0 :
 Int)) ∧
 false =
 false ∧
 (True ∧
 True) ∧
 (x.2.2.1.getD
 g.2.2.1.toNat
 ((0 :
 Int),
 (0 :
 Int),
 (0 :
 Int))).2.1 =
 (x.2.2.1.getD
 g.2.2.1.toNat
 ((0 :
 Int),
 (0 :
 Int),
 (0 :
 Int))).2.1 ∧
 (True ∧
 True) ∧
 (True ∧
 True) ∧
 (True ∧
 True) ∧
 True ∧
 (↑g.1.2.1.length :
 Int) =
 (↑g.1.2.1.length :
 Int) ∧
 decide
 ((↑g.1.2.1.length :
 Int) ≤
 (x.2.2.1.getD
 g.2.2.1.toNat
 ((0 :
 Int),
 (0 :
 Int),
 (0 :
 Int))).2.1) =
 decide
 ((↑g.1.2.1.length :
 Int) ≤
 (x.2.2.1.getD
 g.2.2.1.toNat
 ((0 :
 Int),
 (0 :
 Int),
 (0 :
 Int))).2.1) ∧
 decide
 ((↑g.1.2.1.length :
 Int) ≤
 (x.2.2.1.getD
 g.2.2.1.toNat
 ((0 :
 Int),
 (0 :
 Int),
 (0 :
 Int))).2.1) =
 decide
 ((↑g.1.2.1.length :
 Int) ≤
 (x.2.2.1.getD
 g.2.2.1.toNat
 ((0 :
 Int),
 (0 :
 Int),
 (0 :
 Int))).2.1) ∧
 false =
 false ∧
 (True ∧
 True) ∧
 (x.2.2.1.getD
 g.2.2.1.toNat
 ((0 :
 Int),
 (0 :
 Int),
 (0 :
 Int))).1 =
 (x.2.2.1.getD
 g.2.2.1.toNat
 ((0 :
 Int),
 (0 :
 Int),
 (0 :
 Int))).1 ∧
 ((x.2.2.1.getD
 g.2.2.1.toNat
 ((0 :
 Int),
 (0 :
 Int),
 (0 :
 Int))).1 ==
 (1 :
 Int)) =
 ((x.2.2.1.getD
 g.2.2.1.toNat
 ((0 :
 Int),
 (0 :
 Int),
 (0 :
 Int))).1 ==
 (1 :
 Int)) ∧
 (True ∧
 True) ∧
 (True ∧
 True) ∧
 (True ∧
 True) ∧
 True ∧
 (True ∧
 True) ∧
 (x.2.2.1.getD
 g.2.2.1.toNat
 ((0 :
 Int),
 (0 :
 Int),
 (0 :
 Int))).2.1 =
 (x.2.2.1.getD
 g.2.2.1.toNat
 ((0 :
 Int),
 (0 :
 Int),
 (0 :
 Int))).2.1 ∧
 ((True ∧
 True ∧
 True) ∧
 (x.2.2.1.getD
 g.2.2.1.toNat
 ((0 :
 Int),
 (0 :
 Int),
 (0 :
 Int))).2.1.toNat =
 (x.2.2.1.getD
 g.2.2.1.toNat
 ((0 :
 Int),
 (0 :
 Int),
 (0 :
 Int))).2.1.toNat) ∧
 ((True ∧
 True ∧
 True) ∧
 (x.2.2.1.getD
 g.2.2.1.toNat
 ((0 :
 Int),
 (0 :
 Int),
 (0 :
 Int))).2.1.toNat =
 (x.2.2.1.getD
 g.2.2.1.toNat
 ((0 :
 Int),
 (0 :
 Int),
 (0 :
 Int))).2.1.toNat) ∧
 (g.1.2.1.getD
 (x.2.2.1.getD
 g.2.2.1.toNat
 ((0 :
 Int),
 (0 :
 Int),
 (0 :
 Int))).2.1.toNat
 ((0 :
 Int),
 (0 :
 Int))).2 =
 (g.1.2.1.getD
 (x.2.2.1.getD
 g.2.2.1.toNat
 ((0 :
 Int),
 (0 :
 Int),
 (0 :
 Int))).2.1.toNat
 ((0 :
 Int),
 (0 :
 Int))).2 ∧
 decide
 ((0 :
 Int) <
 (g.1.2.1.getD
 (x.2.2.1.getD
 g.2.2.1.toNat
 ((0 :
 Int),
 (0 :
 Int),
 (0 :
 Int))).2.1.toNat
 ((0 :
 Int),
 (0 :
 Int))).2) =
 decide
 ((0 :
 Int) <
 (g.1.2.1.getD
 (x.2.2.1.getD
 g.2.2.1.toNat
 ((0 :
 Int),
 (0 :
 Int),
 (0 :
 Int))).2.1.toNat
 ((0 :
 Int),
 (0 :
 Int))).2) ∧
 (((x.2.2.1.getD
 g.2.2.1.toNat
 ((0 :
 Int),
 (0 :
 Int),
 (0 :
 Int))).1 ==
 (1 :
 Int)) ==
 decide
 ((0 :
 Int) <
 (g.1.2.1.getD
 (x.2.2.1.getD
 g.2.2.1.toNat
 ((0 :
 Int),
 (0 :
 Int),
 (0 :
 Int))).2.1.toNat
 ((0 :
 Int),
 (0 :
 Int))).2)) =
 (((x.2.2.1.getD
 g.2.2.1.toNat
 ((0 :
 Int),
 (0 :
 Int),
 (0 :
 Int))).1 ==
 (1 :
 Int)) ==
 decide
 ((0 :
 Int) <
 (g.1.2.1.getD
 (x.2.2.1.getD
 g.2.2.1.toNat
 ((0 :
 Int),
 (0 :
 Int),
 (0 :
 Int))).2.1.toNat
 ((0 :
 Int),
 (0 :
 Int))).2)) ∧
 True ∧
 True ∧
 True ∧
 (True ∧
 True) ∧
 (x.2.2.1.getD
 g.2.2.1.toNat
 ((0 :
 Int),
 (0 :
 Int),
 (0 :
 Int))).1 =
 (x.2.2.1.getD
 g.2.2.1.toNat
 ((0 :
 Int),
 (0 :
 Int),
 (0 :
 Int))).1 ∧
 true =
 true ∧
 ((x.2.2.1.getD
 g.2.2.1.toNat
 ((0 :
 Int),
 (0 :
 Int),
 (0 :
 Int))).1 ==
 (1 :
 Int)) =
 ((x.2.2.1.getD
 g.2.2.1.toNat
 ((0 :
 Int),
 (0 :
 Int),
 (0 :
 Int))).1 ==
 (1 :
 Int)) ∧
 (True ∧
 True) ∧
 (True ∧
 True) ∧
 (x.2.2.1.getD
 g.2.2.1.toNat
 ((0 :
 Int),
 (0 :
 Int),
 (0 :
 Int))).2.2 =
 (x.2.2.1.getD
 g.2.2.1.toNat
 ((0 :
 Int),
 (0 :
 Int),
 (0 :
 Int))).2.2 ∧
 True ∧
 True ∧
 True ∧
 True ∧
 True ∧
 True ∧
 True ∧
 True ∧
 True ∧
 True ∧
 True ∧
 True ∧
 True ∧
 True ∧
 True ∧
 True ∧
 True ∧
 True ∧
 True ∧
 True ∧
 True ∧
 True ∧
 True ∧
 True ∧
 True ∧
 True ∧
 True ∧
 True ∧
 True ∧
 True ∧
 True ∧
 True ∧
 True ∧
 True ∧
 True ∧
 True ∧
 True ∧
 True ∧
 True ∧
 True ∧
 True ∧
 True ∧
 True ∧
 True ∧
 True ∧
 True ∧
 True ∧
 True ∧
 True ∧
 (True ∧
 True) ∧
 True ∧
 True ∧
 (True ∧
 True) ∧
 True ∧
 True ∧
 True ∧
 True ∧
 True ∧
 True ∧
 True ∧
 True ∧
 True ∧
 True ∧
 True ∧
 True ∧
 True ∧
 True ∧
 True ∧
 True ∧
 True ∧
 True ∧
 True ∧
 True ∧
 True ∧
 x.2.2.1 =
 x.2.2.1 ∧
 (↑x.2.2.1.length :
 Int) =
 (↑x.2.2.1.length :
 Int) ∧
 g.2.2.1 =
 g.2.2.1 ∧
 true =
 true ∧
 True ∧
 ((x.2.2.1.getD
 g.2.2.1.toNat
 ((0 :
 Int),
 (0 :
 Int),
 (0 :
 Int))).1 =
 (x.2.2.1.getD
 g.2.2.1.toNat
 ((0 :
 Int),
 (0 :
 Int),
 (0 :
 Int))).1 ∧
 (x.2.2.1.getD
 g.2.2.1.toNat
 ((0 :
 Int),
 (0 :
 Int),
 (0 :
 Int))).2.1 =
 (x.2.2.1.getD
 g.2.2.1.toNat
 ((0 :
 Int),
 (0 :
 Int),
 (0 :
 Int))).2.1 ∧
 (x.2.2.1.getD
 g.2.2.1.toNat
 ((0 :
 Int),
 (0 :
 Int),
 (0 :
 Int))).2.2 =
 (x.2.2.1.getD
 g.2.2.1.toNat
 ((0 :
 Int),
 (0 :
 Int),
 (0 :
 Int))).2.2 ∧
 True) ∧
 True ∧
 (True ∧
 True) ∧
 ((x.2.2.1.getD
 g.2.2.1.toNat
 ((0 :
 Int),
 (0 :
 Int),
 (0 :
 Int))).1 =
 (x.2.2.1.getD
 g.2.2.1.toNat
 ((0 :
 Int),
 (0 :
 Int),
 (0 :
 Int))).1 ∧
 (x.2.2.1.getD
 g.2.2.1.toNat
 ((0 :
 Int),
 (0 :
 Int),
 (0 :
 Int))).2.1 =
 (x.2.2.1.getD
 g.2.2.1.toNat
 ((0 :
 Int),
 (0 :
 Int),
 (0 :
 Int))).2.1 ∧
 (x.2.2.1.getD
 g.2.2.1.toNat
 ((0 :
 Int),
 (0 :
 Int),
 (0 :
 Int))).2.2 =
 (x.2.2.1.getD
 g.2.2.1.toNat
 ((0 :
 Int),
 (0 :
 Int),
 (0 :
 Int))).2.2 ∧
 True) ∧
 True ∧
 True ∧
 True ∧
 True ∧
 True ∧
 True ∧
 True ∧
 True ∧
 True ∧
 True ∧
 True)) ∧
 (decide
 ((↑(allOf
 (g.1.2.2.getD g_1.2.1.toNat
 ((0 : Int) ::
 (0 : Int) ::
 (0 : Int) ::
 (0 : Int) ::
 ([] : List Int)))).length :
 Int) <
 (224 : Int)) =
 !true →
 ((-9223372036854775808 : Int) ≤
 g_1.2.1 + (1 : Int) ∧
 g_1.2.1 + (1 : Int) ≤
 (9223372036854775807 : Int)) ∧
 (((0 : Int) ≤ g_1.2.1 + (1 : Int) ∧
 g_1.2.1 + (1 : Int) ≤ x.1 ∧
 g_1.1 =
 (bst
 (okc
 (x.2.2.1.getD
 g.2.2.1.toNat
 ((0 : Int), (0 : Int),
 (0 : Int))).2.2
 (Int.negSucc (nat_lit 0)))
 (ldT g.1.2.2)
 (g_1.2.1 + (1 : Int)).toNat).1) ∧
 (x.1 - (g_1.2.1 + (1 : Int))).toNat <
 (x.1 - g_1.2.1).toNat) ∧
 ((True ∧ True) ∧
 (x.2.2.1.getD g.2.2.1.toNat
 ((0 : Int), (0 : Int),
 (0 : Int))).2.2 =
 (x.2.2.1.getD g.2.2.1.toNat
 ((0 : Int), (0 : Int),
 (0 : Int))).2.2 ∧
 (-1 : Int) = (-1 : Int) ∧
 g_1.1 = g_1.1 ∧
 x.1 = x.1 ∧
 g_1.2.1 + (1 : Int) =
 g_1.2.1 + (1 : Int) ∧
 True) ∧
 ((x.1 = x.1 ∧ True ∧ True ∧ True) ∧
 g.1.2.1 = g.1.2.1 ∧
 g.1.2.2 = g.1.2.2 ∧
 ((x.2.2.1.getD g.2.2.1.toNat
 ((0 : Int), (0 : Int),
 (0 : Int))).1 =
 (x.2.2.1.getD
 g.2.2.1.toNat
 ((0 : Int), (0 : Int),
 (0 : Int))).1 ∧
 (x.2.2.1.getD
 g.2.2.1.toNat
 ((0 : Int), (0 : Int),
 (0 : Int))).2.1 =
 (x.2.2.1.getD
 g.2.2.1.toNat
 ((0 : Int), (0 : Int),
 (0 : Int))).2.1 ∧
 (x.2.2.1.getD
 g.2.2.1.toNat
 ((0 : Int), (0 : Int),
 (0 : Int))).2.2 =
 (x.2.2.1.getD
 g.2.2.1.toNat
 ((0 : Int), (0 : Int),
 (0 : Int))).2.2 ∧
 True) ∧
 g.2.1 = g.2.1 ∧
 ((x.2.2.1.getD
 g.2.2.1.toNat
 ((0 : Int), (0 : Int),
 (0 : Int))).1 =
 (x.2.2.1.getD
 g.2.2.1.toNat
 ((0 : Int), (0 : Int),
 (0 : Int))).1 ∧
 (x.2.2.1.getD
 g.2.2.1.toNat
 ((0 : Int), (0 : Int),
 (0 : Int))).2.1 =
 (x.2.2.1.getD
 g.2.2.1.toNat
 ((0 : Int), (0 : Int),
 (0 : Int))).2.1 ∧
 (x.2.2.1.getD
 g.2.2.1.toNat
 ((0 : Int), (0 : Int),
 (0 :
 Int))).2.2 =
 (x.2.2.1.getD
 g.2.2.1.toNat
 ((0 : Int), (0 : Int),
 (0 :
 Int))).2.2 ∧
 True) ∧
 True) ∧
 (True ∧ True) ∧
 ((x.2.2.1.getD g.2.2.1.toNat
 ((0 : Int), (0 : Int),
 (0 : Int))).1 =
 (x.2.2.1.getD g.2.2.1.toNat
 ((0 : Int), (0 : Int),
 (0 : Int))).1 ∧
 (x.2.2.1.getD g.2.2.1.toNat
 ((0 : Int), (0 : Int),
 (0 : Int))).2.1 =
 (x.2.2.1.getD
 g.2.2.1.toNat
 ((0 : Int), (0 : Int),
 (0 : Int))).2.1 ∧
 (x.2.2.1.getD g.2.2.1.toNat
 ((0 : Int), (0 : Int),
 (0 : Int))).2.2 =
 (x.2.2.1.getD
 g.2.2.1.toNat
 ((0 : Int), (0 : Int),
 (0 : Int))).2.2 ∧
 True) ∧
 True ∧
 (True ∧ True) ∧
 (0 : Int) = (0 : Int) ∧
 True ∧
 True ∧
 false = false ∧
 (True ∧ True) ∧
 (x.2.2.1.getD
 g.2.2.1.toNat
 ((0 : Int), (0 : Int),
 (0 : Int))).1 =
 (x.2.2.1.getD
 g.2.2.1.toNat
 ((0 : Int), (0 : Int),
 (0 : Int))).1 ∧
 decide
 ((x.2.2.1.getD
 g.2.2.1.toNat
 ((0 : Int),
 (0 : Int),
 (0 :
 Int))).1 <
 (1 : Int)) =
 decide
 ((x.2.2.1.getD
 g.2.2.1.toNat
 ((0 : Int),
 (0 : Int),
 (0 :
 Int))).1 <
 (1 : Int)) ∧
 decide
 ((x.2.2.1.getD
 g.2.2.1.toNat
 ((0 : Int),
 (0 : Int),
 (0 :
 Int))).1 <
 (1 : Int)) =
 decide
 ((x.2.2.1.getD
 g.2.2.1.toNat
 ((0 : Int),
 (0 : Int),
 (0 :
 Int))).1 <
 (1 : Int)) ∧
 True ∧
 True ∧
 True ∧
 (decide
 ((x.2.2.1.getD
 g.2.2.1.toNat
 ((0 :
 Int),
 (0 :
 Int),
 (0 :
 Int))).1 <
 (1 :
 Int)) ||
 decide
 ((3 :
 Int) <
 (x.2.2.1.getD
 g.2.2.1.toNat
 ((0 :
 Int),
 (0 :
 Int),
 (0 :
 Int))).1)) =
 (decide
 ((x.2.2.1.getD
 g.2.2.1.toNat
 ((0 :
 Int),
 (0 :
 Int),
 (0 :
 Int))).1 <
 (1 :
 Int)) ||
 decide
 ((3 :
 Int) <
 (x.2.2.1.getD
 g.2.2.1.toNat
 ((0 :
 Int),
 (0 :
 Int),
 (0 :
 Int))).1)) ∧
 false = false ∧
 (True ∧
 True) ∧
 (x.2.2.1.getD
 g.2.2.1.toNat
 ((0 :
 Int),
 (0 :
 Int),
 (0 :
 Int))).2.1 =
 (x.2.2.1.getD
 g.2.2.1.toNat
 ((0 :
 Int),
 (0 :
 Int),
 (0 :
 Int))).2.1 ∧
 decide
 ((x.2.2.1.getD
 g.2.2.1.toNat
 ((0 :
 Int),
 (0 :
 Int),
 (0 :
 Int))).2.1 <
 (0 :
 Int)) =
 decide
 ((x.2.2.1.getD
 g.2.2.1.toNat
 ((0 :
 Int),
 (0 :
 Int),
 (0 :
 Int))).2.1 <
 (0 :
 Int)) ∧
 false =
 false ∧
 (True ∧
 True) ∧
 (x.2.2.1.getD
 g.2.2.1.toNat
 ((0 :
 Int),
 (0 :
 Int),
 (0 :
 Int))).2.1 =
 (x.2.2.1.getD
 g.2.2.1.toNat
 ((0 :
 Int),
 (0 :
 Int),
 (0 :
 Int))).2.1 ∧
 (True ∧
 True) ∧
 (True ∧
 True) ∧
 (True ∧
 True) ∧
 True ∧
 (↑g.1.2.1.length :
 Int) =
 (↑g.1.2.1.length :
 Int) ∧
 decide
 ((↑g.1.2.1.length :
 Int) ≤
 (x.2.2.1.getD
 g.2.2.1.toNat
 ((0 :
 Int),
 (0 :
 Int),
 (0 :
 Int))).2.1) =
 decide
 ((↑g.1.2.1.length :
 Int) ≤
 (x.2.2.1.getD
 g.2.2.1.toNat
 ((0 :
 Int),
 (0 :
 Int),
 (0 :
 Int))).2.1) ∧
 decide
 ((↑g.1.2.1.length :
 Int) ≤
 (x.2.2.1.getD
 g.2.2.1.toNat
 ((0 :
 Int),
 (0 :
 Int),
 (0 :
 Int))).2.1) =
 decide
 ((↑g.1.2.1.length :
 Int) ≤
 (x.2.2.1.getD
 g.2.2.1.toNat
 ((0 :
 Int),
 (0 :
 Int),
 (0 :
 Int))).2.1) ∧
 false =
 false ∧
 (True ∧
 True) ∧
 (x.2.2.1.getD
 g.2.2.1.toNat
 ((0 :
 Int),
 (0 :
 Int),
 (0 :
 Int))).1 =
 (x.2.2.1.getD
 g.2.2.1.toNat
 ((0 :
 Int),
 (0 :
 Int),
 (0 :
 Int))).1 ∧
 ((x.2.2.1.getD
 g.2.2.1.toNat
 ((0 :
 Int),
 (0 :
 Int),
 (0 :
 Int))).1 ==
 (1 :
 Int)) =
 ((x.2.2.1.getD
 g.2.2.1.toNat
 ((0 :
 Int),
 (0 :
 Int),
 (0 :
 Int))).1 ==
 (1 :
 Int)) ∧
 (True ∧
 True) ∧
 (True ∧
 True) ∧
 (True ∧
 True) ∧
 True ∧
 (True ∧
 True) ∧
 (x.2.2.1.getD
 g.2.2.1.toNat
 ((0 :
 Int),
 (0 :
 Int),
 (0 :
 Int))).2.1 =
 (x.2.2.1.getD
 g.2.2.1.toNat
 ((0 :
 Int),
 (0 :
 Int),
 (0 :
 Int))).2.1 ∧
 ((True ∧
 True ∧
 True) ∧
 (x.2.2.1.getD
 g.2.2.1.toNat
 ((0 :
 Int),
 (0 :
 Int),
 (0 :
 Int))).2.1.toNat =
 (x.2.2.1.getD
 g.2.2.1.toNat
 ((0 :
 Int),
 (0 :
 Int),
 (0 :
 Int))).2.1.toNat) ∧
 ((True ∧
 True ∧
 True) ∧
 (x.2.2.1.getD
 g.2.2.1.toNat
 ((0 :
 Int),
 (0 :
 Int),
 (0 :
 Int))).2.1.toNat =
 (x.2.2.1.getD
 g.2.2.1.toNat
 ((0 :
 Int),
 (0 :
 Int),
 (0 :
 Int))).2.1.toNat) ∧
 (g.1.2.1.getD
 (x.2.2.1.getD
 g.2.2.1.toNat
 ((0 :
 Int),
 (0 :
 Int),
 (0 :
 Int))).2.1.toNat
 ((0 :
 Int),
 (0 :
 Int))).2 =
 (g.1.2.1.getD
 (x.2.2.1.getD
 g.2.2.1.toNat
 ((0 :
 Int),
 (0 :
 Int),
 (0 :
 Int))).2.1.toNat
 ((0 :
 Int),
 (0 :
 Int))).2 ∧
 decide
 ((0 :
 Int) <
 (g.1.2.1.getD
 (x.2.2.1.getD
 g.2.2.1.toNat
 ((0 :
 Int),
 (0 :
 Int),
 (0 :
 Int))).2.1.toNat
 ((0 :
 Int),
 (0 :
 Int))).2) =
 decide
 ((0 :
 Int) <
 (g.1.2.1.getD
 (x.2.2.1.getD
 g.2.2.1.toNat
 ((0 :
 Int),
 (0 :
 Int),
 (0 :
 Int))).2.1.toNat
 ((0 :
 Int),
 (0 :
 Int))).2) ∧
 (((x.2.2.1.getD
 g.2.2.1.toNat
 ((0 :
 Int),
 (0 :
 Int),
 (0 :
 Int))).1 ==
 (1 :
 Int)) ==
 decide
 ((0 :
 Int) <
 (g.1.2.1.getD
 (x.2.2.1.getD
 g.2.2.1.toNat
 ((0 :
 Int),
 (0 :
 Int),
 (0 :
 Int))).2.1.toNat
 ((0 :
 Int),
 (0 :
 Int))).2)) =
 (((x.2.2.1.getD
 g.2.2.1.toNat
 ((0 :
 Int),
 (0 :
 Int),
 (0 :
 Int))).1 ==
 (1 :
 Int)) ==
 decide
 ((0 :
 Int) <
 (g.1.2.1.getD
 (x.2.2.1.getD
 g.2.2.1.toNat
 ((0 :
 Int),
 (0 :
 Int),
 (0 :
 Int))).2.1.toNat
 ((0 :
 Int),
 (0 :
 Int))).2)) ∧
 True ∧
 True ∧
 True ∧
 (True ∧
 True) ∧
 (x.2.2.1.getD
 g.2.2.1.toNat
 ((0 :
 Int),
 (0 :
 Int),
 (0 :
 Int))).1 =
 (x.2.2.1.getD
 g.2.2.1.toNat
 ((0 :
 Int),
 (0 :
 Int),
 (0 :
 Int))).1 ∧
 true =
 true ∧
 ((x.2.2.1.getD
 g.2.2.1.toNat
 ((0 :
 Int),
 (0 :
 Int),
 (0 :
 Int))).1 ==
 (1 :
 Int)) =
 ((x.2.2.1.getD
 g.2.2.1.toNat
 ((0 :
 Int),
 (0 :
 Int),
 (0 :
 Int))).1 ==
 (1 :
 Int)) ∧
 (True ∧
 True) ∧
 (True ∧
 True) ∧
 (x.2.2.1.getD
 g.2.2.1.toNat
 ((0 :
 Int),
 (0 :
 Int),
 (0 :
 Int))).2.2 =
 (x.2.2.1.getD
 g.2.2.1.toNat
 ((0 :
 Int),
 (0 :
 Int),
 (0 :
 Int))).2.2 ∧
 True ∧
 True ∧
 True ∧
 True ∧
 True ∧
 True ∧
 True ∧
 True ∧
 True ∧
 True ∧
 True ∧
 True ∧
 True ∧
 True ∧
 True ∧
 True ∧
 True ∧
 True ∧
 True ∧
 True ∧
 True ∧
 True ∧
 True ∧
 True ∧
 True ∧
 True ∧
 True ∧
 True ∧
 True ∧
 True ∧
 True ∧
 True ∧
 True ∧
 True ∧
 True ∧
 True ∧
 True ∧
 True ∧
 True ∧
 True ∧
 True ∧
 True ∧
 True ∧
 True ∧
 True ∧
 True ∧
 True ∧
 True ∧
 True ∧
 (True ∧
 True) ∧
 True ∧
 True ∧
 (True ∧
 True) ∧
 True ∧
 True ∧
 True ∧
 True ∧
 True ∧
 True ∧
 True ∧
 True ∧
 True ∧
 True ∧
 True ∧
 True ∧
 True ∧
 True ∧
 True ∧
 True ∧
 True ∧
 True ∧
 True ∧
 True ∧
 True ∧
 x.2.2.1 =
 x.2.2.1 ∧
 (↑x.2.2.1.length :
 Int) =
 (↑x.2.2.1.length :
 Int) ∧
 g.2.2.1 =
 g.2.2.1 ∧
 true =
 true ∧
 True ∧
 ((x.2.2.1.getD
 g.2.2.1.toNat
 ((0 :
 Int),
 (0 :
 Int),
 (0 :
 Int))).1 =
 (x.2.2.1.getD
 g.2.2.1.toNat
 ((0 :
 Int),
 (0 :
 Int),
 (0 :
 Int))).1 ∧
 (x.2.2.1.getD
 g.2.2.1.toNat
 ((0 :
 Int),
 (0 :
 Int),
 (0 :
 Int))).2.1 =
 (x.2.2.1.getD
 g.2.2.1.toNat
 ((0 :
 Int),
 (0 :
 Int),
 (0 :
 Int))).2.1 ∧
 (x.2.2.1.getD
 g.2.2.1.toNat
 ((0 :
 Int),
 (0 :
 Int),
 (0 :
 Int))).2.2 =
 (x.2.2.1.getD
 g.2.2.1.toNat
 ((0 :
 Int),
 (0 :
 Int),
 (0 :
 Int))).2.2 ∧
 True) ∧
 True ∧
 (True ∧
 True) ∧
 ((x.2.2.1.getD
 g.2.2.1.toNat
 ((0 :
 Int),
 (0 :
 Int),
 (0 :
 Int))).1 =
 (x.2.2.1.getD
 g.2.2.1.toNat
 ((0 :
 Int),
 (0 :
 Int),
 (0 :
 Int))).1 ∧
 (x.2.2.1.getD
 g.2.2.1.toNat
 ((0 :
 Int),
 (0 :
 Int),
 (0 :
 Int))).2.1 =
 (x.2.2.1.getD
 g.2.2.1.toNat
 ((0 :
 Int),
 (0 :
 Int),
 (0 :
 Int))).2.1 ∧
 (x.2.2.1.getD
 g.2.2.1.toNat
 ((0 :
 Int),
 (0 :
 Int),
 (0 :
 Int))).2.2 =
 (x.2.2.1.getD
 g.2.2.1.toNat
 ((0 :
 Int),
 (0 :
 Int),
 (0 :
 Int))).2.2 ∧
 True) ∧
 True ∧
 True ∧
 True ∧
 True ∧
 True ∧
 True ∧
 True ∧
 True ∧
 True ∧
 True ∧
 True)) ∧
 ((bits BinOp.and IntKind.i64
 ((x.2.2.1.getD g.2.2.1.toNat
 ((0 : Int), (0 : Int), (0 : Int))).2.2 /
 (2 : Int) ^ min g_1.2.1.toNat IntKind.i64.bits)
 (1 : Int) ==
 (1 : Int) &&
 g_1.2.1 != (-1 : Int)) =
 !true →
 ((-9223372036854775808 : Int) ≤ g_1.2.1 + (1 : Int) ∧
 g_1.2.1 + (1 : Int) ≤ (9223372036854775807 : Int)) ∧
 (((0 : Int) ≤ g_1.2.1 + (1 : Int) ∧
 g_1.2.1 + (1 : Int) ≤ x.1 ∧
 g_1.1 =
 (bst
 (okc
 (x.2.2.1.getD g.2.2.1.toNat
 ((0 : Int), (0 : Int), (0 : Int))).2.2
 (Int.negSucc (nat_lit 0)))
 (ldT g.1.2.2)
 (g_1.2.1 + (1 : Int)).toNat).1) ∧
 (x.1 - (g_1.2.1 + (1 : Int))).toNat <
 (x.1 - g_1.2.1).toNat) ∧
 ((True ∧ True) ∧
 (x.2.2.1.getD g.2.2.1.toNat
 ((0 : Int), (0 : Int), (0 : Int))).2.2 =
 (x.2.2.1.getD g.2.2.1.toNat
 ((0 : Int), (0 : Int), (0 : Int))).2.2 ∧
 (-1 : Int) = (-1 : Int) ∧
 g_1.1 = g_1.1 ∧
 x.1 = x.1 ∧
 g_1.2.1 + (1 : Int) =
 g_1.2.1 + (1 : Int) ∧
 True) ∧
 ((x.1 = x.1 ∧ True ∧ True ∧ True) ∧
 g.1.2.1 = g.1.2.1 ∧
 g.1.2.2 = g.1.2.2 ∧
 ((x.2.2.1.getD g.2.2.1.toNat
 ((0 : Int), (0 : Int), (0 : Int))).1 =
 (x.2.2.1.getD g.2.2.1.toNat
 ((0 : Int), (0 : Int), (0 : Int))).1 ∧
 (x.2.2.1.getD g.2.2.1.toNat
 ((0 : Int), (0 : Int),
 (0 : Int))).2.1 =
 (x.2.2.1.getD g.2.2.1.toNat
 ((0 : Int), (0 : Int),
 (0 : Int))).2.1 ∧
 (x.2.2.1.getD g.2.2.1.toNat
 ((0 : Int), (0 : Int),
 (0 : Int))).2.2 =
 (x.2.2.1.getD g.2.2.1.toNat
 ((0 : Int), (0 : Int),
 (0 : Int))).2.2 ∧
 True) ∧
 g.2.1 = g.2.1 ∧
 ((x.2.2.1.getD g.2.2.1.toNat
 ((0 : Int), (0 : Int),
 (0 : Int))).1 =
 (x.2.2.1.getD g.2.2.1.toNat
 ((0 : Int), (0 : Int),
 (0 : Int))).1 ∧
 (x.2.2.1.getD g.2.2.1.toNat
 ((0 : Int), (0 : Int),
 (0 : Int))).2.1 =
 (x.2.2.1.getD g.2.2.1.toNat
 ((0 : Int), (0 : Int),
 (0 : Int))).2.1 ∧
 (x.2.2.1.getD g.2.2.1.toNat
 ((0 : Int), (0 : Int),
 (0 : Int))).2.2 =
 (x.2.2.1.getD
 g.2.2.1.toNat
 ((0 : Int), (0 : Int),
 (0 : Int))).2.2 ∧
 True) ∧
 True) ∧
 (True ∧ True) ∧
 ((x.2.2.1.getD g.2.2.1.toNat
 ((0 : Int), (0 : Int), (0 : Int))).1 =
 (x.2.2.1.getD g.2.2.1.toNat
 ((0 : Int), (0 : Int), (0 : Int))).1 ∧
 (x.2.2.1.getD g.2.2.1.toNat
 ((0 : Int), (0 : Int),
 (0 : Int))).2.1 =
 (x.2.2.1.getD g.2.2.1.toNat
 ((0 : Int), (0 : Int),
 (0 : Int))).2.1 ∧
 (x.2.2.1.getD g.2.2.1.toNat
 ((0 : Int), (0 : Int),
 (0 : Int))).2.2 =
 (x.2.2.1.getD g.2.2.1.toNat
 ((0 : Int), (0 : Int),
 (0 : Int))).2.2 ∧
 True) ∧
 True ∧
 (True ∧ True) ∧
 (0 : Int) = (0 : Int) ∧
 True ∧
 True ∧
 false = false ∧
 (True ∧ True) ∧
 (x.2.2.1.getD g.2.2.1.toNat
 ((0 : Int), (0 : Int),
 (0 : Int))).1 =
 (x.2.2.1.getD
 g.2.2.1.toNat
 ((0 : Int), (0 : Int),
 (0 : Int))).1 ∧
 decide
 ((x.2.2.1.getD
 g.2.2.1.toNat
 ((0 : Int), (0 : Int),
 (0 : Int))).1 <
 (1 : Int)) =
 decide
 ((x.2.2.1.getD
 g.2.2.1.toNat
 ((0 : Int), (0 : Int),
 (0 : Int))).1 <
 (1 : Int)) ∧
 decide
 ((x.2.2.1.getD
 g.2.2.1.toNat
 ((0 : Int), (0 : Int),
 (0 : Int))).1 <
 (1 : Int)) =
 decide
 ((x.2.2.1.getD
 g.2.2.1.toNat
 ((0 : Int), (0 : Int),
 (0 : Int))).1 <
 (1 : Int)) ∧
 True ∧
 True ∧
 True ∧
 (decide
 ((x.2.2.1.getD
 g.2.2.1.toNat
 ((0 : Int),
 (0 : Int),
 (0 :
 Int))).1 <
 (1 : Int)) ||
 decide
 ((3 : Int) <
 (x.2.2.1.getD
 g.2.2.1.toNat
 ((0 : Int),
 (0 : Int),
 (0 :
 Int))).1)) =
 (decide
 ((x.2.2.1.getD
 g.2.2.1.toNat
 ((0 : Int),
 (0 : Int),
 (0 :
 Int))).1 <
 (1 : Int)) ||
 decide
 ((3 : Int) <
 (x.2.2.1.getD
 g.2.2.1.toNat
 ((0 : Int),
 (0 : Int),
 (0 :
 Int))).1)) ∧
 false = false ∧
 (True ∧ True) ∧
 (x.2.2.1.getD
 g.2.2.1.toNat
 ((0 : Int),
 (0 : Int),
 (0 :
 Int))).2.1 =
 (x.2.2.1.getD
 g.2.2.1.toNat
 ((0 : Int),
 (0 : Int),
 (0 :
 Int))).2.1 ∧
 decide
 ((x.2.2.1.getD
 g.2.2.1.toNat
 ((0 :
 Int),
 (0 :
 Int),
 (0 :
 Int))).2.1 <
 (0 : Int)) =
 decide
 ((x.2.2.1.getD
 g.2.2.1.toNat
 ((0 :
 Int),
 (0 :
 Int),
 (0 :
 Int))).2.1 <
 (0 : Int)) ∧
 false = false ∧
 (True ∧ True) ∧
 (x.2.2.1.getD
 g.2.2.1.toNat
 ((0 :
 Int),
 (0 :
 Int),
 (0 :
 Int))).2.1 =
 (x.2.2.1.getD
 g.2.2.1.toNat
 ((0 :
 Int),
 (0 :
 Int),
 (0 :
 Int))).2.1 ∧
 (True ∧
 True) ∧
 (True ∧
 True) ∧
 (True ∧
 True) ∧
 True ∧
 (↑g.1.2.1.length :
 Int) =
 (↑g.1.2.1.length :
 Int) ∧
 decide
 ((↑g.1.2.1.length :
 Int) ≤
 (x.2.2.1.getD
 g.2.2.1.toNat
 ((0 :
 Int),
 (0 :
 Int),
 (0 :
 Int))).2.1) =
 decide
 ((↑g.1.2.1.length :
 Int) ≤
 (x.2.2.1.getD
 g.2.2.1.toNat
 ((0 :
 Int),
 (0 :
 Int),
 (0 :
 Int))).2.1) ∧
 decide
 ((↑g.1.2.1.length :
 Int) ≤
 (x.2.2.1.getD
 g.2.2.1.toNat
 ((0 :
 Int),
 (0 :
 Int),
 (0 :
 Int))).2.1) =
 decide
 ((↑g.1.2.1.length :
 Int) ≤
 (x.2.2.1.getD
 g.2.2.1.toNat
 ((0 :
 Int),
 (0 :
 Int),
 (0 :
 Int))).2.1) ∧
 false =
 false ∧
 (True ∧
 True) ∧
 (x.2.2.1.getD
 g.2.2.1.toNat
 ((0 :
 Int),
 (0 :
 Int),
 (0 :
 Int))).1 =
 (x.2.2.1.getD
 g.2.2.1.toNat
 ((0 :
 Int),
 (0 :
 Int),
 (0 :
 Int))).1 ∧
 ((x.2.2.1.getD
 g.2.2.1.toNat
 ((0 :
 Int),
 (0 :
 Int),
 (0 :
 Int))).1 ==
 (1 :
 Int)) =
 ((x.2.2.1.getD
 g.2.2.1.toNat
 ((0 :
 Int),
 (0 :
 Int),
 (0 :
 Int))).1 ==
 (1 :
 Int)) ∧
 (True ∧
 True) ∧
 (True ∧
 True) ∧
 (True ∧
 True) ∧
 True ∧
 (True ∧
 True) ∧
 (x.2.2.1.getD
 g.2.2.1.toNat
 ((0 :
 Int),
 (0 :
 Int),
 (0 :
 Int))).2.1 =
 (x.2.2.1.getD
 g.2.2.1.toNat
 ((0 :
 Int),
 (0 :
 Int),
 (0 :
 Int))).2.1 ∧
 ((True ∧
 True ∧
 True) ∧
 (x.2.2.1.getD
 g.2.2.1.toNat
 ((0 :
 Int),
 (0 :
 Int),
 (0 :
 Int))).2.1.toNat =
 (x.2.2.1.getD
 g.2.2.1.toNat
 ((0 :
 Int),
 (0 :
 Int),
 (0 :
 Int))).2.1.toNat) ∧
 ((True ∧
 True ∧
 True) ∧
 (x.2.2.1.getD
 g.2.2.1.toNat
 ((0 :
 Int),
 (0 :
 Int),
 (0 :
 Int))).2.1.toNat =
 (x.2.2.1.getD
 g.2.2.1.toNat
 ((0 :
 Int),
 (0 :
 Int),
 (0 :
 Int))).2.1.toNat) ∧
 (g.1.2.1.getD
 (x.2.2.1.getD
 g.2.2.1.toNat
 ((0 :
 Int),
 (0 :
 Int),
 (0 :
 Int))).2.1.toNat
 ((0 :
 Int),
 (0 :
 Int))).2 =
 (g.1.2.1.getD
 (x.2.2.1.getD
 g.2.2.1.toNat
 ((0 :
 Int),
 (0 :
 Int),
 (0 :
 Int))).2.1.toNat
 ((0 :
 Int),
 (0 :
 Int))).2 ∧
 decide
 ((0 :
 Int) <
 (g.1.2.1.getD
 (x.2.2.1.getD
 g.2.2.1.toNat
 ((0 :
 Int),
 (0 :
 Int),
 (0 :
 Int))).2.1.toNat
 ((0 :
 Int),
 (0 :
 Int))).2) =
 decide
 ((0 :
 Int) <
 (g.1.2.1.getD
 (x.2.2.1.getD
 g.2.2.1.toNat
 ((0 :
 Int),
 (0 :
 Int),
 (0 :
 Int))).2.1.toNat
 ((0 :
 Int),
 (0 :
 Int))).2) ∧
 (((x.2.2.1.getD
 g.2.2.1.toNat
 ((0 :
 Int),
 (0 :
 Int),
 (0 :
 Int))).1 ==
 (1 :
 Int)) ==
 decide
 ((0 :
 Int) <
 (g.1.2.1.getD
 (x.2.2.1.getD
 g.2.2.1.toNat
 ((0 :
 Int),
 (0 :
 Int),
 (0 :
 Int))).2.1.toNat
 ((0 :
 Int),
 (0 :
 Int))).2)) =
 (((x.2.2.1.getD
 g.2.2.1.toNat
 ((0 :
 Int),
 (0 :
 Int),
 (0 :
 Int))).1 ==
 (1 :
 Int)) ==
 decide
 ((0 :
 Int) <
 (g.1.2.1.getD
 (x.2.2.1.getD
 g.2.2.1.toNat
 ((0 :
 Int),
 (0 :
 Int),
 (0 :
 Int))).2.1.toNat
 ((0 :
 Int),
 (0 :
 Int))).2)) ∧
 True ∧
 True ∧
 True ∧
 (True ∧
 True) ∧
 (x.2.2.1.getD
 g.2.2.1.toNat
 ((0 :
 Int),
 (0 :
 Int),
 (0 :
 Int))).1 =
 (x.2.2.1.getD
 g.2.2.1.toNat
 ((0 :
 Int),
 (0 :
 Int),
 (0 :
 Int))).1 ∧
 true =
 true ∧
 ((x.2.2.1.getD
 g.2.2.1.toNat
 ((0 :
 Int),
 (0 :
 Int),
 (0 :
 Int))).1 ==
 (1 :
 Int)) =
 ((x.2.2.1.getD
 g.2.2.1.toNat
 ((0 :
 Int),
 (0 :
 Int),
 (0 :
 Int))).1 ==
 (1 :
 Int)) ∧
 (True ∧
 True) ∧
 (True ∧
 True) ∧
 (x.2.2.1.getD
 g.2.2.1.toNat
 ((0 :
 Int),
 (0 :
 Int),
 (0 :
 Int))).2.2 =
 (x.2.2.1.getD
 g.2.2.1.toNat
 ((0 :
 Int),
 (0 :
 Int),
 (0 :
 Int))).2.2 ∧
 True ∧
 True ∧
 True ∧
 True ∧
 True ∧
 True ∧
 True ∧
 True ∧
 True ∧
 True ∧
 True ∧
 True ∧
 True ∧
 True ∧
 True ∧
 True ∧
 True ∧
 True ∧
 True ∧
 True ∧
 True ∧
 True ∧
 True ∧
 True ∧
 True ∧
 True ∧
 True ∧
 True ∧
 True ∧
 True ∧
 True ∧
 True ∧
 True ∧
 True ∧
 True ∧
 True ∧
 True ∧
 True ∧
 True ∧
 True ∧
 True ∧
 True ∧
 True ∧
 True ∧
 True ∧
 True ∧
 True ∧
 True ∧
 True ∧
 (True ∧
 True) ∧
 True ∧
 True ∧
 (True ∧
 True) ∧
 True ∧
 True ∧
 True ∧
 True ∧
 True ∧
 True ∧
 True ∧
 True ∧
 True ∧
 True ∧
 True ∧
 True ∧
 True ∧
 True ∧
 True ∧
 True ∧
 True ∧
 True ∧
 True ∧
 True ∧
 True ∧
 x.2.2.1 =
 x.2.2.1 ∧
 (↑x.2.2.1.length :
 Int) =
 (↑x.2.2.1.length :
 Int) ∧
 g.2.2.1 =
 g.2.2.1 ∧
 true =
 true ∧
 True ∧
 ((x.2.2.1.getD
 g.2.2.1.toNat
 ((0 :
 Int),
 (0 :
 Int),
 (0 :
 Int))).1 =
 (x.2.2.1.getD
 g.2.2.1.toNat
 ((0 :
 Int),
 (0 :
 Int),
 (0 :
 Int))).1 ∧
 (x.2.2.1.getD
 g.2.2.1.toNat
 ((0 :
 Int),
 (0 :
 Int),
 (0 :
 Int))).2.1 =
 (x.2.2.1.getD
 g.2.2.1.toNat
 ((0 :
 Int),
 (0 :
 Int),
 (0 :
 Int))).2.1 ∧
 (x.2.2.1.getD
 g.2.2.1.toNat
 ((0 :
 Int),
 (0 :
 Int),
 (0 :
 Int))).2.2 =
 (x.2.2.1.getD
 g.2.2.1.toNat
 ((0 :
 Int),
 (0 :
 Int),
 (0 :
 Int))).2.2 ∧
 True) ∧
 True ∧
 (True ∧
 True) ∧
 ((x.2.2.1.getD
 g.2.2.1.toNat
 ((0 :
 Int),
 (0 :
 Int),
 (0 :
 Int))).1 =
 (x.2.2.1.getD
 g.2.2.1.toNat
 ((0 :
 Int),
 (0 :
 Int),
 (0 :
 Int))).1 ∧
 (x.2.2.1.getD
 g.2.2.1.toNat
 ((0 :
 Int),
 (0 :
 Int),
 (0 :
 Int))).2.1 =
 (x.2.2.1.getD
 g.2.2.1.toNat
 ((0 :
 Int),
 (0 :
 Int),
 (0 :
 Int))).2.1 ∧
 (x.2.2.1.getD
 g.2.2.1.toNat
 ((0 :
 Int),
 (0 :
 Int),
 (0 :
 Int))).2.2 =
 (x.2.2.1.getD
 g.2.2.1.toNat
 ((0 :
 Int),
 (0 :
 Int),
 (0 :
 Int))).2.2 ∧
 True) ∧
 True ∧
 True ∧
 True ∧
 True ∧
 True ∧
 True ∧
 True ∧
 True ∧
 True ∧
 True ∧
 True)) ∧
 (decide (g_1.2.1 < x.1) = false →
 (decide (g_1.1 < (0 : Int)) = true →
 (g.2.1.length +
 (((0 : Int) :: ([] : List Int)).set (0 : Nat)
 (4 : Int)).length ≤
 (9223372036854775807 : Nat) ∧
 (g.2.1.length +
 (((0 : Int) :: ([] : List Int)).set (0 : Nat)
 (4 : Int)).length +
 (g.2.1.length +
 (((0 : Int) :: ([] : List Int)).set (0 : Nat)
 (4 : Int)).length) /
 (4 : Nat) +
 (192 : Nat)) *
 (8 : Nat) ≤
 (281474976710656 : Nat)) ∧
 ((-9223372036854775808 : Int) ≤ g.2.2.1 + (1 : Int) ∧
 g.2.2.1 + (1 : Int) ≤ (9223372036854775807 : Int)) ∧
 (((0 : Int) ≤ g.2.2.1 + (1 : Int) ∧
 g.2.2.1 + (1 : Int) ≤ (↑x.2.2.1.length : Int) ∧
 plV x.1 x.2.1
 (List.take (g.2.2.1 + (1 : Int)).toNat
 x.2.2.1) =
 (g.1.2.1,
 g.2.1 ++
 ((0 : Int) :: ([] : List Int)).set (0 : Nat)
 (4 : Int)) ∧
 (↑(g.2.1 ++
 ((0 : Int) :: ([] : List Int)).set (0 : Nat)
 (4 : Int)).length :
 Int) =
 g.2.2.1 + (1 : Int) ∧
 RelV x.1 g.1.2.1 g.1.2.2) ∧
 ((↑x.2.2.1.length : Int) -
 (g.2.2.1 + (1 : Int))).toNat <
 ((↑x.2.2.1.length : Int) - g.2.2.1).toNat) ∧
 ((True ∧ True) ∧
 True ∧
 x.2.2.1 = x.2.2.1 ∧
 (↑x.2.2.1.length : Int) =
 (↑x.2.2.1.length : Int) ∧
 g.2.2.1 + (1 : Int) = g.2.2.1 + (1 : Int) ∧
 True) ∧
 ((x.1 = x.1 ∧ True ∧ True ∧ True) ∧
 g.1.2.1 = g.1.2.1 ∧
 g.1.2.2 = g.1.2.2 ∧
 g.2.1 ++
 ((0 : Int) :: ([] : List Int)).set (0 : Nat)
 (4 : Int) =
 g.2.1 ++
 ((0 : Int) :: ([] : List Int)).set (0 : Nat)
 (4 : Int) ∧
 True) ∧
 True) ∧
 (decide (g_1.1 < (0 : Int)) = false →
 ((((32 : Int) ≤ (32 : Int) ∧
 (32 : Int) ≤ (256 : Int) ∧
 lstN
 (bitN
 (g.1.2.2.getD g_1.1.toNat
 ((0 : Int) ::
 (0 : Int) ::
 (0 : Int) :: (0 : Int) :: ([] : List Int))))
 (Int.toNat (32 : Int)) ((256 : Int) - (32 : Int)).toNat =
 lstN
 (bitN
 (g.1.2.2.getD g_1.1.toNat
 ((0 : Int) ::
 (0 : Int) ::
 (0 : Int) :: (0 : Int) :: ([] : List Int))))
 (32 : Nat) (224 : Nat)) ∧
 True) ∧
 ((True ∧ True) ∧
 g_1.1 = g_1.1 ∧ (32 : Int) = (32 : Int) ∧ True) ∧
 ((x.1 = x.1 ∧ True ∧ True ∧ True) ∧
 g.1.2.1 = g.1.2.1 ∧
 g.1.2.2 = g.1.2.2 ∧
 ((x.2.2.1.getD g.2.2.1.toNat
 ((0 : Int), (0 : Int), (0 : Int))).1 =
 (x.2.2.1.getD g.2.2.1.toNat
 ((0 : Int), (0 : Int), (0 : Int))).1 ∧
 (x.2.2.1.getD g.2.2.1.toNat
 ((0 : Int), (0 : Int), (0 : Int))).2.1 =
 (x.2.2.1.getD g.2.2.1.toNat
 ((0 : Int), (0 : Int), (0 : Int))).2.1 ∧
 (x.2.2.1.getD g.2.2.1.toNat
 ((0 : Int), (0 : Int),
 (0 : Int))).2.2 =
 (x.2.2.1.getD g.2.2.1.toNat
 ((0 : Int), (0 : Int),
 (0 : Int))).2.2 ∧
 True) ∧
 g.2.1 = g.2.1 ∧
 ((x.2.2.1.getD g.2.2.1.toNat
 ((0 : Int), (0 : Int), (0 : Int))).1 =
 (x.2.2.1.getD g.2.2.1.toNat
 ((0 : Int), (0 : Int), (0 : Int))).1 ∧
 (x.2.2.1.getD g.2.2.1.toNat
 ((0 : Int), (0 : Int),
 (0 : Int))).2.1 =
 (x.2.2.1.getD g.2.2.1.toNat
 ((0 : Int), (0 : Int),
 (0 : Int))).2.1 ∧
 (x.2.2.1.getD g.2.2.1.toNat
 ((0 : Int), (0 : Int),
 (0 : Int))).2.2 =
 (x.2.2.1.getD g.2.2.1.toNat
 ((0 : Int), (0 : Int),
 (0 : Int))).2.2 ∧
 True) ∧
 True) ∧
 (True ∧ True) ∧
 (x.2.2.1.getD g.2.2.1.toNat
 ((0 : Int), (0 : Int), (0 : Int))).2.1 =
 (x.2.2.1.getD g.2.2.1.toNat
 ((0 : Int), (0 : Int), (0 : Int))).2.1 ∧
 g_1.1 = g_1.1 ∧
 True ∧
 True ∧
 True ∧
 True ∧
 g_1.1 = g_1.1 ∧
 (True ∧ True) ∧
 g_1.1 = g_1.1 ∧
 True ∧
 True ∧
 True ∧
 True ∧
 True ∧
 True ∧
 True ∧
 True ∧
 True ∧
 True ∧
 True ∧
 True ∧
 True ∧
 True ∧
 True ∧
 True ∧
 True ∧
 True ∧
 True ∧
 True ∧
 True ∧
 True ∧
 True ∧
 True ∧
 True ∧
 (True ∧
 True) ∧
 ((x.2.2.1.getD
 g.2.2.1.toNat
 ((0 :
 Int),
 (0 :
 Int),
 (0 :
 Int))).1 =
 (x.2.2.1.getD
 g.2.2.1.toNat
 ((0 :
 Int),
 (0 :
 Int),
 (0 :
 Int))).1 ∧
 (x.2.2.1.getD
 g.2.2.1.toNat
 ((0 :
 Int),
 (0 :
 Int),
 (0 :
 Int))).2.1 =
 (x.2.2.1.getD
 g.2.2.1.toNat
 ((0 :
 Int),
 (0 :
 Int),
 (0 :
 Int))).2.1 ∧
 (x.2.2.1.getD
 g.2.2.1.toNat
 ((0 :
 Int),
 (0 :
 Int),
 (0 :
 Int))).2.2 =
 (x.2.2.1.getD
 g.2.2.1.toNat
 ((0 :
 Int),
 (0 :
 Int),
 (0 :
 Int))).2.2 ∧
 True) ∧
 True ∧
 (True ∧
 True) ∧
 (0 :
 Int) =
 (0 :
 Int) ∧
 g_1.1 =
 g_1.1 ∧
 True ∧
 false =
 false ∧
 (True ∧
 True) ∧
 (x.2.2.1.getD
 g.2.2.1.toNat
 ((0 :
 Int),
 (0 :
 Int),
 (0 :
 Int))).1 =
 (x.2.2.1.getD
 g.2.2.1.toNat
 ((0 :
 Int),
 (0 :
 Int),
 (0 :
 Int))).1 ∧
 decide
 ((x.2.2.1.getD
 g.2.2.1.toNat
 ((0 :
 Int),
 (0 :
 Int),
 (0 :
 Int))).1 <
 (1 :
 Int)) =
 decide
 ((x.2.2.1.getD
 g.2.2.1.toNat
 ((0 :
 Int),
 (0 :
 Int),
 (0 :
 Int))).1 <
 (1 :
 Int)) ∧
 decide
 ((x.2.2.1.getD
 g.2.2.1.toNat
 ((0 :
 Int),
 (0 :
 Int),
 (0 :
 Int))).1 <
 (1 :
 Int)) =
 decide
 ((x.2.2.1.getD
 g.2.2.1.toNat
 ((0 :
 Int),
 (0 :
 Int),
 (0 :
 Int))).1 <
 (1 :
 Int)) ∧
 True ∧
 True ∧
 True ∧
 (decide
 ((x.2.2.1.getD
 g.2.2.1.toNat
 ((0 :
 Int),
 (0 :
 Int),
 (0 :
 Int))).1 <
 (1 :
 Int)) ||
 decide
 ((3 :
 Int) <
 (x.2.2.1.getD
 g.2.2.1.toNat
 ((0 :
 Int),
 (0 :
 Int),
 (0 :
 Int))).1)) =
 (decide
 ((x.2.2.1.getD
 g.2.2.1.toNat
 ((0 :
 Int),
 (0 :
 Int),
 (0 :
 Int))).1 <
 (1 :
 Int)) ||
 decide
 ((3 :
 Int) <
 (x.2.2.1.getD
 g.2.2.1.toNat
 ((0 :
 Int),
 (0 :
 Int),
 (0 :
 Int))).1)) ∧
 false =
 false ∧
 (True ∧
 True) ∧
 (x.2.2.1.getD
 g.2.2.1.toNat
 ((0 :
 Int),
 (0 :
 Int),
 (0 :
 Int))).2.1 =
 (x.2.2.1.getD
 g.2.2.1.toNat
 ((0 :
 Int),
 (0 :
 Int),
 (0 :
 Int))).2.1 ∧
 decide
 ((x.2.2.1.getD
 g.2.2.1.toNat
 ((0 :
 Int),
 (0 :
 Int),
 (0 :
 Int))).2.1 <
 (0 :
 Int)) =
 decide
 ((x.2.2.1.getD
 g.2.2.1.toNat
 ((0 :
 Int),
 (0 :
 Int),
 (0 :
 Int))).2.1 <
 (0 :
 Int)) ∧
 false =
 false ∧
 (True ∧
 True) ∧
 (x.2.2.1.getD
 g.2.2.1.toNat
 ((0 :
 Int),
 (0 :
 Int),
 (0 :
 Int))).2.1 =
 (x.2.2.1.getD
 g.2.2.1.toNat
 ((0 :
 Int),
 (0 :
 Int),
 (0 :
 Int))).2.1 ∧
 (True ∧
 True) ∧
 (True ∧
 True) ∧
 (True ∧
 True) ∧
 True ∧
 (↑g.1.2.1.length :
 Int) =
 (↑g.1.2.1.length :
 Int) ∧
 decide
 ((↑g.1.2.1.length :
 Int) ≤
 (x.2.2.1.getD
 g.2.2.1.toNat
 ((0 :
 Int),
 (0 :
 Int),
 (0 :
 Int))).2.1) =
 decide
 ((↑g.1.2.1.length :
 Int) ≤
 (x.2.2.1.getD
 g.2.2.1.toNat
 ((0 :
 Int),
 (0 :
 Int),
 (0 :
 Int))).2.1) ∧
 decide
 ((↑g.1.2.1.length :
 Int) ≤
 (x.2.2.1.getD
 g.2.2.1.toNat
 ((0 :
 Int),
 (0 :
 Int),
 (0 :
 Int))).2.1) =
 decide
 ((↑g.1.2.1.length :
 Int) ≤
 (x.2.2.1.getD
 g.2.2.1.toNat
 ((0 :
 Int),
 (0 :
 Int),
 (0 :
 Int))).2.1) ∧
 false =
 false ∧
 (True ∧
 True) ∧
 (x.2.2.1.getD
 g.2.2.1.toNat
 ((0 :
 Int),
 (0 :
 Int),
 (0 :
 Int))).1 =
 (x.2.2.1.getD
 g.2.2.1.toNat
 ((0 :
 Int),
 (0 :
 Int),
 (0 :
 Int))).1 ∧
 ((x.2.2.1.getD
 g.2.2.1.toNat
 ((0 :
 Int),
 (0 :
 Int),
 (0 :
 Int))).1 ==
 (1 :
 Int)) =
 ((x.2.2.1.getD
 g.2.2.1.toNat
 ((0 :
 Int),
 (0 :
 Int),
 (0 :
 Int))).1 ==
 (1 :
 Int)) ∧
 (True ∧
 True) ∧
 (True ∧
 True) ∧
 (True ∧
 True) ∧
 True ∧
 (True ∧
 True) ∧
 (x.2.2.1.getD
 g.2.2.1.toNat
 ((0 :
 Int),
 (0 :
 Int),
 (0 :
 Int))).2.1 =
 (x.2.2.1.getD
 g.2.2.1.toNat
 ((0 :
 Int),
 (0 :
 Int),
 (0 :
 Int))).2.1 ∧
 ((True ∧
 True ∧
 True) ∧
 (x.2.2.1.getD
 g.2.2.1.toNat
 ((0 :
 Int),
 (0 :
 Int),
 (0 :
 Int))).2.1.toNat =
 (x.2.2.1.getD
 g.2.2.1.toNat
 ((0 :
 Int),
 (0 :
 Int),
 (0 :
 Int))).2.1.toNat) ∧
 ((True ∧
 True ∧
 True) ∧
 (x.2.2.1.getD
 g.2.2.1.toNat
 ((0 :
 Int),
 (0 :
 Int),
 (0 :
 Int))).2.1.toNat =
 (x.2.2.1.getD
 g.2.2.1.toNat
 ((0 :
 Int),
 (0 :
 Int),
 (0 :
 Int))).2.1.toNat) ∧
 (g.1.2.1.getD
 (x.2.2.1.getD
 g.2.2.1.toNat
 ((0 :
 Int),
 (0 :
 Int),
 (0 :
 Int))).2.1.toNat
 ((0 :
 Int),
 (0 :
 Int))).2 =
 (g.1.2.1.getD
 (x.2.2.1.getD
 g.2.2.1.toNat
 ((0 :
 Int),
 (0 :
 Int),
 (0 :
 Int))).2.1.toNat
 ((0 :
 Int),
 (0 :
 Int))).2 ∧
 decide
 ((0 :
 Int) <
 (g.1.2.1.getD
 (x.2.2.1.getD
 g.2.2.1.toNat
 ((0 :
 Int),
 (0 :
 Int),
 (0 :
 Int))).2.1.toNat
 ((0 :
 Int),
 (0 :
 Int))).2) =
 decide
 ((0 :
 Int) <
 (g.1.2.1.getD
 (x.2.2.1.getD
 g.2.2.1.toNat
 ((0 :
 Int),
 (0 :
 Int),
 (0 :
 Int))).2.1.toNat
 ((0 :
 Int),
 (0 :
 Int))).2) ∧
 (((x.2.2.1.getD
 g.2.2.1.toNat
 ((0 :
 Int),
 (0 :
 Int),
 (0 :
 Int))).1 ==
 (1 :
 Int)) ==
 decide
 ((0 :
 Int) <
 (g.1.2.1.getD
 (x.2.2.1.getD
 g.2.2.1.toNat
 ((0 :
 Int),
 (0 :
 Int),
 (0 :
 Int))).2.1.toNat
 ((0 :
 Int),
 (0 :
 Int))).2)) =
 (((x.2.2.1.getD
 g.2.2.1.toNat
 ((0 :
 Int),
 (0 :
 Int),
 (0 :
 Int))).1 ==
 (1 :
 Int)) ==
 decide
 ((0 :
 Int) <
 (g.1.2.1.getD
 (x.2.2.1.getD
 g.2.2.1.toNat
 ((0 :
 Int),
 (0 :
 Int),
 (0 :
 Int))).2.1.toNat
 ((0 :
 Int),
 (0 :
 Int))).2)) ∧
 True ∧
 True ∧
 True ∧
 (True ∧
 True) ∧
 (x.2.2.1.getD
 g.2.2.1.toNat
 ((0 :
 Int),
 (0 :
 Int),
 (0 :
 Int))).1 =
 (x.2.2.1.getD
 g.2.2.1.toNat
 ((0 :
 Int),
 (0 :
 Int),
 (0 :
 Int))).1 ∧
 true =
 true ∧
 ((x.2.2.1.getD
 g.2.2.1.toNat
 ((0 :
 Int),
 (0 :
 Int),
 (0 :
 Int))).1 ==
 (1 :
 Int)) =
 ((x.2.2.1.getD
 g.2.2.1.toNat
 ((0 :
 Int),
 (0 :
 Int),
 (0 :
 Int))).1 ==
 (1 :
 Int)) ∧
 (True ∧
 True) ∧
 (True ∧
 True) ∧
 (x.2.2.1.getD
 g.2.2.1.toNat
 ((0 :
 Int),
 (0 :
 Int),
 (0 :
 Int))).2.2 =
 (x.2.2.1.getD
 g.2.2.1.toNat
 ((0 :
 Int),
 (0 :
 Int),
 (0 :
 Int))).2.2 ∧
 g_1.1 =
 g_1.1 ∧
 g_1.1 =
 g_1.1 ∧
 false =
 false ∧
 (True ∧
 True) ∧
 (True ∧
 True) ∧
 (x.2.2.1.getD
 g.2.2.1.toNat
 ((0 :
 Int),
 (0 :
 Int),
 (0 :
 Int))).2.1 =
 (x.2.2.1.getD
 g.2.2.1.toNat
 ((0 :
 Int),
 (0 :
 Int),
 (0 :
 Int))).2.1 ∧
 g_1.1 =
 g_1.1 ∧
 True ∧
 True ∧
 True ∧
 True ∧
 True ∧
 True ∧
 True ∧
 True ∧
 True ∧
 True ∧
 True ∧
 True ∧
 True ∧
 True ∧
 True ∧
 True ∧
 True ∧
 True ∧
 True ∧
 True ∧
 True ∧
 True ∧
 True ∧
 True ∧
 True ∧
 True ∧
 True ∧
 True ∧
 True ∧
 True ∧
 True ∧
 True ∧
 True ∧
 True ∧
 True ∧
 True ∧
 True ∧
 True ∧
 True ∧
 True ∧
 True ∧
 True ∧
 (True ∧
 True) ∧
 True ∧
 True ∧
 (True ∧
 True) ∧
 True ∧
 True ∧
 True ∧
 True ∧
 True ∧
 True ∧
 True ∧
 True ∧
 True ∧
 True ∧
 True ∧
 True ∧
 True ∧
 True ∧
 True ∧
 True ∧
 True ∧
 True ∧
 True ∧
 True ∧
 True ∧
 x.2.2.1 =
 x.2.2.1 ∧
 (↑x.2.2.1.length :
 Int) =
 (↑x.2.2.1.length :
 Int) ∧
 g.2.2.1 =
 g.2.2.1 ∧
 true =
 true ∧
 True ∧
 ((x.2.2.1.getD
 g.2.2.1.toNat
 ((0 :
 Int),
 (0 :
 Int),
 (0 :
 Int))).1 =
 (x.2.2.1.getD
 g.2.2.1.toNat
 ((0 :
 Int),
 (0 :
 Int),
 (0 :
 Int))).1 ∧
 (x.2.2.1.getD
 g.2.2.1.toNat
 ((0 :
 Int),
 (0 :
 Int),
 (0 :
 Int))).2.1 =
 (x.2.2.1.getD
 g.2.2.1.toNat
 ((0 :
 Int),
 (0 :
 Int),
 (0 :
 Int))).2.1 ∧
 (x.2.2.1.getD
 g.2.2.1.toNat
 ((0 :
 Int),
 (0 :
 Int),
 (0 :
 Int))).2.2 =
 (x.2.2.1.getD
 g.2.2.1.toNat
 ((0 :
 Int),
 (0 :
 Int),
 (0 :
 Int))).2.2 ∧
 True) ∧
 True ∧
 (True ∧
 True) ∧
 ((x.2.2.1.getD
 g.2.2.1.toNat
 ((0 :
 Int),
 (0 :
 Int),
 (0 :
 Int))).1 =
 (x.2.2.1.getD
 g.2.2.1.toNat
 ((0 :
 Int),
 (0 :
 Int),
 (0 :
 Int))).1 ∧
 (x.2.2.1.getD
 g.2.2.1.toNat
 ((0 :
 Int),
 (0 :
 Int),
 (0 :
 Int))).2.1 =
 (x.2.2.1.getD
 g.2.2.1.toNat
 ((0 :
 Int),
 (0 :
 Int),
 (0 :
 Int))).2.1 ∧
 (x.2.2.1.getD
 g.2.2.1.toNat
 ((0 :
 Int),
 (0 :
 Int),
 (0 :
 Int))).2.2 =
 (x.2.2.1.getD
 g.2.2.1.toNat
 ((0 :
 Int),
 (0 :
 Int),
 (0 :
 Int))).2.2 ∧
 True) ∧
 True ∧
 True ∧
 True ∧
 True ∧
 True ∧
 True ∧
 True ∧
 True ∧
 True ∧
 True ∧
 True) ∧
 ∀ (g_2 : Int × Unit),
 (32 : Int) ≤ g_2.1 ∧
 g_2.1 ≤ (256 : Int) ∧
 lstN
 (bitN
 (g.1.2.2.getD g_1.1.toNat
 ((0 : Int) ::
 (0 : Int) ::
 (0 : Int) :: (0 : Int) :: ([] : List Int))))
 g_2.1.toNat ((256 : Int) - g_2.1).toNat =
 lstN
 (bitN
 (g.1.2.2.getD g_1.1.toNat
 ((0 : Int) ::
 (0 : Int) ::
 (0 : Int) :: (0 : Int) :: ([] : List Int))))
 (32 : Nat) (224 : Nat) →
 ((-9223372036854775808 : Int) ≤ g_2.1 ∧
 g_2.1 ≤ (9223372036854775807 : Int)) ∧
 True →
 ((0 : Int) ≤ g_1.1 ∧
 g_1.1 < (↑g.1.2.2.length : Int)) ∧
 Holds True ∧
 (hasB
 (g.1.2.2.getD g_1.1.toNat
 ((0 : Int) ::
 (0 : Int) ::
 (0 : Int) :: (0 : Int) :: ([] : List Int)))
 g_2.1 =
 true →
 ((-9223372036854775808 : Int) ≤ g_2.1 + (1 : Int) ∧
 g_2.1 + (1 : Int) ≤ (9223372036854775807 : Int)) ∧
 (((32 : Int) ≤ g_2.1 + (1 : Int) ∧
 g_2.1 + (1 : Int) ≤ (256 : Int) ∧
 lstN
 (bitN
 (g.1.2.2.getD g_1.1.toNat
 ((0 : Int) ::
 (0 : Int) ::
 (0 : Int) ::
 (0 : Int) :: ([] : List Int))))
 (g_2.1 + (1 : Int)).toNat
 ((256 : Int) -
 (g_2.1 + (1 : Int))).toNat =
 lstN
 (bitN
 (g.1.2.2.getD g_1.1.toNat
 ((0 : Int) ::
 (0 : Int) ::
 (0 : Int) ::
 (0 : Int) :: ([] : List Int))))
 (32 : Nat) (224 : Nat)) ∧
 ((256 : Int) - (g_2.1 + (1 : Int))).toNat <
 ((256 : Int) - g_2.1).toNat) ∧
 ((True ∧ True) ∧
 g_1.1 = g_1.1 ∧
 g_2.1 + (1 : Int) = g_2.1 + (1 : Int) ∧
 True) ∧
 ((x.1 = x.1 ∧ True ∧ True ∧ True) ∧
 g.1.2.1 = g.1.2.1 ∧
 g.1.2.2 = g.1.2.2 ∧
 ((x.2.2.1.getD g.2.2.1.toNat
 ((0 : Int), (0 : Int),
 (0 : Int))).1 =
 (x.2.2.1.getD
 g.2.2.1.toNat
 ((0 : Int), (0 : Int),
 (0 : Int))).1 ∧
 (x.2.2.1.getD
 g.2.2.1.toNat
 ((0 : Int), (0 : Int),
 (0 : Int))).2.1 =
 (x.2.2.1.getD
 g.2.2.1.toNat
 ((0 : Int), (0 : Int),
 (0 : Int))).2.1 ∧
 (x.2.2.1.getD
 g.2.2.1.toNat
 ((0 : Int), (0 : Int),
 (0 : Int))).2.2 =
 (x.2.2.1.getD
 g.2.2.1.toNat
 ((0 : Int), (0 : Int),
 (0 : Int))).2.2 ∧
 True) ∧
 g.2.1 = g.2.1 ∧
 ((x.2.2.1.getD
 g.2.2.1.toNat
 ((0 : Int), (0 : Int),
 (0 : Int))).1 =
 (x.2.2.1.getD
 g.2.2.1.toNat
 ((0 : Int), (0 : Int),
 (0 : Int))).1 ∧
 (x.2.2.1.getD
 g.2.2.1.toNat
 ((0 : Int), (0 : Int),
 (0 : Int))).2.1 =
 (x.2.2.1.getD
 g.2.2.1.toNat
 ((0 : Int), (0 : Int),
 (0 : Int))).2.1 ∧
 (x.2.2.1.getD
 g.2.2.1.toNat
 ((0 : Int), (0 : Int),
 (0 :
 Int))).2.2 =
 (x.2.2.1.getD
 g.2.2.1.toNat
 ((0 : Int), (0 : Int),
 (0 :
 Int))).2.2 ∧
 True) ∧
 True) ∧
 (True ∧ True) ∧
 (x.2.2.1.getD g.2.2.1.toNat
 ((0 : Int), (0 : Int),
 (0 : Int))).2.1 =
 (x.2.2.1.getD g.2.2.1.toNat
 ((0 : Int), (0 : Int),
 (0 : Int))).2.1 ∧
 g_1.1 = g_1.1 ∧
 True ∧
 True ∧
 True ∧
 True ∧
 g_1.1 = g_1.1 ∧
 (True ∧ True) ∧
 g_1.1 = g_1.1 ∧
 True ∧
 True ∧
 True ∧
 True ∧
 True ∧
 True ∧
 True ∧
 True ∧
 True ∧
 True ∧
 True ∧
 True ∧
 True ∧
 True ∧
 True ∧
 True ∧
 True ∧
 True ∧
 True ∧
 True ∧
 True ∧
 True ∧
 True ∧
 True ∧
 True ∧
 (True ∧
 True) ∧
 ((x.2.2.1.getD
 g.2.2.1.toNat
 ((0 :
 Int),
 (0 :
 Int),
 (0 :
 Int))).1 =
 (x.2.2.1.getD
 g.2.2.1.toNat
 ((0 :
 Int),
 (0 :
 Int),
 (0 :
 Int))).1 ∧
 (x.2.2.1.getD
 g.2.2.1.toNat
 ((0 :
 Int),
 (0 :
 Int),
 (0 :
 Int))).2.1 =
 (x.2.2.1.getD
 g.2.2.1.toNat
 ((0 :
 Int),
 (0 :
 Int),
 (0 :
 Int))).2.1 ∧
 (x.2.2.1.getD
 g.2.2.1.toNat
 ((0 :
 Int),
 (0 :
 Int),
 (0 :
 Int))).2.2 =
 (x.2.2.1.getD
 g.2.2.1.toNat
 ((0 :
 Int),
 (0 :
 Int),
 (0 :
 Int))).2.2 ∧
 True) ∧
 True ∧
 (True ∧
 True) ∧
 (0 :
 Int) =
 (0 :
 Int) ∧
 g_1.1 =
 g_1.1 ∧
 True ∧
 false =
 false ∧
 (True ∧
 True) ∧
 (x.2.2.1.getD
 g.2.2.1.toNat
 ((0 :
 Int),
 (0 :
 Int),
 (0 :
 Int))).1 =
 (x.2.2.1.getD
 g.2.2.1.toNat
 ((0 :
 Int),
 (0 :
 Int),
 (0 :
 Int))).1 ∧
 decide
 ((x.2.2.1.getD
 g.2.2.1.toNat
 ((0 :
 Int),
 (0 :
 Int),
 (0 :
 Int))).1 <
 (1 :
 Int)) =
 decide
 ((x.2.2.1.getD
 g.2.2.1.toNat
 ((0 :
 Int),
 (0 :
 Int),
 (0 :
 Int))).1 <
 (1 :
 Int)) ∧
 decide
 ((x.2.2.1.getD
 g.2.2.1.toNat
 ((0 :
 Int),
 (0 :
 Int),
 (0 :
 Int))).1 <
 (1 :
 Int)) =
 decide
 ((x.2.2.1.getD
 g.2.2.1.toNat
 ((0 :
 Int),
 (0 :
 Int),
 (0 :
 Int))).1 <
 (1 :
 Int)) ∧
 True ∧
 True ∧
 True ∧
 (decide
 ((x.2.2.1.getD
 g.2.2.1.toNat
 ((0 :
 Int),
 (0 :
 Int),
 (0 :
 Int))).1 <
 (1 :
 Int)) ||
 decide
 ((3 :
 Int) <
 (x.2.2.1.getD
 g.2.2.1.toNat
 ((0 :
 Int),
 (0 :
 Int),
 (0 :
 Int))).1)) =
 (decide
 ((x.2.2.1.getD
 g.2.2.1.toNat
 ((0 :
 Int),
 (0 :
 Int),
 (0 :
 Int))).1 <
 (1 :
 Int)) ||
 decide
 ((3 :
 Int) <
 (x.2.2.1.getD
 g.2.2.1.toNat
 ((0 :
 Int),
 (0 :
 Int),
 (0 :
 Int))).1)) ∧
 false =
 false ∧
 (True ∧
 True) ∧
 (x.2.2.1.getD
 g.2.2.1.toNat
 ((0 :
 Int),
 (0 :
 Int),
 (0 :
 Int))).2.1 =
 (x.2.2.1.getD
 g.2.2.1.toNat
 ((0 :
 Int),
 (0 :
 Int),
 (0 :
 Int))).2.1 ∧
 decide
 ((x.2.2.1.getD
 g.2.2.1.toNat
 ((0 :
 Int),
 (0 :
 Int),
 (0 :
 Int))).2.1 <
 (0 :
 Int)) =
 decide
 ((x.2.2.1.getD
 g.2.2.1.toNat
 ((0 :
 Int),
 (0 :
 Int),
 (0 :
 Int))).2.1 <
 (0 :
 Int)) ∧
 false =
 false ∧
 (True ∧
 True) ∧
 (x.2.2.1.getD
 g.2.2.1.toNat
 ((0 :
 Int),
 (0 :
 Int),
 (0 :
 Int))).2.1 =
 (x.2.2.1.getD
 g.2.2.1.toNat
 ((0 :
 Int),
 (0 :
 Int),
 (0 :
 Int))).2.1 ∧
 (True ∧
 True) ∧
 (True ∧
 True) ∧
 (True ∧
 True) ∧
 True ∧
 (↑g.1.2.1.length :
 Int) =
 (↑g.1.2.1.length :
 Int) ∧
 decide
 ((↑g.1.2.1.length :
 Int) ≤
 (x.2.2.1.getD
 g.2.2.1.toNat
 ((0 :
 Int),
 (0 :
 Int),
 (0 :
 Int))).2.1) =
 decide
 ((↑g.1.2.1.length :
 Int) ≤
 (x.2.2.1.getD
 g.2.2.1.toNat
 ((0 :
 Int),
 (0 :
 Int),
 (0 :
 Int))).2.1) ∧
 decide
 ((↑g.1.2.1.length :
 Int) ≤
 (x.2.2.1.getD
 g.2.2.1.toNat
 ((0 :
 Int),
 (0 :
 Int),
 (0 :
 Int))).2.1) =
 decide
 ((↑g.1.2.1.length :
 Int) ≤
 (x.2.2.1.getD
 g.2.2.1.toNat
 ((0 :
 Int),
 (0 :
 Int),
 (0 :
 Int))).2.1) ∧
 false =
 false ∧
 (True ∧
 True) ∧
 (x.2.2.1.getD
 g.2.2.1.toNat
 ((0 :
 Int),
 (0 :
 Int),
 (0 :
 Int))).1 =
 (x.2.2.1.getD
 g.2.2.1.toNat
 ((0 :
 Int),
 (0 :
 Int),
 (0 :
 Int))).1 ∧
 ((x.2.2.1.getD
 g.2.2.1.toNat
 ((0 :
 Int),
 (0 :
 Int),
 (0 :
 Int))).1 ==
 (1 :
 Int)) =
 ((x.2.2.1.getD
 g.2.2.1.toNat
 ((0 :
 Int),
 (0 :
 Int),
 (0 :
 Int))).1 ==
 (1 :
 Int)) ∧
 (True ∧
 True) ∧
 (True ∧
 True) ∧
 (True ∧
 True) ∧
 True ∧
 (True ∧
 True) ∧
 (x.2.2.1.getD
 g.2.2.1.toNat
 ((0 :
 Int),
 (0 :
 Int),
 (0 :
 Int))).2.1 =
 (x.2.2.1.getD
 g.2.2.1.toNat
 ((0 :
 Int),
 (0 :
 Int),
 (0 :
 Int))).2.1 ∧
 ((True ∧
 True ∧
 True) ∧
 (x.2.2.1.getD
 g.2.2.1.toNat
 ((0 :
 Int),
 (0 :
 Int),
 (0 :
 Int))).2.1.toNat =
 (x.2.2.1.getD
 g.2.2.1.toNat
 ((0 :
 Int),
 (0 :
 Int),
 (0 :
 Int))).2.1.toNat) ∧
 ((True ∧
 True ∧
 True) ∧
 (x.2.2.1.getD
 g.2.2.1.toNat
 ((0 :
 Int),
 (0 :
 Int),
 (0 :
 Int))).2.1.toNat =
 (x.2.2.1.getD
 g.2.2.1.toNat
 ((0 :
 Int),
 (0 :
 Int),
 (0 :
 Int))).2.1.toNat) ∧
 (g.1.2.1.getD
 (x.2.2.1.getD
 g.2.2.1.toNat
 ((0 :
 Int),
 (0 :
 Int),
 (0 :
 Int))).2.1.toNat
 ((0 :
 Int),
 (0 :
 Int))).2 =
 (g.1.2.1.getD
 (x.2.2.1.getD
 g.2.2.1.toNat
 ((0 :
 Int),
 (0 :
 Int),
 (0 :
 Int))).2.1.toNat
 ((0 :
 Int),
 (0 :
 Int))).2 ∧
 decide
 ((0 :
 Int) <
 (g.1.2.1.getD
 (x.2.2.1.getD
 g.2.2.1.toNat
 ((0 :
 Int),
 (0 :
 Int),
 (0 :
 Int))).2.1.toNat
 ((0 :
 Int),
 (0 :
 Int))).2) =
 decide
 ((0 :
 Int) <
 (g.1.2.1.getD
 (x.2.2.1.getD
 g.2.2.1.toNat
 ((0 :
 Int),
 (0 :
 Int),
 (0 :
 Int))).2.1.toNat
 ((0 :
 Int),
 (0 :
 Int))).2) ∧
 (((x.2.2.1.getD
 g.2.2.1.toNat
 ((0 :
 Int),
 (0 :
 Int),
 (0 :
 Int))).1 ==
 (1 :
 Int)) ==
 decide
 ((0 :
 Int) <
 (g.1.2.1.getD
 (x.2.2.1.getD
 g.2.2.1.toNat
 ((0 :
 Int),
 (0 :
 Int),
 (0 :
 Int))).2.1.toNat
 ((0 :
 Int),
 (0 :
 Int))).2)) =
 (((x.2.2.1.getD
 g.2.2.1.toNat
 ((0 :
 Int),
 (0 :
 Int),
 (0 :
 Int))).1 ==
 (1 :
 Int)) ==
 decide
 ((0 :
 Int) <
 (g.1.2.1.getD
 (x.2.2.1.getD
 g.2.2.1.toNat
 ((0 :
 Int),
 (0 :
 Int),
 (0 :
 Int))).2.1.toNat
 ((0 :
 Int),
 (0 :
 Int))).2)) ∧
 True ∧
 True ∧
 True ∧
 (True ∧
 True) ∧
 (x.2.2.1.getD
 g.2.2.1.toNat
 ((0 :
 Int),
 (0 :
 Int),
 (0 :
 Int))).1 =
 (x.2.2.1.getD
 g.2.2.1.toNat
 ((0 :
 Int),
 (0 :
 Int),
 (0 :
 Int))).1 ∧
 true =
 true ∧
 ((x.2.2.1.getD
 g.2.2.1.toNat
 ((0 :
 Int),
 (0 :
 Int),
 (0 :
 Int))).1 ==
 (1 :
 Int)) =
 ((x.2.2.1.getD
 g.2.2.1.toNat
 ((0 :
 Int),
 (0 :
 Int),
 (0 :
 Int))).1 ==
 (1 :
 Int)) ∧
 (True ∧
 True) ∧
 (True ∧
 True) ∧
 (x.2.2.1.getD
 g.2.2.1.toNat
 ((0 :
 Int),
 (0 :
 Int),
 (0 :
 Int))).2.2 =
 (x.2.2.1.getD
 g.2.2.1.toNat
 ((0 :
 Int),
 (0 :
 Int),
 (0 :
 Int))).2.2 ∧
 g_1.1 =
 g_1.1 ∧
 g_1.1 =
 g_1.1 ∧
 false =
 false ∧
 (True ∧
 True) ∧
 (True ∧
 True) ∧
 (x.2.2.1.getD
 g.2.2.1.toNat
 ((0 :
 Int),
 (0 :
 Int),
 (0 :
 Int))).2.1 =
 (x.2.2.1.getD
 g.2.2.1.toNat
 ((0 :
 Int),
 (0 :
 Int),
 (0 :
 Int))).2.1 ∧
 g_1.1 =
 g_1.1 ∧
 True ∧
 True ∧
 True ∧
 True ∧
 True ∧
 True ∧
 True ∧
 True ∧
 True ∧
 True ∧
 True ∧
 True ∧
 True ∧
 True ∧
 True ∧
 True ∧
 True ∧
 True ∧
 True ∧
 True ∧
 True ∧
 True ∧
 True ∧
 True ∧
 True ∧
 True ∧
 True ∧
 True ∧
 True ∧
 True ∧
 True ∧
 True ∧
 True ∧
 True ∧
 True ∧
 True ∧
 True ∧
 True ∧
 True ∧
 True ∧
 True ∧
 True ∧
 (True ∧
 True) ∧
 True ∧
 True ∧
 (True ∧
 True) ∧
 True ∧
 True ∧
 True ∧
 True ∧
 True ∧
 True ∧
 True ∧
 True ∧
 True ∧
 True ∧
 True ∧
 True ∧
 True ∧
 True ∧
 True ∧
 True ∧
 True ∧
 True ∧
 True ∧
 True ∧
 True ∧
 x.2.2.1 =
 x.2.2.1 ∧
 (↑x.2.2.1.length :
 Int) =
 (↑x.2.2.1.length :
 Int) ∧
 g.2.2.1 =
 g.2.2.1 ∧
 true =
 true ∧
 True ∧
 ((x.2.2.1.getD
 g.2.2.1.toNat
 ((0 :
 Int),
 (0 :
 Int),
 (0 :
 Int))).1 =
 (x.2.2.1.getD
 g.2.2.1.toNat
 ((0 :
 Int),
 (0 :
 Int),
 (0 :
 Int))).1 ∧
 (x.2.2.1.getD
 g.2.2.1.toNat
 ((0 :
 Int),
 (0 :
 Int),
 (0 :
 Int))).2.1 =
 (x.2.2.1.getD
 g.2.2.1.toNat
 ((0 :
 Int),
 (0 :
 Int),
 (0 :
 Int))).2.1 ∧
 (x.2.2.1.getD
 g.2.2.1.toNat
 ((0 :
 Int),
 (0 :
 Int),
 (0 :
 Int))).2.2 =
 (x.2.2.1.getD
 g.2.2.1.toNat
 ((0 :
 Int),
 (0 :
 Int),
 (0 :
 Int))).2.2 ∧
 True) ∧
 True ∧
 (True ∧
 True) ∧
 ((x.2.2.1.getD
 g.2.2.1.toNat
 ((0 :
 Int),
 (0 :
 Int),
 (0 :
 Int))).1 =
 (x.2.2.1.getD
 g.2.2.1.toNat
 ((0 :
 Int),
 (0 :
 Int),
 (0 :
 Int))).1 ∧
 (x.2.2.1.getD
 g.2.2.1.toNat
 ((0 :
 Int),
 (0 :
 Int),
 (0 :
 Int))).2.1 =
 (x.2.2.1.getD
 g.2.2.1.toNat
 ((0 :
 Int),
 (0 :
 Int),
 (0 :
 Int))).2.1 ∧
 (x.2.2.1.getD
 g.2.2.1.toNat
 ((0 :
 Int),
 (0 :
 Int),
 (0 :
 Int))).2.2 =
 (x.2.2.1.getD
 g.2.2.1.toNat
 ((0 :
 Int),
 (0 :
 Int),
 (0 :
 Int))).2.2 ∧
 True) ∧
 True ∧
 True ∧
 True ∧
 True ∧
 True ∧
 True ∧
 True ∧
 True ∧
 True ∧
 True ∧
 True) ∧
 (hasB
 (g.1.2.2.getD g_1.1.toNat
 ((0 : Int) ::
 (0 : Int) ::
 (0 : Int) :: (0 : Int) :: ([] : List Int)))
 g_2.1 =
 false →
 ((0 : Int) ≤
 (x.2.2.1.getD g.2.2.1.toNat
 ((0 : Int), (0 : Int), (0 : Int))).2.1 ∧
 (x.2.2.1.getD g.2.2.1.toNat
 ((0 : Int), (0 : Int), (0 : Int))).2.1 <
 (↑g.1.2.1.length : Int)) ∧
 ((0 : Int) ≤ g_1.1 ∧
 g_1.1 < (↑g.1.2.2.length : Int)) ∧
 Holds True ∧
 ((0 : Int) ≤ g_1.1 ∧
 g_1.1 < (↑g.1.2.2.length : Int)) ∧
 (g.2.1.length +
 (((0 : Int) :: ([] : List Int)).set
 (0 : Nat) (0 : Int)).length ≤
 (9223372036854775807 : Nat) ∧
 (g.2.1.length +
 (((0 : Int) ::
 ([] : List Int)).set
 (0 : Nat) (0 : Int)).length +
 (g.2.1.length +
 (((0 : Int) ::
 ([] : List Int)).set
 (0 : Nat)
 (0 : Int)).length) /
 (4 : Nat) +
 (192 : Nat)) *
 (8 : Nat) ≤
 (281474976710656 : Nat)) ∧
 ((-9223372036854775808 : Int) ≤
 g.2.2.1 + (1 : Int) ∧
 g.2.2.1 + (1 : Int) ≤
 (9223372036854775807 : Int)) ∧
 (((0 : Int) ≤ g.2.2.1 + (1 : Int) ∧
 g.2.2.1 + (1 : Int) ≤
 (↑x.2.2.1.length : Int) ∧
 plV x.1 x.2.1
 (List.take
 (g.2.2.1 +
 (1 : Int)).toNat
 x.2.2.1) =
 (g.1.2.1.set
 (x.2.2.1.getD
 g.2.2.1.toNat
 ((0 : Int),
 (0 : Int),
 (0 :
 Int))).2.1.toNat
 (g_1.1, g_2.1),
 g.2.1 ++
 ((0 : Int) ::
 ([] : List Int)).set
 (0 : Nat) (0 : Int)) ∧
 (↑(g.2.1 ++
 ((0 : Int) ::
 ([] :
 List Int)).set
 (0 : Nat)
 (0 : Int)).length :
 Int) =
 g.2.2.1 + (1 : Int) ∧
 RelV x.1
 (g.1.2.1.set
 (x.2.2.1.getD
 g.2.2.1.toNat
 ((0 : Int),
 (0 : Int),
 (0 :
 Int))).2.1.toNat
 (g_1.1, g_2.1))
 (g.1.2.2.set
 g_1.1.toNat
 (putB
 (g.1.2.2.getD
 g_1.1.toNat
 ((0 : Int) ::
 (0 : Int) ::
 (0 : Int) ::
 (0 : Int) ::
 ([] :
 List Int)))
 g_2.1 true))) ∧
 ((↑x.2.2.1.length : Int) -
 (g.2.2.1 +
 (1 : Int))).toNat <
 ((↑x.2.2.1.length : Int) -
 g.2.2.1).toNat) ∧
 ((True ∧ True) ∧
 True ∧
 x.2.2.1 = x.2.2.1 ∧
 (↑x.2.2.1.length : Int) =
 (↑x.2.2.1.length :
 Int) ∧
 g.2.2.1 + (1 : Int) =
 g.2.2.1 + (1 : Int) ∧
 True) ∧
 ((x.1 = x.1 ∧ True ∧ True ∧ True) ∧
 g.1.2.1.set
 (x.2.2.1.getD
 g.2.2.1.toNat
 ((0 : Int), (0 : Int),
 (0 :
 Int))).2.1.toNat
 (g_1.1, g_2.1) =
 g.1.2.1.set
 (x.2.2.1.getD
 g.2.2.1.toNat
 ((0 : Int), (0 : Int),
 (0 :
 Int))).2.1.toNat
 (g_1.1, g_2.1) ∧
 g.1.2.2.set g_1.1.toNat
 (putB
 (g.1.2.2.getD
 g_1.1.toNat
 ((0 : Int) ::
 (0 : Int) ::
 (0 : Int) ::
 (0 : Int) ::
 ([] :
 List Int)))
 g_2.1 true) =
 g.1.2.2.set
 g_1.1.toNat
 (putB
 (g.1.2.2.getD
 g_1.1.toNat
 ((0 : Int) ::
 (0 : Int) ::
 (0 : Int) ::
 (0 : Int) ::
 ([] :
 List Int)))
 g_2.1 true) ∧
 g.2.1 ++
 ((0 : Int) ::
 ([] : List Int)).set
 (0 : Nat) (0 : Int) =
 g.2.1 ++
 ((0 : Int) ::
 ([] : List Int)).set
 (0 : Nat) (0 : Int) ∧
 True) ∧
 True)))) ∧
 (((x.2.2.1.getD g.2.2.1.toNat ((0 : Int), (0 : Int), (0 : Int))).1 ==
 (1 : Int)) =
 false →
 (((x.2.2.1.getD g.2.2.1.toNat ((0 : Int), (0 : Int), (0 : Int))).1 ==
 (2 : Int)) =
 true →
 ((0 : Int) ≤
 (x.2.2.1.getD g.2.2.1.toNat
 ((0 : Int), (0 : Int), (0 : Int))).2.1 ∧
 (x.2.2.1.getD g.2.2.1.toNat
 ((0 : Int), (0 : Int), (0 : Int))).2.1 <
 (↑g.1.2.1.length : Int)) ∧
 ((0 : Int) ≤
 (g.1.2.1.getD
 (x.2.2.1.getD g.2.2.1.toNat
 ((0 : Int), (0 : Int), (0 : Int))).2.1.toNat
 ((0 : Int), (0 : Int))).1 ∧
 (g.1.2.1.getD
 (x.2.2.1.getD g.2.2.1.toNat
 ((0 : Int), (0 : Int), (0 : Int))).2.1.toNat
 ((0 : Int), (0 : Int))).1 <
 (↑g.1.2.2.length : Int)) ∧
 Holds True ∧
 ((0 : Int) ≤
 (g.1.2.1.getD
 (x.2.2.1.getD g.2.2.1.toNat
 ((0 : Int), (0 : Int), (0 : Int))).2.1.toNat
 ((0 : Int), (0 : Int))).1 ∧
 (g.1.2.1.getD
 (x.2.2.1.getD g.2.2.1.toNat
 ((0 : Int), (0 : Int), (0 : Int))).2.1.toNat
 ((0 : Int), (0 : Int))).1 <
 (↑g.1.2.2.length : Int)) ∧
 ((0 : Int) ≤
 (x.2.2.1.getD g.2.2.1.toNat
 ((0 : Int), (0 : Int), (0 : Int))).2.1 ∧
 (x.2.2.1.getD g.2.2.1.toNat
 ((0 : Int), (0 : Int), (0 : Int))).2.1 <
 (↑g.1.2.1.length : Int)) ∧
 (g.2.1.length +
 (((0 : Int) :: ([] : List Int)).set (0 : Nat) (0 : Int)).length ≤
 (9223372036854775807 : Nat) ∧
 (g.2.1.length +
 (((0 : Int) :: ([] : List Int)).set (0 : Nat)
 (0 : Int)).length +
 (g.2.1.length +
 (((0 : Int) :: ([] : List Int)).set (0 : Nat)
 (0 : Int)).length) /
 (4 : Nat) +
 (192 : Nat)) *
 (8 : Nat) ≤
 (281474976710656 : Nat)) ∧
 ((-9223372036854775808 : Int) ≤ g.2.2.1 + (1 : Int) ∧
 g.2.2.1 + (1 : Int) ≤ (9223372036854775807 : Int)) ∧
 (((0 : Int) ≤ g.2.2.1 + (1 : Int) ∧
 g.2.2.1 + (1 : Int) ≤ (↑x.2.2.1.length : Int) ∧
 plV x.1 x.2.1
 (List.take (g.2.2.1 + (1 : Int)).toNat
 x.2.2.1) =
 (g.1.2.1.set
 (x.2.2.1.getD g.2.2.1.toNat
 ((0 : Int), (0 : Int),
 (0 : Int))).2.1.toNat
 ((0 : Int), (0 : Int)),
 g.2.1 ++
 ((0 : Int) :: ([] : List Int)).set (0 : Nat)
 (0 : Int)) ∧
 (↑(g.2.1 ++
 ((0 : Int) :: ([] : List Int)).set (0 : Nat)
 (0 : Int)).length :
 Int) =
 g.2.2.1 + (1 : Int) ∧
 RelV x.1
 (g.1.2.1.set
 (x.2.2.1.getD g.2.2.1.toNat
 ((0 : Int), (0 : Int),
 (0 : Int))).2.1.toNat
 ((0 : Int), (0 : Int)))
 (g.1.2.2.set
 (g.1.2.1.getD
 (x.2.2.1.getD g.2.2.1.toNat
 ((0 : Int), (0 : Int),
 (0 : Int))).2.1.toNat
 ((0 : Int), (0 : Int))).1.toNat
 (putB
 (g.1.2.2.getD
 (g.1.2.1.getD
 (x.2.2.1.getD g.2.2.1.toNat
 ((0 : Int), (0 : Int),
 (0 : Int))).2.1.toNat
 ((0 : Int), (0 : Int))).1.toNat
 ((0 : Int) ::
 (0 : Int) ::
 (0 : Int) :: (0 : Int) :: ([] : List Int)))
 (g.1.2.1.getD
 (x.2.2.1.getD g.2.2.1.toNat
 ((0 : Int), (0 : Int),
 (0 : Int))).2.1.toNat
 ((0 : Int), (0 : Int))).2
 false))) ∧
 ((↑x.2.2.1.length : Int) -
 (g.2.2.1 + (1 : Int))).toNat <
 ((↑x.2.2.1.length : Int) - g.2.2.1).toNat) ∧
 ((True ∧ True) ∧
 True ∧
 x.2.2.1 = x.2.2.1 ∧
 (↑x.2.2.1.length : Int) =
 (↑x.2.2.1.length : Int) ∧
 g.2.2.1 + (1 : Int) = g.2.2.1 + (1 : Int) ∧
 True) ∧
 ((x.1 = x.1 ∧ True ∧ True ∧ True) ∧
 g.1.2.1.set
 (x.2.2.1.getD g.2.2.1.toNat
 ((0 : Int), (0 : Int), (0 : Int))).2.1.toNat
 ((0 : Int), (0 : Int)) =
 g.1.2.1.set
 (x.2.2.1.getD g.2.2.1.toNat
 ((0 : Int), (0 : Int), (0 : Int))).2.1.toNat
 ((0 : Int), (0 : Int)) ∧
 g.1.2.2.set
 (g.1.2.1.getD
 (x.2.2.1.getD g.2.2.1.toNat
 ((0 : Int), (0 : Int),
 (0 : Int))).2.1.toNat
 ((0 : Int), (0 : Int))).1.toNat
 (putB
 (g.1.2.2.getD
 (g.1.2.1.getD
 (x.2.2.1.getD g.2.2.1.toNat
 ((0 : Int), (0 : Int),
 (0 : Int))).2.1.toNat
 ((0 : Int), (0 : Int))).1.toNat
 ((0 : Int) ::
 (0 : Int) ::
 (0 : Int) :: (0 : Int) :: ([] : List Int)))
 (g.1.2.1.getD
 (x.2.2.1.getD g.2.2.1.toNat
 ((0 : Int), (0 : Int),
 (0 : Int))).2.1.toNat
 ((0 : Int), (0 : Int))).2
 false) =
 g.1.2.2.set
 (g.1.2.1.getD
 (x.2.2.1.getD g.2.2.1.toNat
 ((0 : Int), (0 : Int),
 (0 : Int))).2.1.toNat
 ((0 : Int), (0 : Int))).1.toNat
 (putB
 (g.1.2.2.getD
 (g.1.2.1.getD
 (x.2.2.1.getD g.2.2.1.toNat
 ((0 : Int), (0 : Int),
 (0 : Int))).2.1.toNat
 ((0 : Int), (0 : Int))).1.toNat
 ((0 : Int) ::
 (0 : Int) ::
 (0 : Int) :: (0 : Int) :: ([] : List Int)))
 (g.1.2.1.getD
 (x.2.2.1.getD g.2.2.1.toNat
 ((0 : Int), (0 : Int),
 (0 : Int))).2.1.toNat
 ((0 : Int), (0 : Int))).2
 false) ∧
 g.2.1 ++
 ((0 : Int) :: ([] : List Int)).set (0 : Nat)
 (0 : Int) =
 g.2.1 ++
 ((0 : Int) :: ([] : List Int)).set (0 : Nat)
 (0 : Int) ∧
 True) ∧
 True) ∧
 (((x.2.2.1.getD g.2.2.1.toNat ((0 : Int), (0 : Int), (0 : Int))).1 ==
 (2 : Int)) =
 false →
 (((x.2.2.1.getD g.2.2.1.toNat ((0 : Int), (0 : Int), (0 : Int))).1 ==
 (3 : Int)) =
 true →
 ((0 : Int) ≤
 (x.2.2.1.getD g.2.2.1.toNat
 ((0 : Int), (0 : Int), (0 : Int))).2.1 ∧
 (x.2.2.1.getD g.2.2.1.toNat
 ((0 : Int), (0 : Int), (0 : Int))).2.1 <
 (↑g.1.2.1.length : Int)) ∧
 ((((0 : Int) ≤ (0 : Int) ∧
 (0 : Int) ≤ x.1 ∧
 (-1 : Int) =
 (bst
 (okc
 (x.2.2.1.getD g.2.2.1.toNat
 ((0 : Int), (0 : Int), (0 : Int))).2.2
 (g.1.2.1.getD
 (x.2.2.1.getD g.2.2.1.toNat
 ((0 : Int), (0 : Int), (0 : Int))).2.1.toNat
 ((0 : Int), (0 : Int))).1)
 (ldT g.1.2.2) (Int.toNat (0 : Int))).1) ∧
 True) ∧
 ((True ∧ True) ∧
 (x.2.2.1.getD g.2.2.1.toNat
 ((0 : Int), (0 : Int), (0 : Int))).2.2 =
 (x.2.2.1.getD g.2.2.1.toNat
 ((0 : Int), (0 : Int), (0 : Int))).2.2 ∧
 (g.1.2.1.getD
 (x.2.2.1.getD g.2.2.1.toNat
 ((0 : Int), (0 : Int), (0 : Int))).2.1.toNat
 ((0 : Int), (0 : Int))).1 =
 (g.1.2.1.getD
 (x.2.2.1.getD g.2.2.1.toNat
 ((0 : Int), (0 : Int), (0 : Int))).2.1.toNat
 ((0 : Int), (0 : Int))).1 ∧
 (-1 : Int) = (-1 : Int) ∧
 x.1 = x.1 ∧ (0 : Int) = (0 : Int) ∧ True) ∧
 ((x.1 = x.1 ∧ True ∧ True ∧ True) ∧
 g.1.2.1 = g.1.2.1 ∧
 g.1.2.2 = g.1.2.2 ∧
 ((x.2.2.1.getD g.2.2.1.toNat
 ((0 : Int), (0 : Int), (0 : Int))).1 =
 (x.2.2.1.getD g.2.2.1.toNat
 ((0 : Int), (0 : Int), (0 : Int))).1 ∧
 (x.2.2.1.getD g.2.2.1.toNat
 ((0 : Int), (0 : Int), (0 : Int))).2.1 =
 (x.2.2.1.getD g.2.2.1.toNat
 ((0 : Int), (0 : Int), (0 : Int))).2.1 ∧
 (x.2.2.1.getD g.2.2.1.toNat
 ((0 : Int), (0 : Int), (0 : Int))).2.2 =
 (x.2.2.1.getD g.2.2.1.toNat
 ((0 : Int), (0 : Int), (0 : Int))).2.2 ∧
 True) ∧
 g.2.1 = g.2.1 ∧
 ((x.2.2.1.getD g.2.2.1.toNat
 ((0 : Int), (0 : Int), (0 : Int))).1 =
 (x.2.2.1.getD g.2.2.1.toNat
 ((0 : Int), (0 : Int), (0 : Int))).1 ∧
 (x.2.2.1.getD g.2.2.1.toNat
 ((0 : Int), (0 : Int), (0 : Int))).2.1 =
 (x.2.2.1.getD g.2.2.1.toNat
 ((0 : Int), (0 : Int), (0 : Int))).2.1 ∧
 (x.2.2.1.getD g.2.2.1.toNat
 ((0 : Int), (0 : Int), (0 : Int))).2.2 =
 (x.2.2.1.getD g.2.2.1.toNat
 ((0 : Int), (0 : Int), (0 : Int))).2.2 ∧
 True) ∧
 True) ∧
 (True ∧ True) ∧
 ((x.2.2.1.getD g.2.2.1.toNat
 ((0 : Int), (0 : Int), (0 : Int))).1 =
 (x.2.2.1.getD g.2.2.1.toNat
 ((0 : Int), (0 : Int), (0 : Int))).1 ∧
 (x.2.2.1.getD g.2.2.1.toNat
 ((0 : Int), (0 : Int), (0 : Int))).2.1 =
 (x.2.2.1.getD g.2.2.1.toNat
 ((0 : Int), (0 : Int), (0 : Int))).2.1 ∧
 (x.2.2.1.getD g.2.2.1.toNat
 ((0 : Int), (0 : Int), (0 : Int))).2.2 =
 (x.2.2.1.getD g.2.2.1.toNat
 ((0 : Int), (0 : Int), (0 : Int))).2.2 ∧
 True) ∧
 True ∧
 (True ∧ True) ∧
 (0 : Int) = (0 : Int) ∧
 True ∧
 True ∧
 false = false ∧
 (True ∧ True) ∧
 (x.2.2.1.getD g.2.2.1.toNat
 ((0 : Int), (0 : Int), (0 : Int))).1 =
 (x.2.2.1.getD g.2.2.1.toNat
 ((0 : Int), (0 : Int), (0 : Int))).1 ∧
 decide
 ((x.2.2.1.getD g.2.2.1.toNat
 ((0 : Int), (0 : Int),
 (0 : Int))).1 <
 (1 : Int)) =
 decide
 ((x.2.2.1.getD g.2.2.1.toNat
 ((0 : Int), (0 : Int),
 (0 : Int))).1 <
 (1 : Int)) ∧
 decide
 ((x.2.2.1.getD g.2.2.1.toNat
 ((0 : Int), (0 : Int),
 (0 : Int))).1 <
 (1 : Int)) =
 decide
 ((x.2.2.1.getD g.2.2.1.toNat
 ((0 : Int), (0 : Int),
 (0 : Int))).1 <
 (1 : Int)) ∧
 True ∧
 True ∧
 True ∧
 (decide
 ((x.2.2.1.getD
 g.2.2.1.toNat
 ((0 : Int), (0 : Int),
 (0 : Int))).1 <
 (1 : Int)) ||
 decide
 ((3 : Int) <
 (x.2.2.1.getD
 g.2.2.1.toNat
 ((0 : Int), (0 : Int),
 (0 : Int))).1)) =
 (decide
 ((x.2.2.1.getD
 g.2.2.1.toNat
 ((0 : Int), (0 : Int),
 (0 : Int))).1 <
 (1 : Int)) ||
 decide
 ((3 : Int) <
 (x.2.2.1.getD
 g.2.2.1.toNat
 ((0 : Int), (0 : Int),
 (0 : Int))).1)) ∧
 false = false ∧
 (True ∧ True) ∧
 (x.2.2.1.getD
 g.2.2.1.toNat
 ((0 : Int), (0 : Int),
 (0 : Int))).2.1 =
 (x.2.2.1.getD
 g.2.2.1.toNat
 ((0 : Int), (0 : Int),
 (0 : Int))).2.1 ∧
 decide
 ((x.2.2.1.getD
 g.2.2.1.toNat
 ((0 : Int),
 (0 : Int),
 (0 :
 Int))).2.1 <
 (0 : Int)) =
 decide
 ((x.2.2.1.getD
 g.2.2.1.toNat
 ((0 : Int),
 (0 : Int),
 (0 :
 Int))).2.1 <
 (0 : Int)) ∧
 false = false ∧
 (True ∧ True) ∧
 (x.2.2.1.getD
 g.2.2.1.toNat
 ((0 : Int),
 (0 : Int),
 (0 :
 Int))).2.1 =
 (x.2.2.1.getD
 g.2.2.1.toNat
 ((0 : Int),
 (0 : Int),
 (0 :
 Int))).2.1 ∧
 (True ∧ True) ∧
 (True ∧ True) ∧
 (True ∧ True) ∧
 True ∧
 (↑g.1.2.1.length :
 Int) =
 (↑g.1.2.1.length :
 Int) ∧
 decide
 ((↑g.1.2.1.length :
 Int) ≤
 (x.2.2.1.getD
 g.2.2.1.toNat
 ((0 :
 Int),
 (0 :
 Int),
 (0 :
 Int))).2.1) =
 decide
 ((↑g.1.2.1.length :
 Int) ≤
 (x.2.2.1.getD
 g.2.2.1.toNat
 ((0 :
 Int),
 (0 :
 Int),
 (0 :
 Int))).2.1) ∧
 decide
 ((↑g.1.2.1.length :
 Int) ≤
 (x.2.2.1.getD
 g.2.2.1.toNat
 ((0 :
 Int),
 (0 :
 Int),
 (0 :
 Int))).2.1) =
 decide
 ((↑g.1.2.1.length :
 Int) ≤
 (x.2.2.1.getD
 g.2.2.1.toNat
 ((0 :
 Int),
 (0 :
 Int),
 (0 :
 Int))).2.1) ∧
 false =
 false ∧
 (True ∧
 True) ∧
 (x.2.2.1.getD
 g.2.2.1.toNat
 ((0 :
 Int),
 (0 :
 Int),
 (0 :
 Int))).1 =
 (x.2.2.1.getD
 g.2.2.1.toNat
 ((0 :
 Int),
 (0 :
 Int),
 (0 :
 Int))).1 ∧
 ((x.2.2.1.getD
 g.2.2.1.toNat
 ((0 :
 Int),
 (0 :
 Int),
 (0 :
 Int))).1 ==
 (1 :
 Int)) =
 ((x.2.2.1.getD
 g.2.2.1.toNat
 ((0 :
 Int),
 (0 :
 Int),
 (0 :
 Int))).1 ==
 (1 :
 Int)) ∧
 (True ∧
 True) ∧
 (True ∧
 True) ∧
 (True ∧
 True) ∧
 True ∧
 (True ∧
 True) ∧
 (x.2.2.1.getD
 g.2.2.1.toNat
 ((0 :
 Int),
 (0 :
 Int),
 (0 :
 Int))).2.1 =
 (x.2.2.1.getD
 g.2.2.1.toNat
 ((0 :
 Int),
 (0 :
 Int),
 (0 :
 Int))).2.1 ∧
 ((True ∧
 True ∧
 True) ∧
 (x.2.2.1.getD
 g.2.2.1.toNat
 ((0 :
 Int),
 (0 :
 Int),
 (0 :
 Int))).2.1.toNat =
 (x.2.2.1.getD
 g.2.2.1.toNat
 ((0 :
 Int),
 (0 :
 Int),
 (0 :
 Int))).2.1.toNat) ∧
 ((True ∧
 True ∧
 True) ∧
 (x.2.2.1.getD
 g.2.2.1.toNat
 ((0 :
 Int),
 (0 :
 Int),
 (0 :
 Int))).2.1.toNat =
 (x.2.2.1.getD
 g.2.2.1.toNat
 ((0 :
 Int),
 (0 :
 Int),
 (0 :
 Int))).2.1.toNat) ∧
 (g.1.2.1.getD
 (x.2.2.1.getD
 g.2.2.1.toNat
 ((0 :
 Int),
 (0 :
 Int),
 (0 :
 Int))).2.1.toNat
 ((0 :
 Int),
 (0 :
 Int))).2 =
 (g.1.2.1.getD
 (x.2.2.1.getD
 g.2.2.1.toNat
 ((0 :
 Int),
 (0 :
 Int),
 (0 :
 Int))).2.1.toNat
 ((0 :
 Int),
 (0 :
 Int))).2 ∧
 decide
 ((0 :
 Int) <
 (g.1.2.1.getD
 (x.2.2.1.getD
 g.2.2.1.toNat
 ((0 :
 Int),
 (0 :
 Int),
 (0 :
 Int))).2.1.toNat
 ((0 :
 Int),
 (0 :
 Int))).2) =
 decide
 ((0 :
 Int) <
 (g.1.2.1.getD
 (x.2.2.1.getD
 g.2.2.1.toNat
 ((0 :
 Int),
 (0 :
 Int),
 (0 :
 Int))).2.1.toNat
 ((0 :
 Int),
 (0 :
 Int))).2) ∧
 (((x.2.2.1.getD
 g.2.2.1.toNat
 ((0 :
 Int),
 (0 :
 Int),
 (0 :
 Int))).1 ==
 (1 :
 Int)) ==
 decide
 ((0 :
 Int) <
 (g.1.2.1.getD
 (x.2.2.1.getD
 g.2.2.1.toNat
 ((0 :
 Int),
 (0 :
 Int),
 (0 :
 Int))).2.1.toNat
 ((0 :
 Int),
 (0 :
 Int))).2)) =
 (((x.2.2.1.getD
 g.2.2.1.toNat
 ((0 :
 Int),
 (0 :
 Int),
 (0 :
 Int))).1 ==
 (1 :
 Int)) ==
 decide
 ((0 :
 Int) <
 (g.1.2.1.getD
 (x.2.2.1.getD
 g.2.2.1.toNat
 ((0 :
 Int),
 (0 :
 Int),
 (0 :
 Int))).2.1.toNat
 ((0 :
 Int),
 (0 :
 Int))).2)) ∧
 True ∧
 True ∧
 True ∧
 (True ∧
 True) ∧
 (x.2.2.1.getD
 g.2.2.1.toNat
 ((0 :
 Int),
 (0 :
 Int),
 (0 :
 Int))).1 =
 (x.2.2.1.getD
 g.2.2.1.toNat
 ((0 :
 Int),
 (0 :
 Int),
 (0 :
 Int))).1 ∧
 false =
 false ∧
 ((x.2.2.1.getD
 g.2.2.1.toNat
 ((0 :
 Int),
 (0 :
 Int),
 (0 :
 Int))).1 ==
 (1 :
 Int)) =
 ((x.2.2.1.getD
 g.2.2.1.toNat
 ((0 :
 Int),
 (0 :
 Int),
 (0 :
 Int))).1 ==
 (1 :
 Int)) ∧
 True ∧
 True ∧
 True ∧
 True ∧
 True ∧
 True ∧
 True ∧
 True ∧
 True ∧
 True ∧
 True ∧
 false =
 false ∧
 ((x.2.2.1.getD
 g.2.2.1.toNat
 ((0 :
 Int),
 (0 :
 Int),
 (0 :
 Int))).1 ==
 (2 :
 Int)) =
 ((x.2.2.1.getD
 g.2.2.1.toNat
 ((0 :
 Int),
 (0 :
 Int),
 (0 :
 Int))).1 ==
 (2 :
 Int)) ∧
 True ∧
 True ∧
 True ∧
 True ∧
 true =
 true ∧
 ((x.2.2.1.getD
 g.2.2.1.toNat
 ((0 :
 Int),
 (0 :
 Int),
 (0 :
 Int))).1 ==
 (3 :
 Int)) =
 ((x.2.2.1.getD
 g.2.2.1.toNat
 ((0 :
 Int),
 (0 :
 Int),
 (0 :
 Int))).1 ==
 (3 :
 Int)) ∧
 (True ∧
 True) ∧
 (True ∧
 True) ∧
 (x.2.2.1.getD
 g.2.2.1.toNat
 ((0 :
 Int),
 (0 :
 Int),
 (0 :
 Int))).2.2 =
 (x.2.2.1.getD
 g.2.2.1.toNat
 ((0 :
 Int),
 (0 :
 Int),
 (0 :
 Int))).2.2 ∧
 (True ∧
 True) ∧
 (True ∧
 True) ∧
 (True ∧
 True) ∧
 True ∧
 (True ∧
 True) ∧
 (x.2.2.1.getD
 g.2.2.1.toNat
 ((0 :
 Int),
 (0 :
 Int),
 (0 :
 Int))).2.1 =
 (x.2.2.1.getD
 g.2.2.1.toNat
 ((0 :
 Int),
 (0 :
 Int),
 (0 :
 Int))).2.1 ∧
 ((True ∧
 True ∧
 True) ∧
 (x.2.2.1.getD
 g.2.2.1.toNat
 ((0 :
 Int),
 (0 :
 Int),
 (0 :
 Int))).2.1.toNat =
 (x.2.2.1.getD
 g.2.2.1.toNat
 ((0 :
 Int),
 (0 :
 Int),
 (0 :
 Int))).2.1.toNat) ∧
 ((True ∧
 True ∧
 True) ∧
 (x.2.2.1.getD
 g.2.2.1.toNat
 ((0 :
 Int),
 (0 :
 Int),
 (0 :
 Int))).2.1.toNat =
 (x.2.2.1.getD
 g.2.2.1.toNat
 ((0 :
 Int),
 (0 :
 Int),
 (0 :
 Int))).2.1.toNat) ∧
 (g.1.2.1.getD
 (x.2.2.1.getD
 g.2.2.1.toNat
 ((0 :
 Int),
 (0 :
 Int),
 (0 :
 Int))).2.1.toNat
 ((0 :
 Int),
 (0 :
 Int))).1 =
 (g.1.2.1.getD
 (x.2.2.1.getD
 g.2.2.1.toNat
 ((0 :
 Int),
 (0 :
 Int),
 (0 :
 Int))).2.1.toNat
 ((0 :
 Int),
 (0 :
 Int))).1 ∧
 True ∧
 True ∧
 True ∧
 True ∧
 True ∧
 True ∧
 True ∧
 True ∧
 True ∧
 True ∧
 True ∧
 True ∧
 True ∧
 True ∧
 True ∧
 True ∧
 True ∧
 True ∧
 True ∧
 True ∧
 True ∧
 (True ∧
 True) ∧
 True ∧
 True ∧
 (True ∧
 True) ∧
 True ∧
 True ∧
 True ∧
 True ∧
 True ∧
 True ∧
 True ∧
 True ∧
 True ∧
 True ∧
 True ∧
 True ∧
 True ∧
 True ∧
 True ∧
 True ∧
 True ∧
 True ∧
 True ∧
 True ∧
 True ∧
 x.2.2.1 =
 x.2.2.1 ∧
 (↑x.2.2.1.length :
 Int) =
 (↑x.2.2.1.length :
 Int) ∧
 g.2.2.1 =
 g.2.2.1 ∧
 true =
 true ∧
 True ∧
 ((x.2.2.1.getD
 g.2.2.1.toNat
 ((0 :
 Int),
 (0 :
 Int),
 (0 :
 Int))).1 =
 (x.2.2.1.getD
 g.2.2.1.toNat
 ((0 :
 Int),
 (0 :
 Int),
 (0 :
 Int))).1 ∧
 (x.2.2.1.getD
 g.2.2.1.toNat
 ((0 :
 Int),
 (0 :
 Int),
 (0 :
 Int))).2.1 =
 (x.2.2.1.getD
 g.2.2.1.toNat
 ((0 :
 Int),
 (0 :
 Int),
 (0 :
 Int))).2.1 ∧
 (x.2.2.1.getD
 g.2.2.1.toNat
 ((0 :
 Int),
 (0 :
 Int),
 (0 :
 Int))).2.2 =
 (x.2.2.1.getD
 g.2.2.1.toNat
 ((0 :
 Int),
 (0 :
 Int),
 (0 :
 Int))).2.2 ∧
 True) ∧
 True ∧
 (True ∧
 True) ∧
 ((x.2.2.1.getD
 g.2.2.1.toNat
 ((0 :
 Int),
 (0 :
 Int),
 (0 :
 Int))).1 =
 (x.2.2.1.getD
 g.2.2.1.toNat
 ((0 :
 Int),
 (0 :
 Int),
 (0 :
 Int))).1 ∧
 (x.2.2.1.getD
 g.2.2.1.toNat
 ((0 :
 Int),
 (0 :
 Int),
 (0 :
 Int))).2.1 =
 (x.2.2.1.getD
 g.2.2.1.toNat
 ((0 :
 Int),
 (0 :
 Int),
 (0 :
 Int))).2.1 ∧
 (x.2.2.1.getD
 g.2.2.1.toNat
 ((0 :
 Int),
 (0 :
 Int),
 (0 :
 Int))).2.2 =
 (x.2.2.1.getD
 g.2.2.1.toNat
 ((0 :
 Int),
 (0 :
 Int),
 (0 :
 Int))).2.2 ∧
 True) ∧
 True ∧
 True ∧
 True ∧
 True ∧
 True ∧
 True ∧
 True ∧
 True ∧
 True ∧
 True ∧
 True) ∧
 ∀ (g_1 : Int × Int × Unit),
 (0 : Int) ≤ g_1.2.1 ∧
 g_1.2.1 ≤ x.1 ∧
 g_1.1 =
 (bst
 (okc
 (x.2.2.1.getD g.2.2.1.toNat
 ((0 : Int), (0 : Int), (0 : Int))).2.2
 (g.1.2.1.getD
 (x.2.2.1.getD g.2.2.1.toNat
 ((0 : Int), (0 : Int), (0 : Int))).2.1.toNat
 ((0 : Int), (0 : Int))).1)
 (ldT g.1.2.2) g_1.2.1.toNat).1 →
 ((-9223372036854775808 : Int) ≤ g_1.1 ∧
 g_1.1 ≤ (9223372036854775807 : Int)) ∧
 ((-9223372036854775808 : Int) ≤ g_1.2.1 ∧
 g_1.2.1 ≤ (9223372036854775807 : Int)) ∧
 True →
 (decide (g_1.2.1 < x.1) = true →
 (0 : Int) ≤ g_1.2.1 ∧
 ((bits BinOp.and IntKind.i64
 ((x.2.2.1.getD g.2.2.1.toNat
 ((0 : Int), (0 : Int), (0 : Int))).2.2 /
 (2 : Int) ^ min g_1.2.1.toNat IntKind.i64.bits)
 (1 : Int) ==
 (1 : Int)) =
 true →
 (bits BinOp.and IntKind.i64
 ((x.2.2.1.getD g.2.2.1.toNat
 ((0 : Int), (0 : Int), (0 : Int))).2.2 /
 (2 : Int) ^
 min g_1.2.1.toNat IntKind.i64.bits)
 (1 : Int) ==
 (1 : Int)) =
 true ∧
 (bits BinOp.and IntKind.i64
 ((x.2.2.1.getD g.2.2.1.toNat
 ((0 : Int), (0 : Int), (0 : Int))).2.2 /
 (2 : Int) ^
 min g_1.2.1.toNat IntKind.i64.bits)
 (1 : Int) ==
 (1 : Int)) =
 true) ∧
 ((bits BinOp.and IntKind.i64
 ((x.2.2.1.getD g.2.2.1.toNat
 ((0 : Int), (0 : Int), (0 : Int))).2.2 /
 (2 : Int) ^
 min g_1.2.1.toNat IntKind.i64.bits)
 (1 : Int) ==
 (1 : Int)) =
 true →
 (bits BinOp.and IntKind.i64
 ((x.2.2.1.getD g.2.2.1.toNat
 ((0 : Int), (0 : Int), (0 : Int))).2.2 /
 (2 : Int) ^
 min g_1.2.1.toNat IntKind.i64.bits)
 (1 : Int) ==
 (1 : Int)) =
 true) ∧
 ((bits BinOp.and IntKind.i64
 ((x.2.2.1.getD g.2.2.1.toNat
 ((0 : Int), (0 : Int),
 (0 : Int))).2.2 /
 (2 : Int) ^
 min g_1.2.1.toNat IntKind.i64.bits)
 (1 : Int) ==
 (1 : Int) &&
 g_1.2.1 !=
 (g.1.2.1.getD
 (x.2.2.1.getD g.2.2.1.toNat
 ((0 : Int), (0 : Int),
 (0 : Int))).2.1.toNat
 ((0 : Int), (0 : Int))).1) =
 true →
 ((bits BinOp.and IntKind.i64
 ((x.2.2.1.getD g.2.2.1.toNat
 ((0 : Int), (0 : Int),
 (0 : Int))).2.2 /
 (2 : Int) ^
 min g_1.2.1.toNat IntKind.i64.bits)
 (1 : Int) ==
 (1 : Int) &&
 g_1.2.1 !=
 (g.1.2.1.getD
 (x.2.2.1.getD g.2.2.1.toNat
 ((0 : Int), (0 : Int),
 (0 : Int))).2.1.toNat
 ((0 : Int), (0 : Int))).1) =
 true ∧
 (bits BinOp.and IntKind.i64
 ((x.2.2.1.getD g.2.2.1.toNat
 ((0 : Int), (0 : Int),
 (0 : Int))).2.2 /
 (2 : Int) ^
 min g_1.2.1.toNat IntKind.i64.bits)
 (1 : Int) ==
 (1 : Int) &&
 g_1.2.1 !=
 (g.1.2.1.getD
 (x.2.2.1.getD g.2.2.1.toNat
 ((0 : Int), (0 : Int),
 (0 : Int))).2.1.toNat
 ((0 : Int), (0 : Int))).1) =
 true) ∧
 ((0 : Int) ≤ g_1.2.1 ∧
 g_1.2.1 < (↑g.1.2.2.length : Int)) ∧
 Holds True ∧
 (decide
 ((↑(allOf
 (g.1.2.2.getD
 g_1.2.1.toNat
 ((0 : Int) ::
 (0 : Int) ::
 (0 : Int) ::
 (0 : Int) ::
 ([] :
 List
 Int)))).length :
 Int) <
 (224 : Int)) =
 true →
 (decide (g_1.1 < (0 : Int)) = false →
 ((!decide (g_1.1 < (0 : Int))) = true ∧
 (!decide (g_1.1 < (0 : Int))) =
 true) ∧
 ((0 : Int) ≤ g_1.2.1 ∧
 g_1.2.1 <
 (↑g.1.2.2.length : Int)) ∧
 Holds True ∧
 ((0 : Int) ≤ g_1.1 ∧
 g_1.1 <
 (↑g.1.2.2.length :
 Int)) ∧
 Holds True ∧
 (decide
 ((↑(allOf
 (g.1.2.2.getD
 g_1.2.1.toNat
 ((0 :
 Int) ::
 (0 :
 Int) ::
 (0 :
 Int) ::
 (0 :
 Int) ::
 ([] :
 List
 Int)))).length :
 Int) <
 (↑(allOf
 (g.1.2.2.getD
 g_1.1.toNat
 ((0 :
 Int) ::
 (0 :
 Int) ::
 (0 :
 Int) ::
 (0 :
 Int) ::
 ([] :
 List
 Int)))).length :
 Int)) =
 true →
 ((-9223372036854775808 :
 Int) ≤
 g_1.2.1 +
 (1 : Int) ∧
 g_1.2.1 +
 (1 : Int) ≤
 (9223372036854775807 :
 Int)) ∧
 (((0 : Int) ≤
 g_1.2.1 +
 (1 : Int) ∧
 g_1.2.1 +
 (1 : Int) ≤
 x.1 ∧
 g_1.2.1 =
 (bst
 (okc
 (x.2.2.1.getD
 g.2.2.1.toNat
 ((0 :
 Int),
 (0 :
 Int),
 (0 :
 Int))).2.2
 (g.1.2.1.getD
 (x.2.2.1.getD
 g.2.2.1.toNat
 ((0 :
 Int),
 (0 :
 Int),
 (0 :
 Int))).2.1.toNat
 ((0 :
 Int),
 (0 :
 Int))).1)
 (ldT
 g.1.2.2)
 (g_1.2.1 +
 (1 :
 Int)).toNat).1) ∧
 (x.1 -
 (g_1.2.1 +
 (1 :
 Int))).toNat <
 (x.1 -
 g_1.2.1).toNat) ∧
 ((True ∧ True) ∧
 (x.2.2.1.getD
 g.2.2.1.toNat
 ((0 :
 Int),
 (0 :
 Int),
 (0 :
 Int))).2.2 =
 (x.2.2.1.getD
 g.2.2.1.toNat
 ((0 :
 Int),
 (0 :
 Int),
 (0 :
 Int))).2.2 ∧
 (g.1.2.1.getD
 (x.2.2.1.getD
 g.2.2.1.toNat
 ((0 :
 Int),
 (0 :
 Int),
 (0 :
 Int))).2.1.toNat
 ((0 :
 Int),
 (0 :
 Int))).1 =
 (g.1.2.1.getD
 (x.2.2.1.getD
 g.2.2.1.toNat
 ((0 :
 Int),
 (0 :
 Int),
 (0 :
 Int))).2.1.toNat
 ((0 :
 Int),
 (0 :
 Int))).1 ∧
 g_1.2.1 =
 g_1.2.1 ∧
 x.1 =
 x.1 ∧
 g_1.2.1 +
 (1 :
 Int) =
 g_1.2.1 +
 (1 :
 Int) ∧
 True) ∧
 ((x.1 = x.1 ∧
 True ∧
 True ∧ True) ∧
 g.1.2.1 =
 g.1.2.1 ∧
 g.1.2.2 =
 g.1.2.2 ∧
 ((x.2.2.1.getD
 g.2.2.1.toNat
 ((0 :
 Int),
 (0 :
 Int),
 (0 :
 Int))).1 =
 (x.2.2.1.getD
 g.2.2.1.toNat
 ((0 :
 Int),
 (0 :
 Int),
 (0 :
 Int))).1 ∧
 (x.2.2.1.getD
 g.2.2.1.toNat
 ((0 :
 Int),
 (0 :
 Int),
 (0 :
 Int))).2.1 =
 (x.2.2.1.getD
 g.2.2.1.toNat
 ((0 :
 Int),
 (0 :
 Int),
 (0 :
 Int))).2.1 ∧
 (x.2.2.1.getD
 g.2.2.1.toNat
 ((0 :
 Int),
 (0 :
 Int),
 (0 :
 Int))).2.2 =
 (x.2.2.1.getD
 g.2.2.1.toNat
 ((0 :
 Int),
 (0 :
 Int),
 (0 :
 Int))).2.2 ∧
 True) ∧
 g.2.1 =
 g.2.1 ∧
 ((x.2.2.1.getD
 g.2.2.1.toNat
 ((0 :
 Int),
 (0 :
 Int),
 (0 :
 Int))).1 =
 (x.2.2.1.getD
 g.2.2.1.toNat
 ((0 :
 Int),
 (0 :
 Int),
 (0 :
 Int))).1 ∧
 (x.2.2.1.getD
 g.2.2.1.toNat
 ((0 :
 Int),
 (0 :
 Int),
 (0 :
 Int))).2.1 =
 (x.2.2.1.getD
 g.2.2.1.toNat
 ((0 :
 Int),
 (0 :
 Int),
 (0 :
 Int))).2.1 ∧
 (x.2.2.1.getD
 g.2.2.1.toNat
 ((0 :
 Int),
 (0 :
 Int),
 (0 :
 Int))).2.2 =
 (x.2.2.1.getD
 g.2.2.1.toNat
 ((0 :
 Int),
 (0 :
 Int),
 (0 :
 Int))).2.2 ∧
 True) ∧
 True) ∧
 (True ∧ True) ∧
 ((x.2.2.1.getD
 g.2.2.1.toNat
 ((0 :
 Int),
 (0 :
 Int),
 (0 :
 Int))).1 =
 (x.2.2.1.getD
 g.2.2.1.toNat
 ((0 :
 Int),
 (0 :
 Int),
 (0 :
 Int))).1 ∧
 (x.2.2.1.getD
 g.2.2.1.toNat
 ((0 :
 Int),
 (0 :
 Int),
 (0 :
 Int))).2.1 =
 (x.2.2.1.getD
 g.2.2.1.toNat
 ((0 :
 Int),
 (0 :
 Int),
 (0 :
 Int))).2.1 ∧
 (x.2.2.1.getD
 g.2.2.1.toNat
 ((0 :
 Int),
 (0 :
 Int),
 (0 :
 Int))).2.2 =
 (x.2.2.1.getD
 g.2.2.1.toNat
 ((0 :
 Int),
 (0 :
 Int),
 (0 :
 Int))).2.2 ∧
 True) ∧
 True ∧
 (True ∧
 True) ∧
 (0 : Int) =
 (0 :
 Int) ∧
 True ∧
 True ∧
 false =
 false ∧
 (True ∧
 True) ∧
 (x.2.2.1.getD
 g.2.2.1.toNat
 ((0 :
 Int),
 (0 :
 Int),
 (0 :
 Int))).1 =
 (x.2.2.1.getD
 g.2.2.1.toNat
 ((0 :
 Int),
 (0 :
 Int),
 (0 :
 Int))).1 ∧
 decide
 ((x.2.2.1.getD
 g.2.2.1.toNat
 ((0 :
 Int),
 (0 :
 Int),
 (0 :
 Int))).1 <
 (1 :
 Int)) =
 decide
 ((x.2.2.1.getD
 g.2.2.1.toNat
 ((0 :
 Int),
 (0 :
 Int),
 (0 :
 Int))).1 <
 (1 :
 Int)) ∧
 decide
 ((x.2.2.1.getD
 g.2.2.1.toNat
 ((0 :
 Int),
 (0 :
 Int),
 (0 :
 Int))).1 <
 (1 :
 Int)) =
 decide
 ((x.2.2.1.getD
 g.2.2.1.toNat
 ((0 :
 Int),
 (0 :
 Int),
 (0 :
 Int))).1 <
 (1 :
 Int)) ∧
 True ∧
 True ∧
 True ∧
 (decide
 ((x.2.2.1.getD
 g.2.2.1.toNat
 ((0 :
 Int),
 (0 :
 Int),
 (0 :
 Int))).1 <
 (1 :
 Int)) ||
 decide
 ((3 :
 Int) <
 (x.2.2.1.getD
 g.2.2.1.toNat
 ((0 :
 Int),
 (0 :
 Int),
 (0 :
 Int))).1)) =
 (decide
 ((x.2.2.1.getD
 g.2.2.1.toNat
 ((0 :
 Int),
 (0 :
 Int),
 (0 :
 Int))).1 <
 (1 :
 Int)) ||
 decide
 ((3 :
 Int) <
 (x.2.2.1.getD
 g.2.2.1.toNat
 ((0 :
 Int),
 (0 :
 Int),
 (0 :
 Int))).1)) ∧
 false =
 false ∧
 (True ∧
 True) ∧
 (x.2.2.1.getD
 g.2.2.1.toNat
 ((0 :
 Int),
 (0 :
 Int),
 (0 :
 Int))).2.1 =
 (x.2.2.1.getD
 g.2.2.1.toNat
 ((0 :
 Int),
 (0 :
 Int),
 (0 :
 Int))).2.1 ∧
 decide
 ((x.2.2.1.getD
 g.2.2.1.toNat
 ((0 :
 Int),
 (0 :
 Int),
 (0 :
 Int))).2.1 <
 (0 :
 Int)) =
 decide
 ((x.2.2.1.getD
 g.2.2.1.toNat
 ((0 :
 Int),
 (0 :
 Int),
 (0 :
 Int))).2.1 <
 (0 :
 Int)) ∧
 false =
 false ∧
 (True ∧
 True) ∧
 (x.2.2.1.getD
 g.2.2.1.toNat
 ((0 :
 Int),
 (0 :
 Int),
 (0 :
 Int))).2.1 =
 (x.2.2.1.getD
 g.2.2.1.toNat
 ((0 :
 Int),
 (0 :
 Int),
 (0 :
 Int))).2.1 ∧
 (True ∧
 True) ∧
 (True ∧
 True) ∧
 (True ∧
 True) ∧
 True ∧
 (↑g.1.2.1.length :
 Int) =
 (↑g.1.2.1.length :
 Int) ∧
 decide
 ((↑g.1.2.1.length :
 Int) ≤
 (x.2.2.1.getD
 g.2.2.1.toNat
 ((0 :
 Int),
 (0 :
 Int),
 (0 :
 Int))).2.1) =
 decide
 ((↑g.1.2.1.length :
 Int) ≤
 (x.2.2.1.getD
 g.2.2.1.toNat
 ((0 :
 Int),
 (0 :
 Int),
 (0 :
 Int))).2.1) ∧
 decide
 ((↑g.1.2.1.length :
 Int) ≤
 (x.2.2.1.getD
 g.2.2.1.toNat
 ((0 :
 Int),
 (0 :
 Int),
 (0 :
 Int))).2.1) =
 decide
 ((↑g.1.2.1.length :
 Int) ≤
 (x.2.2.1.getD
 g.2.2.1.toNat
 ((0 :
 Int),
 (0 :
 Int),
 (0 :
 Int))).2.1) ∧
 false =
 false ∧
 (True ∧
 True) ∧
 (x.2.2.1.getD
 g.2.2.1.toNat
 ((0 :
 Int),
 (0 :
 Int),
 (0 :
 Int))).1 =
 (x.2.2.1.getD
 g.2.2.1.toNat
 ((0 :
 Int),
 (0 :
 Int),
 (0 :
 Int))).1 ∧
 ((x.2.2.1.getD
 g.2.2.1.toNat
 ((0 :
 Int),
 (0 :
 Int),
 (0 :
 Int))).1 ==
 (1 :
 Int)) =
 ((x.2.2.1.getD
 g.2.2.1.toNat
 ((0 :
 Int),
 (0 :
 Int),
 (0 :
 Int))).1 ==
 (1 :
 Int)) ∧
 (True ∧
 True) ∧
 (True ∧
 True) ∧
 (True ∧
 True) ∧
 True ∧
 (True ∧
 True) ∧
 (x.2.2.1.getD
 g.2.2.1.toNat
 ((0 :
 Int),
 (0 :
 Int),
 (0 :
 Int))).2.1 =
 (x.2.2.1.getD
 g.2.2.1.toNat
 ((0 :
 Int),
 (0 :
 Int),
 (0 :
 Int))).2.1 ∧
 ((True ∧
 True ∧
 True) ∧
 (x.2.2.1.getD
 g.2.2.1.toNat
 ((0 :
 Int),
 (0 :
 Int),
 (0 :
 Int))).2.1.toNat =
 (x.2.2.1.getD
 g.2.2.1.toNat
 ((0 :
 Int),
 (0 :
 Int),
 (0 :
 Int))).2.1.toNat) ∧
 ((True ∧
 True ∧
 True) ∧
 (x.2.2.1.getD
 g.2.2.1.toNat
 ((0 :
 Int),
 (0 :
 Int),
 (0 :
 Int))).2.1.toNat =
 (x.2.2.1.getD
 g.2.2.1.toNat
 ((0 :
 Int),
 (0 :
 Int),
 (0 :
 Int))).2.1.toNat) ∧
 (g.1.2.1.getD
 (x.2.2.1.getD
 g.2.2.1.toNat
 ((0 :
 Int),
 (0 :
 Int),
 (0 :
 Int))).2.1.toNat
 ((0 :
 Int),
 (0 :
 Int))).2 =
 (g.1.2.1.getD
 (x.2.2.1.getD
 g.2.2.1.toNat
 ((0 :
 Int),
 (0 :
 Int),
 (0 :
 Int))).2.1.toNat
 ((0 :
 Int),
 (0 :
 Int))).2 ∧
 decide
 ((0 :
 Int) <
 (g.1.2.1.getD
 (x.2.2.1.getD
 g.2.2.1.toNat
 ((0 :
 Int),
 (0 :
 Int),
 (0 :
 Int))).2.1.toNat
 ((0 :
 Int),
 (0 :
 Int))).2) =
 decide
 ((0 :
 Int) <
 (g.1.2.1.getD
 (x.2.2.1.getD
 g.2.2.1.toNat
 ((0 :
 Int),
 (0 :
 Int),
 (0 :
 Int))).2.1.toNat
 ((0 :
 Int),
 (0 :
 Int))).2) ∧
 (((x.2.2.1.getD
 g.2.2.1.toNat
 ((0 :
 Int),
 (0 :
 Int),
 (0 :
 Int))).1 ==
 (1 :
 Int)) ==
 decide
 ((0 :
 Int) <
 (g.1.2.1.getD
 (x.2.2.1.getD
 g.2.2.1.toNat
 ((0 :
 Int),
 (0 :
 Int),
 (0 :
 Int))).2.1.toNat
 ((0 :
 Int),
 (0 :
 Int))).2)) =
 (((x.2.2.1.getD
 g.2.2.1.toNat
 ((0 :
 Int),
 (0 :
 Int),
 (0 :
 Int))).1 ==
 (1 :
 Int)) ==
 decide
 ((0 :
 Int) <
 (g.1.2.1.getD
 (x.2.2.1.getD
 g.2.2.1.toNat
 ((0 :
 Int),
 (0 :
 Int),
 (0 :
 Int))).2.1.toNat
 ((0 :
 Int),
 (0 :
 Int))).2)) ∧
 True ∧
 True ∧
 True ∧
 (True ∧
 True) ∧
 (x.2.2.1.getD
 g.2.2.1.toNat
 ((0 :
 Int),
 (0 :
 Int),
 (0 :
 Int))).1 =
 (x.2.2.1.getD
 g.2.2.1.toNat
 ((0 :
 Int),
 (0 :
 Int),
 (0 :
 Int))).1 ∧
 false =
 false ∧
 ((x.2.2.1.getD
 g.2.2.1.toNat
 ((0 :
 Int),
 (0 :
 Int),
 (0 :
 Int))).1 ==
 (1 :
 Int)) =
 ((x.2.2.1.getD
 g.2.2.1.toNat
 ((0 :
 Int),
 (0 :
 Int),
 (0 :
 Int))).1 ==
 (1 :
 Int)) ∧
 True ∧
 True ∧
 True ∧
 True ∧
 True ∧
 True ∧
 True ∧
 True ∧
 True ∧
 True ∧
 True ∧
 false =
 false ∧
 ((x.2.2.1.getD
 g.2.2.1.toNat
 ((0 :
 Int),
 (0 :
 Int),
 (0 :
 Int))).1 ==
 (2 :
 Int)) =
 ((x.2.2.1.getD
 g.2.2.1.toNat
 ((0 :
 Int),
 (0 :
 Int),
 (0 :
 Int))).1 ==
 (2 :
 Int)) ∧
 True ∧
 True ∧
 True ∧
 True ∧
 true =
 true ∧
 ((x.2.2.1.getD
 g.2.2.1.toNat
 ((0 :
 Int),
 (0 :
 Int),
 (0 :
 Int))).1 ==
 (3 :
 Int)) =
 ((x.2.2.1.getD
 g.2.2.1.toNat
 ((0 :
 Int),
 (0 :
 Int),
 (0 :
 Int))).1 ==
 (3 :
 Int)) ∧
 (True ∧
 True) ∧
 (True ∧
 True) ∧
 (x.2.2.1.getD
 g.2.2.1.toNat
 ((0 :
 Int),
 (0 :
 Int),
 (0 :
 Int))).2.2 =
 (x.2.2.1.getD
 g.2.2.1.toNat
 ((0 :
 Int),
 (0 :
 Int),
 (0 :
 Int))).2.2 ∧
 (True ∧
 True) ∧
 (True ∧
 True) ∧
 (True ∧
 True) ∧
 True ∧
 (True ∧
 True) ∧
 (x.2.2.1.getD
 g.2.2.1.toNat
 ((0 :
 Int),
 (0 :
 Int),
 (0 :
 Int))).2.1 =
 (x.2.2.1.getD
 g.2.2.1.toNat
 ((0 :
 Int),
 (0 :
 Int),
 (0 :
 Int))).2.1 ∧
 ((True ∧
 True ∧
 True) ∧
 (x.2.2.1.getD
 g.2.2.1.toNat
 ((0 :
 Int),
 (0 :
 Int),
 (0 :
 Int))).2.1.toNat =
 (x.2.2.1.getD
 g.2.2.1.toNat
 ((0 :
 Int),
 (0 :
 Int),
 (0 :
 Int))).2.1.toNat) ∧
 ((True ∧
 True ∧
 True) ∧
 (x.2.2.1.getD
 g.2.2.1.toNat
 ((0 :
 Int),
 (0 :
 Int),
 (0 :
 Int))).2.1.toNat =
 (x.2.2.1.getD
 g.2.2.1.toNat
 ((0 :
 Int),
 (0 :
 Int),
 (0 :
 Int))).2.1.toNat) ∧
 (g.1.2.1.getD
 (x.2.2.1.getD
 g.2.2.1.toNat
 ((0 :
 Int),
 (0 :
 Int),
 (0 :
 Int))).2.1.toNat
 ((0 :
 Int),
 (0 :
 Int))).1 =
 (g.1.2.1.getD
 (x.2.2.1.getD
 g.2.2.1.toNat
 ((0 :
 Int),
 (0 :
 Int),
 (0 :
 Int))).2.1.toNat
 ((0 :
 Int),
 (0 :
 Int))).1 ∧
 True ∧
 True ∧
 True ∧
 True ∧
 True ∧
 True ∧
 True ∧
 True ∧
 True ∧
 True ∧
 True ∧
 True ∧
 True ∧
 True ∧
 True ∧
 True ∧
 True ∧
 True ∧
 True ∧
 True ∧
 True ∧
 (True ∧
 True) ∧
 True ∧
 True ∧
 (True ∧
 True) ∧
 True ∧
 True ∧
 True ∧
 True ∧
 True ∧
 True ∧
 True ∧
 True ∧
 True ∧
 True ∧
 True ∧
 True ∧
 True ∧
 True ∧
 True ∧
 True ∧
 True ∧
 True ∧
 True ∧
 True ∧
 True ∧
 x.2.2.1 =
 x.2.2.1 ∧
 (↑x.2.2.1.length :
 Int) =
 (↑x.2.2.1.length :
 Int) ∧
 g.2.2.1 =
 g.2.2.1 ∧
 true =
 true ∧
 True ∧
 ((x.2.2.1.getD
 g.2.2.1.toNat
 ((0 :
 Int),
 (0 :
 Int),
 (0 :
 Int))).1 =
 (x.2.2.1.getD
 g.2.2.1.toNat
 ((0 :
 Int),
 (0 :
 Int),
 (0 :
 Int))).1 ∧
 (x.2.2.1.getD
 g.2.2.1.toNat
 ((0 :
 Int),
 (0 :
 Int),
 (0 :
 Int))).2.1 =
 (x.2.2.1.getD
 g.2.2.1.toNat
 ((0 :
 Int),
 (0 :
 Int),
 (0 :
 Int))).2.1 ∧
 (x.2.2.1.getD
 g.2.2.1.toNat
 ((0 :
 Int),
 (0 :
 Int),
 (0 :
 Int))).2.2 =
 (x.2.2.1.getD
 g.2.2.1.toNat
 ((0 :
 Int),
 (0 :
 Int),
 (0 :
 Int))).2.2 ∧
 True) ∧
 True ∧
 (True ∧
 True) ∧
 ((x.2.2.1.getD
 g.2.2.1.toNat
 ((0 :
 Int),
 (0 :
 Int),
 (0 :
 Int))).1 =
 (x.2.2.1.getD
 g.2.2.1.toNat
 ((0 :
 Int),
 (0 :
 Int),
 (0 :
 Int))).1 ∧
 (x.2.2.1.getD
 g.2.2.1.toNat
 ((0 :
 Int),
 (0 :
 Int),
 (0 :
 Int))).2.1 =
 (x.2.2.1.getD
 g.2.2.1.toNat
 ((0 :
 Int),
 (0 :
 Int),
 (0 :
 Int))).2.1 ∧
 (x.2.2.1.getD
 g.2.2.1.toNat
 ((0 :
 Int),
 (0 :
 Int),
 (0 :
 Int))).2.2 =
 (x.2.2.1.getD
 g.2.2.1.toNat
 ((0 :
 Int),
 (0 :
 Int),
 (0 :
 Int))).2.2 ∧
 True) ∧
 True ∧
 True ∧
 True ∧
 True ∧
 True ∧
 True ∧
 True ∧
 True ∧
 True ∧
 True ∧
 True) ∧
 (decide
 ((↑(allOf
 (g.1.2.2.getD
 g_1.2.1.toNat
 ((0 :
 Int) ::
 (0 :
 Int) ::
 (0 :
 Int) ::
 (0 :
 Int) ::
 ([] :
 List
 Int)))).length :
 Int) <
 (↑(allOf
 (g.1.2.2.getD
 g_1.1.toNat
 ((0 :
 Int) ::
 (0 :
 Int) ::
 (0 :
 Int) ::
 (0 :
 Int) ::
 ([] :
 List
 Int)))).length :
 Int)) =
 false →
 ((-9223372036854775808 :
 Int) ≤
 g_1.2.1 +
 (1 : Int) ∧
 g_1.2.1 +
 (1 : Int) ≤
 (9223372036854775807 :
 Int)) ∧
 (((0 : Int) ≤
 g_1.2.1 +
 (1 : Int) ∧
 g_1.2.1 +
 (1 : Int) ≤
 x.1 ∧
 g_1.1 =
 (bst
 (okc
 (x.2.2.1.getD
 g.2.2.1.toNat
 ((0 :
 Int),
 (0 :
 Int),
 (0 :
 Int))).2.2
 (g.1.2.1.getD
 (x.2.2.1.getD
 g.2.2.1.toNat
 ((0 :
 Int),
 (0 :
 Int),
 (0 :
 Int))).2.1.toNat
 ((0 :
 Int),
 (0 :
 Int))).1)
 (ldT
 g.1.2.2)
 (g_1.2.1 +
 (1 :
 Int)).toNat).1) ∧
 (x.1 -
 (g_1.2.1 +
 (1 :
 Int))).toNat <
 (x.1 -
 g_1.2.1).toNat) ∧
 ((True ∧ True) ∧
 (x.2.2.1.getD
 g.2.2.1.toNat
 ((0 :
 Int),
 (0 :
 Int),
 (0 :
 Int))).2.2 =
 (x.2.2.1.getD
 g.2.2.1.toNat
 ((0 :
 Int),
 (0 :
 Int),
 (0 :
 Int))).2.2 ∧
 (g.1.2.1.getD
 (x.2.2.1.getD
 g.2.2.1.toNat
 ((0 :
 Int),
 (0 :
 Int),
 (0 :
 Int))).2.1.toNat
 ((0 :
 Int),
 (0 :
 Int))).1 =
 (g.1.2.1.getD
 (x.2.2.1.getD
 g.2.2.1.toNat
 ((0 :
 Int),
 (0 :
 Int),
 (0 :
 Int))).2.1.toNat
 ((0 :
 Int),
 (0 :
 Int))).1 ∧
 g_1.1 =
 g_1.1 ∧
 x.1 =
 x.1 ∧
 g_1.2.1 +
 (1 :
 Int) =
 g_1.2.1 +
 (1 :
 Int) ∧
 True) ∧
 ((x.1 = x.1 ∧
 True ∧
 True ∧ True) ∧
 g.1.2.1 =
 g.1.2.1 ∧
 g.1.2.2 =
 g.1.2.2 ∧
 ((x.2.2.1.getD
 g.2.2.1.toNat
 ((0 :
 Int),
 (0 :
 Int),
 (0 :
 Int))).1 =
 (x.2.2.1.getD
 g.2.2.1.toNat
 ((0 :
 Int),
 (0 :
 Int),
 (0 :
 Int))).1 ∧
 (x.2.2.1.getD
 g.2.2.1.toNat
 ((0 :
 Int),
 (0 :
 Int),
 (0 :
 Int))).2.1 =
 (x.2.2.1.getD
 g.2.2.1.toNat
 ((0 :
 Int),
 (0 :
 Int),
 (0 :
 Int))).2.1 ∧
 (x.2.2.1.getD
 g.2.2.1.toNat
 ((0 :
 Int),
 (0 :
 Int),
 (0 :
 Int))).2.2 =
 (x.2.2.1.getD
 g.2.2.1.toNat
 ((0 :
 Int),
 (0 :
 Int),
 (0 :
 Int))).2.2 ∧
 True) ∧
 g.2.1 =
 g.2.1 ∧
 ((x.2.2.1.getD
 g.2.2.1.toNat
 ((0 :
 Int),
 (0 :
 Int),
 (0 :
 Int))).1 =
 (x.2.2.1.getD
 g.2.2.1.toNat
 ((0 :
 Int),
 (0 :
 Int),
 (0 :
 Int))).1 ∧
 (x.2.2.1.getD
 g.2.2.1.toNat
 ((0 :
 Int),
 (0 :
 Int),
 (0 :
 Int))).2.1 =
 (x.2.2.1.getD
 g.2.2.1.toNat
 ((0 :
 Int),
 (0 :
 Int),
 (0 :
 Int))).2.1 ∧
 (x.2.2.1.getD
 g.2.2.1.toNat
 ((0 :
 Int),
 (0 :
 Int),
 (0 :
 Int))).2.2 =
 (x.2.2.1.getD
 g.2.2.1.toNat
 ((0 :
 Int),
 (0 :
 Int),
 (0 :
 Int))).2.2 ∧
 True) ∧
 True) ∧
 (True ∧ True) ∧
 ((x.2.2.1.getD
 g.2.2.1.toNat
 ((0 :
 Int),
 (0 :
 Int),
 (0 :
 Int))).1 =
 (x.2.2.1.getD
 g.2.2.1.toNat
 ((0 :
 Int),
 (0 :
 Int),
 (0 :
 Int))).1 ∧
 (x.2.2.1.getD
 g.2.2.1.toNat
 ((0 :
 Int),
 (0 :
 Int),
 (0 :
 Int))).2.1 =
 (x.2.2.1.getD
 g.2.2.1.toNat
 ((0 :
 Int),
 (0 :
 Int),
 (0 :
 Int))).2.1 ∧
 (x.2.2.1.getD
 g.2.2.1.toNat
 ((0 :
 Int),
 (0 :
 Int),
 (0 :
 Int))).2.2 =
 (x.2.2.1.getD
 g.2.2.1.toNat
 ((0 :
 Int),
 (0 :
 Int),
 (0 :
 Int))).2.2 ∧
 True) ∧
 True ∧
 (True ∧
 True) ∧
 (0 : Int) =
 (0 :
 Int) ∧
 True ∧
 True ∧
 false =
 false ∧
 (True ∧
 True) ∧
 (x.2.2.1.getD
 g.2.2.1.toNat
 ((0 :
 Int),
 (0 :
 Int),
 (0 :
 Int))).1 =
 (x.2.2.1.getD
 g.2.2.1.toNat
 ((0 :
 Int),
 (0 :
 Int),
 (0 :
 Int))).1 ∧
 decide
 ((x.2.2.1.getD
 g.2.2.1.toNat
 ((0 :
 Int),
 (0 :
 Int),
 (0 :
 Int))).1 <
 (1 :
 Int)) =
 decide
 ((x.2.2.1.getD
 g.2.2.1.toNat
 ((0 :
 Int),
 (0 :
 Int),
 (0 :
 Int))).1 <
 (1 :
 Int)) ∧
 decide
 ((x.2.2.1.getD
 g.2.2.1.toNat
 ((0 :
 Int),
 (0 :
 Int),
 (0 :
 Int))).1 <
 (1 :
 Int)) =
 decide
 ((x.2.2.1.getD
 g.2.2.1.toNat
 ((0 :
 Int),
 (0 :
 Int),
 (0 :
 Int))).1 <
 (1 :
 Int)) ∧
 True ∧
 True ∧
 True ∧
 (decide
 ((x.2.2.1.getD
 g.2.2.1.toNat
 ((0 :
 Int),
 (0 :
 Int),
 (0 :
 Int))).1 <
 (1 :
 Int)) ||
 decide
 ((3 :
 Int) <
 (x.2.2.1.getD
 g.2.2.1.toNat
 ((0 :
 Int),
 (0 :
 Int),
 (0 :
 Int))).1)) =
 (decide
 ((x.2.2.1.getD
 g.2.2.1.toNat
 ((0 :
 Int),
 (0 :
 Int),
 (0 :
 Int))).1 <
 (1 :
 Int)) ||
 decide
 ((3 :
 Int) <
 (x.2.2.1.getD
 g.2.2.1.toNat
 ((0 :
 Int),
 (0 :
 Int),
 (0 :
 Int))).1)) ∧
 false =
 false ∧
 (True ∧
 True) ∧
 (x.2.2.1.getD
 g.2.2.1.toNat
 ((0 :
 Int),
 (0 :
 Int),
 (0 :
 Int))).2.1 =
 (x.2.2.1.getD
 g.2.2.1.toNat
 ((0 :
 Int),
 (0 :
 Int),
 (0 :
 Int))).2.1 ∧
 decide
 ((x.2.2.1.getD
 g.2.2.1.toNat
 ((0 :
 Int),
 (0 :
 Int),
 (0 :
 Int))).2.1 <
 (0 :
 Int)) =
 decide
 ((x.2.2.1.getD
 g.2.2.1.toNat
 ((0 :
 Int),
 (0 :
 Int),
 (0 :
 Int))).2.1 <
 (0 :
 Int)) ∧
 false =
 false ∧
 (True ∧
 True) ∧
 (x.2.2.1.getD
 g.2.2.1.toNat
 ((0 :
 Int),
 (0 :
 Int),
 (0 :
 Int))).2.1 =
 (x.2.2.1.getD
 g.2.2.1.toNat
 ((0 :
 Int),
 (0 :
 Int),
 (0 :
 Int))).2.1 ∧
 (True ∧
 True) ∧
 (True ∧
 True) ∧
 (True ∧
 True) ∧
 True ∧
 (↑g.1.2.1.length :
 Int) =
 (↑g.1.2.1.length :
 Int) ∧
 decide
 ((↑g.1.2.1.length :
 Int) ≤
 (x.2.2.1.getD
 g.2.2.1.toNat
 ((0 :
 Int),
 (0 :
 Int),
 (0 :
 Int))).2.1) =
 decide
 ((↑g.1.2.1.length :
 Int) ≤
 (x.2.2.1.getD
 g.2.2.1.toNat
 ((0 :
 Int),
 (0 :
 Int),
 (0 :
 Int))).2.1) ∧
 decide
 ((↑g.1.2.1.length :
 Int) ≤
 (x.2.2.1.getD
 g.2.2.1.toNat
 ((0 :
 Int),
 (0 :
 Int),
 (0 :
 Int))).2.1) =
 decide
 ((↑g.1.2.1.length :
 Int) ≤
 (x.2.2.1.getD
 g.2.2.1.toNat
 ((0 :
 Int),
 (0 :
 Int),
 (0 :
 Int))).2.1) ∧
 false =
 false ∧
 (True ∧
 True) ∧
 (x.2.2.1.getD
 g.2.2.1.toNat
 ((0 :
 Int),
 (0 :
 Int),
 (0 :
 Int))).1 =
 (x.2.2.1.getD
 g.2.2.1.toNat
 ((0 :
 Int),
 (0 :
 Int),
 (0 :
 Int))).1 ∧
 ((x.2.2.1.getD
 g.2.2.1.toNat
 ((0 :
 Int),
 (0 :
 Int),
 (0 :
 Int))).1 ==
 (1 :
 Int)) =
 ((x.2.2.1.getD
 g.2.2.1.toNat
 ((0 :
 Int),
 (0 :
 Int),
 (0 :
 Int))).1 ==
 (1 :
 Int)) ∧
 (True ∧
 True) ∧
 (True ∧
 True) ∧
 (True ∧
 True) ∧
 True ∧
 (True ∧
 True) ∧
 (x.2.2.1.getD
 g.2.2.1.toNat
 ((0 :
 Int),
 (0 :
 Int),
 (0 :
 Int))).2.1 =
 (x.2.2.1.getD
 g.2.2.1.toNat
 ((0 :
 Int),
 (0 :
 Int),
 (0 :
 Int))).2.1 ∧
 ((True ∧
 True ∧
 True) ∧
 (x.2.2.1.getD
 g.2.2.1.toNat
 ((0 :
 Int),
 (0 :
 Int),
 (0 :
 Int))).2.1.toNat =
 (x.2.2.1.getD
 g.2.2.1.toNat
 ((0 :
 Int),
 (0 :
 Int),
 (0 :
 Int))).2.1.toNat) ∧
 ((True ∧
 True ∧
 True) ∧
 (x.2.2.1.getD
 g.2.2.1.toNat
 ((0 :
 Int),
 (0 :
 Int),
 (0 :
 Int))).2.1.toNat =
 (x.2.2.1.getD
 g.2.2.1.toNat
 ((0 :
 Int),
 (0 :
 Int),
 (0 :
 Int))).2.1.toNat) ∧
 (g.1.2.1.getD
 (x.2.2.1.getD
 g.2.2.1.toNat
 ((0 :
 Int),
 (0 :
 Int),
 (0 :
 Int))).2.1.toNat
 ((0 :
 Int),
 (0 :
 Int))).2 =
 (g.1.2.1.getD
 (x.2.2.1.getD
 g.2.2.1.toNat
 ((0 :
 Int),
 (0 :
 Int),
 (0 :
 Int))).2.1.toNat
 ((0 :
 Int),
 (0 :
 Int))).2 ∧
 decide
 ((0 :
 Int) <
 (g.1.2.1.getD
 (x.2.2.1.getD
 g.2.2.1.toNat
 ((0 :
 Int),
 (0 :
 Int),
 (0 :
 Int))).2.1.toNat
 ((0 :
 Int),
 (0 :
 Int))).2) =
 decide
 ((0 :
 Int) <
 (g.1.2.1.getD
 (x.2.2.1.getD
 g.2.2.1.toNat
 ((0 :
 Int),
 (0 :
 Int),
 (0 :
 Int))).2.1.toNat
 ((0 :
 Int),
 (0 :
 Int))).2) ∧
 (((x.2.2.1.getD
 g.2.2.1.toNat
 ((0 :
 Int),
 (0 :
 Int),
 (0 :
 Int))).1 ==
 (1 :
 Int)) ==
 decide
 ((0 :
 Int) <
 (g.1.2.1.getD
 (x.2.2.1.getD
 g.2.2.1.toNat
 ((0 :
 Int),
 (0 :
 Int),
 (0 :
 Int))).2.1.toNat
 ((0 :
 Int),
 (0 :
 Int))).2)) =
 (((x.2.2.1.getD
 g.2.2.1.toNat
 ((0 :
 Int),
 (0 :
 Int),
 (0 :
 Int))).1 ==
 (1 :
 Int)) ==
 decide
 ((0 :
 Int) <
 (g.1.2.1.getD
 (x.2.2.1.getD
 g.2.2.1.toNat
 ((0 :
 Int),
 (0 :
 Int),
 (0 :
 Int))).2.1.toNat
 ((0 :
 Int),
 (0 :
 Int))).2)) ∧
 True ∧
 True ∧
 True ∧
 (True ∧
 True) ∧
 (x.2.2.1.getD
 g.2.2.1.toNat
 ((0 :
 Int),
 (0 :
 Int),
 (0 :
 Int))).1 =
 (x.2.2.1.getD
 g.2.2.1.toNat
 ((0 :
 Int),
 (0 :
 Int),
 (0 :
 Int))).1 ∧
 false =
 false ∧
 ((x.2.2.1.getD
 g.2.2.1.toNat
 ((0 :
 Int),
 (0 :
 Int),
 (0 :
 Int))).1 ==
 (1 :
 Int)) =
 ((x.2.2.1.getD
 g.2.2.1.toNat
 ((0 :
 Int),
 (0 :
 Int),
 (0 :
 Int))).1 ==
 (1 :
 Int)) ∧
 True ∧
 True ∧
 True ∧
 True ∧
 True ∧
 True ∧
 True ∧
 True ∧
 True ∧
 True ∧
 True ∧
 false =
 false ∧
 ((x.2.2.1.getD
 g.2.2.1.toNat
 ((0 :
 Int),
 (0 :
 Int),
 (0 :
 Int))).1 ==
 (2 :
 Int)) =
 ((x.2.2.1.getD
 g.2.2.1.toNat
 ((0 :
 Int),
 (0 :
 Int),
 (0 :
 Int))).1 ==
 (2 :
 Int)) ∧
 True ∧
 True ∧
 True ∧
 True ∧
 true =
 true ∧
 ((x.2.2.1.getD
 g.2.2.1.toNat
 ((0 :
 Int),
 (0 :
 Int),
 (0 :
 Int))).1 ==
 (3 :
 Int)) =
 ((x.2.2.1.getD
 g.2.2.1.toNat
 ((0 :
 Int),
 (0 :
 Int),
 (0 :
 Int))).1 ==
 (3 :
 Int)) ∧
 (True ∧
 True) ∧
 (True ∧
 True) ∧
 (x.2.2.1.getD
 g.2.2.1.toNat
 ((0 :
 Int),
 (0 :
 Int),
 (0 :
 Int))).2.2 =
 (x.2.2.1.getD
 g.2.2.1.toNat
 ((0 :
 Int),
 (0 :
 Int),
 (0 :
 Int))).2.2 ∧
 (True ∧
 True) ∧
 (True ∧
 True) ∧
 (True ∧
 True) ∧
 True ∧
 (True ∧
 True) ∧
 (x.2.2.1.getD
 g.2.2.1.toNat
 ((0 :
 Int),
 (0 :
 Int),
 (0 :
 Int))).2.1 =
 (x.2.2.1.getD
 g.2.2.1.toNat
 ((0 :
 Int),
 (0 :
 Int),
 (0 :
 Int))).2.1 ∧
 ((True ∧
 True ∧
 True) ∧
 (x.2.2.1.getD
 g.2.2.1.toNat
 ((0 :
 Int),
 (0 :
 Int),
 (0 :
 Int))).2.1.toNat =
 (x.2.2.1.getD
 g.2.2.1.toNat
 ((0 :
 Int),
 (0 :
 Int),
 (0 :
 Int))).2.1.toNat) ∧
 ((True ∧
 True ∧
 True) ∧
 (x.2.2.1.getD
 g.2.2.1.toNat
 ((0 :
 Int),
 (0 :
 Int),
 (0 :
 Int))).2.1.toNat =
 (x.2.2.1.getD
 g.2.2.1.toNat
 ((0 :
 Int),
 (0 :
 Int),
 (0 :
 Int))).2.1.toNat) ∧
 (g.1.2.1.getD
 (x.2.2.1.getD
 g.2.2.1.toNat
 ((0 :
 Int),
 (0 :
 Int),
 (0 :
 Int))).2.1.toNat
 ((0 :
 Int),
 (0 :
 Int))).1 =
 (g.1.2.1.getD
 (x.2.2.1.getD
 g.2.2.1.toNat
 ((0 :
 Int),
 (0 :
 Int),
 (0 :
 Int))).2.1.toNat
 ((0 :
 Int),
 (0 :
 Int))).1 ∧
 True ∧
 True ∧
 True ∧
 True ∧
 True ∧
 True ∧
 True ∧
 True ∧
 True ∧
 True ∧
 True ∧
 True ∧
 True ∧
 True ∧
 True ∧
 True ∧
 True ∧
 True ∧
 True ∧
 True ∧
 True ∧
 (True ∧
 True) ∧
 True ∧
 True ∧
 (True ∧
 True) ∧
 True ∧
 True ∧
 True ∧
 True ∧
 True ∧
 True ∧
 True ∧
 True ∧
 True ∧
 True ∧
 True ∧
 True ∧
 True ∧
 True ∧
 True ∧
 True ∧
 True ∧
 True ∧
 True ∧
 True ∧
 True ∧
 x.2.2.1 =
 x.2.2.1 ∧
 (↑x.2.2.1.length :
 Int) =
 (↑x.2.2.1.length :
 Int) ∧
 g.2.2.1 =
 g.2.2.1 ∧
 true =
 true ∧
 True ∧
 ((x.2.2.1.getD
 g.2.2.1.toNat
 ((0 :
 Int),
 (0 :
 Int),
 (0 :
 Int))).1 =
 (x.2.2.1.getD
 g.2.2.1.toNat
 ((0 :
 Int),
 (0 :
 Int),
 (0 :
 Int))).1 ∧
 (x.2.2.1.getD
 g.2.2.1.toNat
 ((0 :
 Int),
 (0 :
 Int),
 (0 :
 Int))).2.1 =
 (x.2.2.1.getD
 g.2.2.1.toNat
 ((0 :
 Int),
 (0 :
 Int),
 (0 :
 Int))).2.1 ∧
 (x.2.2.1.getD
 g.2.2.1.toNat
 ((0 :
 Int),
 (0 :
 Int),
 (0 :
 Int))).2.2 =
 (x.2.2.1.getD
 g.2.2.1.toNat
 ((0 :
 Int),
 (0 :
 Int),
 (0 :
 Int))).2.2 ∧
 True) ∧
 True ∧
 (True ∧
 True) ∧
 ((x.2.2.1.getD
 g.2.2.1.toNat
 ((0 :
 Int),
 (0 :
 Int),
 (0 :
 Int))).1 =
 (x.2.2.1.getD
 g.2.2.1.toNat
 ((0 :
 Int),
 (0 :
 Int),
 (0 :
 Int))).1 ∧
 (x.2.2.1.getD
 g.2.2.1.toNat
 ((0 :
 Int),
 (0 :
 Int),
 (0 :
 Int))).2.1 =
 (x.2.2.1.getD
 g.2.2.1.toNat
 ((0 :
 Int),
 (0 :
 Int),
 (0 :
 Int))).2.1 ∧
 (x.2.2.1.getD
 g.2.2.1.toNat
 ((0 :
 Int),
 (0 :
 Int),
 (0 :
 Int))).2.2 =
 (x.2.2.1.getD
 g.2.2.1.toNat
 ((0 :
 Int),
 (0 :
 Int),
 (0 :
 Int))).2.2 ∧
 True) ∧
 True ∧
 True ∧
 True ∧
 True ∧
 True ∧
 True ∧
 True ∧
 True ∧
 True ∧
 True ∧
 True)) ∧
 (decide (g_1.1 < (0 : Int)) = !false →
 ((-9223372036854775808 : Int) ≤
 g_1.2.1 + (1 : Int) ∧
 g_1.2.1 + (1 : Int) ≤
 (9223372036854775807 : Int)) ∧
 (((0 : Int) ≤ g_1.2.1 + (1 : Int) ∧
 g_1.2.1 + (1 : Int) ≤ x.1 ∧
 g_1.2.1 =
 (bst
 (okc
 (x.2.2.1.getD
 g.2.2.1.toNat
 ((0 : Int),
 (0 : Int),
 (0 :
 Int))).2.2
 (g.1.2.1.getD
 (x.2.2.1.getD
 g.2.2.1.toNat
 ((0 : Int),
 (0 : Int),
 (0 :
 Int))).2.1.toNat
 ((0 : Int),
 (0 : Int))).1)
 (ldT g.1.2.2)
 (g_1.2.1 +
 (1 :
 Int)).toNat).1) ∧
 (x.1 -
 (g_1.2.1 +
 (1 : Int))).toNat <
 (x.1 - g_1.2.1).toNat) ∧
 ((True ∧ True) ∧
 (x.2.2.1.getD
 g.2.2.1.toNat
 ((0 : Int), (0 : Int),
 (0 : Int))).2.2 =
 (x.2.2.1.getD
 g.2.2.1.toNat
 ((0 : Int), (0 : Int),
 (0 : Int))).2.2 ∧
 (g.1.2.1.getD
 (x.2.2.1.getD
 g.2.2.1.toNat
 ((0 : Int),
 (0 : Int),
 (0 :
 Int))).2.1.toNat
 ((0 : Int),
 (0 : Int))).1 =
 (g.1.2.1.getD
 (x.2.2.1.getD
 g.2.2.1.toNat
 ((0 : Int),
 (0 : Int),
 (0 :
 Int))).2.1.toNat
 ((0 : Int),
 (0 : Int))).1 ∧
 g_1.2.1 = g_1.2.1 ∧
 x.1 = x.1 ∧
 g_1.2.1 + (1 : Int) =
 g_1.2.1 +
 (1 : Int) ∧
 True) ∧
 ((x.1 = x.1 ∧
 True ∧ True ∧ True) ∧
 g.1.2.1 = g.1.2.1 ∧
 g.1.2.2 =
 g.1.2.2 ∧
 ((x.2.2.1.getD
 g.2.2.1.toNat
 ((0 : Int),
 (0 : Int),
 (0 :
 Int))).1 =
 (x.2.2.1.getD
 g.2.2.1.toNat
 ((0 : Int),
 (0 : Int),
 (0 :
 Int))).1 ∧
 (x.2.2.1.getD
 g.2.2.1.toNat
 ((0 : Int),
 (0 : Int),
 (0 :
 Int))).2.1 =
 (x.2.2.1.getD
 g.2.2.1.toNat
 ((0 : Int),
 (0 : Int),
 (0 :
 Int))).2.1 ∧
 (x.2.2.1.getD
 g.2.2.1.toNat
 ((0 : Int),
 (0 : Int),
 (0 :
 Int))).2.2 =
 (x.2.2.1.getD
 g.2.2.1.toNat
 ((0 : Int),
 (0 : Int),
 (0 :
 Int))).2.2 ∧
 True) ∧
 g.2.1 = g.2.1 ∧
 ((x.2.2.1.getD
 g.2.2.1.toNat
 ((0 : Int),
 (0 : Int),
 (0 :
 Int))).1 =
 (x.2.2.1.getD
 g.2.2.1.toNat
 ((0 : Int),
 (0 : Int),
 (0 :
 Int))).1 ∧
 (x.2.2.1.getD
 g.2.2.1.toNat
 ((0 :
 Int),
 (0 :
 Int),
 (0 :
 Int))).2.1 =
 (x.2.2.1.getD
 g.2.2.1.toNat
 ((0 :
 Int),
 (0 :
 Int),
 (0 :
 Int))).2.1 ∧
 (x.2.2.1.getD
 g.2.2.1.toNat
 ((0 :
 Int),
 (0 :
 Int),
 (0 :
 Int))).2.2 =
 (x.2.2.1.getD
 g.2.2.1.toNat
 ((0 :
 Int),
 (0 :
 Int),
 (0 :
 Int))).2.2 ∧
 True) ∧
 True) ∧
 (True ∧ True) ∧
 ((x.2.2.1.getD
 g.2.2.1.toNat
 ((0 : Int), (0 : Int),
 (0 : Int))).1 =
 (x.2.2.1.getD
 g.2.2.1.toNat
 ((0 : Int), (0 : Int),
 (0 : Int))).1 ∧
 (x.2.2.1.getD
 g.2.2.1.toNat
 ((0 : Int),
 (0 : Int),
 (0 :
 Int))).2.1 =
 (x.2.2.1.getD
 g.2.2.1.toNat
 ((0 : Int),
 (0 : Int),
 (0 :
 Int))).2.1 ∧
 (x.2.2.1.getD
 g.2.2.1.toNat
 ((0 : Int),
 (0 : Int),
 (0 :
 Int))).2.2 =
 (x.2.2.1.getD
 g.2.2.1.toNat
 ((0 : Int),
 (0 : Int),
 (0 :
 Int))).2.2 ∧
 True) ∧
 True ∧
 (True ∧ True) ∧
 (0 : Int) = (0 : Int) ∧
 True ∧
 True ∧
 false = false ∧
 (True ∧ True) ∧
 (x.2.2.1.getD
 g.2.2.1.toNat
 ((0 :
 Int),
 (0 :
 Int),
 (0 :
 Int))).1 =
 (x.2.2.1.getD
 g.2.2.1.toNat
 ((0 :
 Int),
 (0 :
 Int),
 (0 :
 Int))).1 ∧
 decide
 ((x.2.2.1.getD
 g.2.2.1.toNat
 ((0 :
 Int),
 (0 :
 Int),
 (0 :
 Int))).1 <
 (1 :
 Int)) =
 decide
 ((x.2.2.1.getD
 g.2.2.1.toNat
 ((0 :
 Int),
 (0 :
 Int),
 (0 :
 Int))).1 <
 (1 :
 Int)) ∧
 decide
 ((x.2.2.1.getD
 g.2.2.1.toNat
 ((0 :
 Int),
 (0 :
 Int),
 (0 :
 Int))).1 <
 (1 :
 Int)) =
 decide
 ((x.2.2.1.getD
 g.2.2.1.toNat
 ((0 :
 Int),
 (0 :
 Int),
 (0 :
 Int))).1 <
 (1 :
 Int)) ∧
 True ∧
 True ∧
 True ∧
 (decide
 ((x.2.2.1.getD
 g.2.2.1.toNat
 ((0 :
 Int),
 (0 :
 Int),
 (0 :
 Int))).1 <
 (1 :
 Int)) ||
 decide
 ((3 :
 Int) <
 (x.2.2.1.getD
 g.2.2.1.toNat
 ((0 :
 Int),
 (0 :
 Int),
 (0 :
 Int))).1)) =
 (decide
 ((x.2.2.1.getD
 g.2.2.1.toNat
 ((0 :
 Int),
 (0 :
 Int),
 (0 :
 Int))).1 <
 (1 :
 Int)) ||
 decide
 ((3 :
 Int) <
 (x.2.2.1.getD
 g.2.2.1.toNat
 ((0 :
 Int),
 (0 :
 Int),
 (0 :
 Int))).1)) ∧
 false =
 false ∧
 (True ∧
 True) ∧
 (x.2.2.1.getD
 g.2.2.1.toNat
 ((0 :
 Int),
 (0 :
 Int),
 (0 :
 Int))).2.1 =
 (x.2.2.1.getD
 g.2.2.1.toNat
 ((0 :
 Int),
 (0 :
 Int),
 (0 :
 Int))).2.1 ∧
 decide
 ((x.2.2.1.getD
 g.2.2.1.toNat
 ((0 :
 Int),
 (0 :
 Int),
 (0 :
 Int))).2.1 <
 (0 :
 Int)) =
 decide
 ((x.2.2.1.getD
 g.2.2.1.toNat
 ((0 :
 Int),
 (0 :
 Int),
 (0 :
 Int))).2.1 <
 (0 :
 Int)) ∧
 false =
 false ∧
 (True ∧
 True) ∧
 (x.2.2.1.getD
 g.2.2.1.toNat
 ((0 :
 Int),
 (0 :
 Int),
 (0 :
 Int))).2.1 =
 (x.2.2.1.getD
 g.2.2.1.toNat
 ((0 :
 Int),
 (0 :
 Int),
 (0 :
 Int))).2.1 ∧
 (True ∧
 True) ∧
 (True ∧
 True) ∧
 (True ∧
 True) ∧
 True ∧
 (↑g.1.2.1.length :
 Int) =
 (↑g.1.2.1.length :
 Int) ∧
 decide
 ((↑g.1.2.1.length :
 Int) ≤
 (x.2.2.1.getD
 g.2.2.1.toNat
 ((0 :
 Int),
 (0 :
 Int),
 (0 :
 Int))).2.1) =
 decide
 ((↑g.1.2.1.length :
 Int) ≤
 (x.2.2.1.getD
 g.2.2.1.toNat
 ((0 :
 Int),
 (0 :
 Int),
 (0 :
 Int))).2.1) ∧
 decide
 ((↑g.1.2.1.length :
 Int) ≤
 (x.2.2.1.getD
 g.2.2.1.toNat
 ((0 :
 Int),
 (0 :
 Int),
 (0 :
 Int))).2.1) =
 decide
 ((↑g.1.2.1.length :
 Int) ≤
 (x.2.2.1.getD
 g.2.2.1.toNat
 ((0 :
 Int),
 (0 :
 Int),
 (0 :
 Int))).2.1) ∧
 false =
 false ∧
 (True ∧
 True) ∧
 (x.2.2.1.getD
 g.2.2.1.toNat
 ((0 :
 Int),
 (0 :
 Int),
 (0 :
 Int))).1 =
 (x.2.2.1.getD
 g.2.2.1.toNat
 ((0 :
 Int),
 (0 :
 Int),
 (0 :
 Int))).1 ∧
 ((x.2.2.1.getD
 g.2.2.1.toNat
 ((0 :
 Int),
 (0 :
 Int),
 (0 :
 Int))).1 ==
 (1 :
 Int)) =
 ((x.2.2.1.getD
 g.2.2.1.toNat
 ((0 :
 Int),
 (0 :
 Int),
 (0 :
 Int))).1 ==
 (1 :
 Int)) ∧
 (True ∧
 True) ∧
 (True ∧
 True) ∧
 (True ∧
 True) ∧
 True ∧
 (True ∧
 True) ∧
 (x.2.2.1.getD
 g.2.2.1.toNat
 ((0 :
 Int),
 (0 :
 Int),
 (0 :
 Int))).2.1 =
 (x.2.2.1.getD
 g.2.2.1.toNat
 ((0 :
 Int),
 (0 :
 Int),
 (0 :
 Int))).2.1 ∧
 ((True ∧
 True ∧
 True) ∧
 (x.2.2.1.getD
 g.2.2.1.toNat
 ((0 :
 Int),
 (0 :
 Int),
 (0 :
 Int))).2.1.toNat =
 (x.2.2.1.getD
 g.2.2.1.toNat
 ((0 :
 Int),
 (0 :
 Int),
 (0 :
 Int))).2.1.toNat) ∧
 ((True ∧
 True ∧
 True) ∧
 (x.2.2.1.getD
 g.2.2.1.toNat
 ((0 :
 Int),
 (0 :
 Int),
 (0 :
 Int))).2.1.toNat =
 (x.2.2.1.getD
 g.2.2.1.toNat
 ((0 :
 Int),
 (0 :
 Int),
 (0 :
 Int))).2.1.toNat) ∧
 (g.1.2.1.getD
 (x.2.2.1.getD
 g.2.2.1.toNat
 ((0 :
 Int),
 (0 :
 Int),
 (0 :
 Int))).2.1.toNat
 ((0 :
 Int),
 (0 :
 Int))).2 =
 (g.1.2.1.getD
 (x.2.2.1.getD
 g.2.2.1.toNat
 ((0 :
 Int),
 (0 :
 Int),
 (0 :
 Int))).2.1.toNat
 ((0 :
 Int),
 (0 :
 Int))).2 ∧
 decide
 ((0 :
 Int) <
 (g.1.2.1.getD
 (x.2.2.1.getD
 g.2.2.1.toNat
 ((0 :
 Int),
 (0 :
 Int),
 (0 :
 Int))).2.1.toNat
 ((0 :
 Int),
 (0 :
 Int))).2) =
 decide
 ((0 :
 Int) <
 (g.1.2.1.getD
 (x.2.2.1.getD
 g.2.2.1.toNat
 ((0 :
 Int),
 (0 :
 Int),
 (0 :
 Int))).2.1.toNat
 ((0 :
 Int),
 (0 :
 Int))).2) ∧
 (((x.2.2.1.getD
 g.2.2.1.toNat
 ((0 :
 Int),
 (0 :
 Int),
 (0 :
 Int))).1 ==
 (1 :
 Int)) ==
 decide
 ((0 :
 Int) <
 (g.1.2.1.getD
 (x.2.2.1.getD
 g.2.2.1.toNat
 ((0 :
 Int),
 (0 :
 Int),
 (0 :
 Int))).2.1.toNat
 ((0 :
 Int),
 (0 :
 Int))).2)) =
 (((x.2.2.1.getD
 g.2.2.1.toNat
 ((0 :
 Int),
 (0 :
 Int),
 (0 :
 Int))).1 ==
 (1 :
 Int)) ==
 decide
 ((0 :
 Int) <
 (g.1.2.1.getD
 (x.2.2.1.getD
 g.2.2.1.toNat
 ((0 :
 Int),
 (0 :
 Int),
 (0 :
 Int))).2.1.toNat
 ((0 :
 Int),
 (0 :
 Int))).2)) ∧
 True ∧
 True ∧
 True ∧
 (True ∧
 True) ∧
 (x.2.2.1.getD
 g.2.2.1.toNat
 ((0 :
 Int),
 (0 :
 Int),
 (0 :
 Int))).1 =
 (x.2.2.1.getD
 g.2.2.1.toNat
 ((0 :
 Int),
 (0 :
 Int),
 (0 :
 Int))).1 ∧
 false =
 false ∧
 ((x.2.2.1.getD
 g.2.2.1.toNat
 ((0 :
 Int),
 (0 :
 Int),
 (0 :
 Int))).1 ==
 (1 :
 Int)) =
 ((x.2.2.1.getD
 g.2.2.1.toNat
 ((0 :
 Int),
 (0 :
 Int),
 (0 :
 Int))).1 ==
 (1 :
 Int)) ∧
 True ∧
 True ∧
 True ∧
 True ∧
 True ∧
 True ∧
 True ∧
 True ∧
 True ∧
 True ∧
 True ∧
 false =
 false ∧
 ((x.2.2.1.getD
 g.2.2.1.toNat
 ((0 :
 Int),
 (0 :
 Int),
 (0 :
 Int))).1 ==
 (2 :
 Int)) =
 ((x.2.2.1.getD
 g.2.2.1.toNat
 ((0 :
 Int),
 (0 :
 Int),
 (0 :
 Int))).1 ==
 (2 :
 Int)) ∧
 True ∧
 True ∧
 True ∧
 True ∧
 true =
 true ∧
 ((x.2.2.1.getD
 g.2.2.1.toNat
 ((0 :
 Int),
 (0 :
 Int),
 (0 :
 Int))).1 ==
 (3 :
 Int)) =
 ((x.2.2.1.getD
 g.2.2.1.toNat
 ((0 :
 Int),
 (0 :
 Int),
 (0 :
 Int))).1 ==
 (3 :
 Int)) ∧
 (True ∧
 True) ∧
 (True ∧
 True) ∧
 (x.2.2.1.getD
 g.2.2.1.toNat
 ((0 :
 Int),
 (0 :
 Int),
 (0 :
 Int))).2.2 =
 (x.2.2.1.getD
 g.2.2.1.toNat
 ((0 :
 Int),
 (0 :
 Int),
 (0 :
 Int))).2.2 ∧
 (True ∧
 True) ∧
 (True ∧
 True) ∧
 (True ∧
 True) ∧
 True ∧
 (True ∧
 True) ∧
 (x.2.2.1.getD
 g.2.2.1.toNat
 ((0 :
 Int),
 (0 :
 Int),
 (0 :
 Int))).2.1 =
 (x.2.2.1.getD
 g.2.2.1.toNat
 ((0 :
 Int),
 (0 :
 Int),
 (0 :
 Int))).2.1 ∧
 ((True ∧
 True ∧
 True) ∧
 (x.2.2.1.getD
 g.2.2.1.toNat
 ((0 :
 Int),
 (0 :
 Int),
 (0 :
 Int))).2.1.toNat =
 (x.2.2.1.getD
 g.2.2.1.toNat
 ((0 :
 Int),
 (0 :
 Int),
 (0 :
 Int))).2.1.toNat) ∧
 ((True ∧
 True ∧
 True) ∧
 (x.2.2.1.getD
 g.2.2.1.toNat
 ((0 :
 Int),
 (0 :
 Int),
 (0 :
 Int))).2.1.toNat =
 (x.2.2.1.getD
 g.2.2.1.toNat
 ((0 :
 Int),
 (0 :
 Int),
 (0 :
 Int))).2.1.toNat) ∧
 (g.1.2.1.getD
 (x.2.2.1.getD
 g.2.2.1.toNat
 ((0 :
 Int),
 (0 :
 Int),
 (0 :
 Int))).2.1.toNat
 ((0 :
 Int),
 (0 :
 Int))).1 =
 (g.1.2.1.getD
 (x.2.2.1.getD
 g.2.2.1.toNat
 ((0 :
 Int),
 (0 :
 Int),
 (0 :
 Int))).2.1.toNat
 ((0 :
 Int),
 (0 :
 Int))).1 ∧
 True ∧
 True ∧
 True ∧
 True ∧
 True ∧
 True ∧
 True ∧
 True ∧
 True ∧
 True ∧
 True ∧
 True ∧
 True ∧
 True ∧
 True ∧
 True ∧
 True ∧
 True ∧
 True ∧
 True ∧
 True ∧
 (True ∧
 True) ∧
 True ∧
 True ∧
 (True ∧
 True) ∧
 True ∧
 True ∧
 True ∧
 True ∧
 True ∧
 True ∧
 True ∧
 True ∧
 True ∧
 True ∧
 True ∧
 True ∧
 True ∧
 True ∧
 True ∧
 True ∧
 True ∧
 True ∧
 True ∧
 True ∧
 True ∧
 x.2.2.1 =
 x.2.2.1 ∧
 (↑x.2.2.1.length :
 Int) =
 (↑x.2.2.1.length :
 Int) ∧
 g.2.2.1 =
 g.2.2.1 ∧
 true =
 true ∧
 True ∧
 ((x.2.2.1.getD
 g.2.2.1.toNat
 ((0 :
 Int),
 (0 :
 Int),
 (0 :
 Int))).1 =
 (x.2.2.1.getD
 g.2.2.1.toNat
 ((0 :
 Int),
 (0 :
 Int),
 (0 :
 Int))).1 ∧
 (x.2.2.1.getD
 g.2.2.1.toNat
 ((0 :
 Int),
 (0 :
 Int),
 (0 :
 Int))).2.1 =
 (x.2.2.1.getD
 g.2.2.1.toNat
 ((0 :
 Int),
 (0 :
 Int),
 (0 :
 Int))).2.1 ∧
 (x.2.2.1.getD
 g.2.2.1.toNat
 ((0 :
 Int),
 (0 :
 Int),
 (0 :
 Int))).2.2 =
 (x.2.2.1.getD
 g.2.2.1.toNat
 ((0 :
 Int),
 (0 :
 Int),
 (0 :
 Int))).2.2 ∧
 True) ∧
 True ∧
 (True ∧
 True) ∧
 ((x.2.2.1.getD
 g.2.2.1.toNat
 ((0 :
 Int),
 (0 :
 Int),
 (0 :
 Int))).1 =
 (x.2.2.1.getD
 g.2.2.1.toNat
 ((0 :
 Int),
 (0 :
 Int),
 (0 :
 Int))).1 ∧
 (x.2.2.1.getD
 g.2.2.1.toNat
 ((0 :
 Int),
 (0 :
 Int),
 (0 :
 Int))).2.1 =
 (x.2.2.1.getD
 g.2.2.1.toNat
 ((0 :
 Int),
 (0 :
 Int),
 (0 :
 Int))).2.1 ∧
 (x.2.2.1.getD
 g.2.2.1.toNat
 ((0 :
 Int),
 (0 :
 Int),
 (0 :
 Int))).2.2 =
 (x.2.2.1.getD
 g.2.2.1.toNat
 ((0 :
 Int),
 (0 :
 Int),
 (0 :
 Int))).2.2 ∧
 True) ∧
 True ∧
 True ∧
 True ∧
 True ∧
 True ∧
 True ∧
 True ∧
 True ∧
 True ∧
 True ∧
 True)) ∧
 (decide
 ((↑(allOf
 (g.1.2.2.getD
 g_1.2.1.toNat
 ((0 : Int) ::
 (0 : Int) ::
 (0 : Int) ::
 (0 : Int) ::
 ([] :
 List
 Int)))).length :
 Int) <
 (224 : Int)) =
 !true →
 ((-9223372036854775808 : Int) ≤
 g_1.2.1 + (1 : Int) ∧
 g_1.2.1 + (1 : Int) ≤
 (9223372036854775807 : Int)) ∧
 (((0 : Int) ≤ g_1.2.1 + (1 : Int) ∧
 g_1.2.1 + (1 : Int) ≤ x.1 ∧
 g_1.1 =
 (bst
 (okc
 (x.2.2.1.getD
 g.2.2.1.toNat
 ((0 : Int), (0 : Int),
 (0 : Int))).2.2
 (g.1.2.1.getD
 (x.2.2.1.getD
 g.2.2.1.toNat
 ((0 : Int),
 (0 : Int),
 (0 :
 Int))).2.1.toNat
 ((0 : Int),
 (0 : Int))).1)
 (ldT g.1.2.2)
 (g_1.2.1 +
 (1 : Int)).toNat).1) ∧
 (x.1 -
 (g_1.2.1 + (1 : Int))).toNat <
 (x.1 - g_1.2.1).toNat) ∧
 ((True ∧ True) ∧
 (x.2.2.1.getD
 g.2.2.1.toNat
 ((0 : Int), (0 : Int),
 (0 : Int))).2.2 =
 (x.2.2.1.getD
 g.2.2.1.toNat
 ((0 : Int), (0 : Int),
 (0 : Int))).2.2 ∧
 (g.1.2.1.getD
 (x.2.2.1.getD
 g.2.2.1.toNat
 ((0 : Int),
 (0 : Int),
 (0 :
 Int))).2.1.toNat
 ((0 : Int),
 (0 : Int))).1 =
 (g.1.2.1.getD
 (x.2.2.1.getD
 g.2.2.1.toNat
 ((0 : Int),
 (0 : Int),
 (0 :
 Int))).2.1.toNat
 ((0 : Int),
 (0 : Int))).1 ∧
 g_1.1 = g_1.1 ∧
 x.1 = x.1 ∧
 g_1.2.1 + (1 : Int) =
 g_1.2.1 + (1 : Int) ∧
 True) ∧
 ((x.1 = x.1 ∧ True ∧ True ∧ True) ∧
 g.1.2.1 = g.1.2.1 ∧
 g.1.2.2 = g.1.2.2 ∧
 ((x.2.2.1.getD
 g.2.2.1.toNat
 ((0 : Int), (0 : Int),
 (0 : Int))).1 =
 (x.2.2.1.getD
 g.2.2.1.toNat
 ((0 : Int), (0 : Int),
 (0 : Int))).1 ∧
 (x.2.2.1.getD
 g.2.2.1.toNat
 ((0 : Int),
 (0 : Int),
 (0 :
 Int))).2.1 =
 (x.2.2.1.getD
 g.2.2.1.toNat
 ((0 : Int),
 (0 : Int),
 (0 :
 Int))).2.1 ∧
 (x.2.2.1.getD
 g.2.2.1.toNat
 ((0 : Int),
 (0 : Int),
 (0 :
 Int))).2.2 =
 (x.2.2.1.getD
 g.2.2.1.toNat
 ((0 : Int),
 (0 : Int),
 (0 :
 Int))).2.2 ∧
 True) ∧
 g.2.1 = g.2.1 ∧
 ((x.2.2.1.getD
 g.2.2.1.toNat
 ((0 : Int),
 (0 : Int),
 (0 :
 Int))).1 =
 (x.2.2.1.getD
 g.2.2.1.toNat
 ((0 : Int),
 (0 : Int),
 (0 :
 Int))).1 ∧
 (x.2.2.1.getD
 g.2.2.1.toNat
 ((0 : Int),
 (0 : Int),
 (0 :
 Int))).2.1 =
 (x.2.2.1.getD
 g.2.2.1.toNat
 ((0 : Int),
 (0 : Int),
 (0 :
 Int))).2.1 ∧
 (x.2.2.1.getD
 g.2.2.1.toNat
 ((0 : Int),
 (0 : Int),
 (0 :
 Int))).2.2 =
 (x.2.2.1.getD
 g.2.2.1.toNat
 ((0 : Int),
 (0 : Int),
 (0 :
 Int))).2.2 ∧
 True) ∧
 True) ∧
 (True ∧ True) ∧
 ((x.2.2.1.getD
 g.2.2.1.toNat
 ((0 : Int), (0 : Int),
 (0 : Int))).1 =
 (x.2.2.1.getD
 g.2.2.1.toNat
 ((0 : Int), (0 : Int),
 (0 : Int))).1 ∧
 (x.2.2.1.getD
 g.2.2.1.toNat
 ((0 : Int), (0 : Int),
 (0 :
 Int))).2.1 =
 (x.2.2.1.getD
 g.2.2.1.toNat
 ((0 : Int), (0 : Int),
 (0 :
 Int))).2.1 ∧
 (x.2.2.1.getD
 g.2.2.1.toNat
 ((0 : Int),
 (0 : Int),
 (0 :
 Int))).2.2 =
 (x.2.2.1.getD
 g.2.2.1.toNat
 ((0 : Int),
 (0 : Int),
 (0 :
 Int))).2.2 ∧
 True) ∧
 True ∧
 (True ∧ True) ∧
 (0 : Int) = (0 : Int) ∧
 True ∧
 True ∧
 false = false ∧
 (True ∧ True) ∧
 (x.2.2.1.getD
 g.2.2.1.toNat
 ((0 : Int),
 (0 : Int),
 (0 :
 Int))).1 =
 (x.2.2.1.getD
 g.2.2.1.toNat
 ((0 : Int),
 (0 : Int),
 (0 :
 Int))).1 ∧
 decide
 ((x.2.2.1.getD
 g.2.2.1.toNat
 ((0 :
 Int),
 (0 :
 Int),
 (0 :
 Int))).1 <
 (1 :
 Int)) =
 decide
 ((x.2.2.1.getD
 g.2.2.1.toNat
 ((0 :
 Int),
 (0 :
 Int),
 (0 :
 Int))).1 <
 (1 :
 Int)) ∧
 decide
 ((x.2.2.1.getD
 g.2.2.1.toNat
 ((0 :
 Int),
 (0 :
 Int),
 (0 :
 Int))).1 <
 (1 :
 Int)) =
 decide
 ((x.2.2.1.getD
 g.2.2.1.toNat
 ((0 :
 Int),
 (0 :
 Int),
 (0 :
 Int))).1 <
 (1 :
 Int)) ∧
 True ∧
 True ∧
 True ∧
 (decide
 ((x.2.2.1.getD
 g.2.2.1.toNat
 ((0 :
 Int),
 (0 :
 Int),
 (0 :
 Int))).1 <
 (1 :
 Int)) ||
 decide
 ((3 :
 Int) <
 (x.2.2.1.getD
 g.2.2.1.toNat
 ((0 :
 Int),
 (0 :
 Int),
 (0 :
 Int))).1)) =
 (decide
 ((x.2.2.1.getD
 g.2.2.1.toNat
 ((0 :
 Int),
 (0 :
 Int),
 (0 :
 Int))).1 <
 (1 :
 Int)) ||
 decide
 ((3 :
 Int) <
 (x.2.2.1.getD
 g.2.2.1.toNat
 ((0 :
 Int),
 (0 :
 Int),
 (0 :
 Int))).1)) ∧
 false =
 false ∧
 (True ∧
 True) ∧
 (x.2.2.1.getD
 g.2.2.1.toNat
 ((0 :
 Int),
 (0 :
 Int),
 (0 :
 Int))).2.1 =
 (x.2.2.1.getD
 g.2.2.1.toNat
 ((0 :
 Int),
 (0 :
 Int),
 (0 :
 Int))).2.1 ∧
 decide
 ((x.2.2.1.getD
 g.2.2.1.toNat
 ((0 :
 Int),
 (0 :
 Int),
 (0 :
 Int))).2.1 <
 (0 :
 Int)) =
 decide
 ((x.2.2.1.getD
 g.2.2.1.toNat
 ((0 :
 Int),
 (0 :
 Int),
 (0 :
 Int))).2.1 <
 (0 :
 Int)) ∧
 false =
 false ∧
 (True ∧
 True) ∧
 (x.2.2.1.getD
 g.2.2.1.toNat
 ((0 :
 Int),
 (0 :
 Int),
 (0 :
 Int))).2.1 =
 (x.2.2.1.getD
 g.2.2.1.toNat
 ((0 :
 Int),
 (0 :
 Int),
 (0 :
 Int))).2.1 ∧
 (True ∧
 True) ∧
 (True ∧
 True) ∧
 (True ∧
 True) ∧
 True ∧
 (↑g.1.2.1.length :
 Int) =
 (↑g.1.2.1.length :
 Int) ∧
 decide
 ((↑g.1.2.1.length :
 Int) ≤
 (x.2.2.1.getD
 g.2.2.1.toNat
 ((0 :
 Int),
 (0 :
 Int),
 (0 :
 Int))).2.1) =
 decide
 ((↑g.1.2.1.length :
 Int) ≤
 (x.2.2.1.getD
 g.2.2.1.toNat
 ((0 :
 Int),
 (0 :
 Int),
 (0 :
 Int))).2.1) ∧
 decide
 ((↑g.1.2.1.length :
 Int) ≤
 (x.2.2.1.getD
 g.2.2.1.toNat
 ((0 :
 Int),
 (0 :
 Int),
 (0 :
 Int))).2.1) =
 decide
 ((↑g.1.2.1.length :
 Int) ≤
 (x.2.2.1.getD
 g.2.2.1.toNat
 ((0 :
 Int),
 (0 :
 Int),
 (0 :
 Int))).2.1) ∧
 false =
 false ∧
 (True ∧
 True) ∧
 (x.2.2.1.getD
 g.2.2.1.toNat
 ((0 :
 Int),
 (0 :
 Int),
 (0 :
 Int))).1 =
 (x.2.2.1.getD
 g.2.2.1.toNat
 ((0 :
 Int),
 (0 :
 Int),
 (0 :
 Int))).1 ∧
 ((x.2.2.1.getD
 g.2.2.1.toNat
 ((0 :
 Int),
 (0 :
 Int),
 (0 :
 Int))).1 ==
 (1 :
 Int)) =
 ((x.2.2.1.getD
 g.2.2.1.toNat
 ((0 :
 Int),
 (0 :
 Int),
 (0 :
 Int))).1 ==
 (1 :
 Int)) ∧
 (True ∧
 True) ∧
 (True ∧
 True) ∧
 (True ∧
 True) ∧
 True ∧
 (True ∧
 True) ∧
 (x.2.2.1.getD
 g.2.2.1.toNat
 ((0 :
 Int),
 (0 :
 Int),
 (0 :
 Int))).2.1 =
 (x.2.2.1.getD
 g.2.2.1.toNat
 ((0 :
 Int),
 (0 :
 Int),
 (0 :
 Int))).2.1 ∧
 ((True ∧
 True ∧
 True) ∧
 (x.2.2.1.getD
 g.2.2.1.toNat
 ((0 :
 Int),
 (0 :
 Int),
 (0 :
 Int))).2.1.toNat =
 (x.2.2.1.getD
 g.2.2.1.toNat
 ((0 :
 Int),
 (0 :
 Int),
 (0 :
 Int))).2.1.toNat) ∧
 ((True ∧
 True ∧
 True) ∧
 (x.2.2.1.getD
 g.2.2.1.toNat
 ((0 :
 Int),
 (0 :
 Int),
 (0 :
 Int))).2.1.toNat =
 (x.2.2.1.getD
 g.2.2.1.toNat
 ((0 :
 Int),
 (0 :
 Int),
 (0 :
 Int))).2.1.toNat) ∧
 (g.1.2.1.getD
 (x.2.2.1.getD
 g.2.2.1.toNat
 ((0 :
 Int),
 (0 :
 Int),
 (0 :
 Int))).2.1.toNat
 ((0 :
 Int),
 (0 :
 Int))).2 =
 (g.1.2.1.getD
 (x.2.2.1.getD
 g.2.2.1.toNat
 ((0 :
 Int),
 (0 :
 Int),
 (0 :
 Int))).2.1.toNat
 ((0 :
 Int),
 (0 :
 Int))).2 ∧
 decide
 ((0 :
 Int) <
 (g.1.2.1.getD
 (x.2.2.1.getD
 g.2.2.1.toNat
 ((0 :
 Int),
 (0 :
 Int),
 (0 :
 Int))).2.1.toNat
 ((0 :
 Int),
 (0 :
 Int))).2) =
 decide
 ((0 :
 Int) <
 (g.1.2.1.getD
 (x.2.2.1.getD
 g.2.2.1.toNat
 ((0 :
 Int),
 (0 :
 Int),
 (0 :
 Int))).2.1.toNat
 ((0 :
 Int),
 (0 :
 Int))).2) ∧
 (((x.2.2.1.getD
 g.2.2.1.toNat
 ((0 :
 Int),
 (0 :
 Int),
 (0 :
 Int))).1 ==
 (1 :
 Int)) ==
 decide
 ((0 :
 Int) <
 (g.1.2.1.getD
 (x.2.2.1.getD
 g.2.2.1.toNat
 ((0 :
 Int),
 (0 :
 Int),
 (0 :
 Int))).2.1.toNat
 ((0 :
 Int),
 (0 :
 Int))).2)) =
 (((x.2.2.1.getD
 g.2.2.1.toNat
 ((0 :
 Int),
 (0 :
 Int),
 (0 :
 Int))).1 ==
 (1 :
 Int)) ==
 decide
 ((0 :
 Int) <
 (g.1.2.1.getD
 (x.2.2.1.getD
 g.2.2.1.toNat
 ((0 :
 Int),
 (0 :
 Int),
 (0 :
 Int))).2.1.toNat
 ((0 :
 Int),
 (0 :
 Int))).2)) ∧
 True ∧
 True ∧
 True ∧
 (True ∧
 True) ∧
 (x.2.2.1.getD
 g.2.2.1.toNat
 ((0 :
 Int),
 (0 :
 Int),
 (0 :
 Int))).1 =
 (x.2.2.1.getD
 g.2.2.1.toNat
 ((0 :
 Int),
 (0 :
 Int),
 (0 :
 Int))).1 ∧
 false =
 false ∧
 ((x.2.2.1.getD
 g.2.2.1.toNat
 ((0 :
 Int),
 (0 :
 Int),
 (0 :
 Int))).1 ==
 (1 :
 Int)) =
 ((x.2.2.1.getD
 g.2.2.1.toNat
 ((0 :
 Int),
 (0 :
 Int),
 (0 :
 Int))).1 ==
 (1 :
 Int)) ∧
 True ∧
 True ∧
 True ∧
 True ∧
 True ∧
 True ∧
 True ∧
 True ∧
 True ∧
 True ∧
 True ∧
 false =
 false ∧
 ((x.2.2.1.getD
 g.2.2.1.toNat
 ((0 :
 Int),
 (0 :
 Int),
 (0 :
 Int))).1 ==
 (2 :
 Int)) =
 ((x.2.2.1.getD
 g.2.2.1.toNat
 ((0 :
 Int),
 (0 :
 Int),
 (0 :
 Int))).1 ==
 (2 :
 Int)) ∧
 True ∧
 True ∧
 True ∧
 True ∧
 true =
 true ∧
 ((x.2.2.1.getD
 g.2.2.1.toNat
 ((0 :
 Int),
 (0 :
 Int),
 (0 :
 Int))).1 ==
 (3 :
 Int)) =
 ((x.2.2.1.getD
 g.2.2.1.toNat
 ((0 :
 Int),
 (0 :
 Int),
 (0 :
 Int))).1 ==
 (3 :
 Int)) ∧
 (True ∧
 True) ∧
 (True ∧
 True) ∧
 (x.2.2.1.getD
 g.2.2.1.toNat
 ((0 :
 Int),
 (0 :
 Int),
 (0 :
 Int))).2.2 =
 (x.2.2.1.getD
 g.2.2.1.toNat
 ((0 :
 Int),
 (0 :
 Int),
 (0 :
 Int))).2.2 ∧
 (True ∧
 True) ∧
 (True ∧
 True) ∧
 (True ∧
 True) ∧
 True ∧
 (True ∧
 True) ∧
 (x.2.2.1.getD
 g.2.2.1.toNat
 ((0 :
 Int),
 (0 :
 Int),
 (0 :
 Int))).2.1 =
 (x.2.2.1.getD
 g.2.2.1.toNat
 ((0 :
 Int),
 (0 :
 Int),
 (0 :
 Int))).2.1 ∧
 ((True ∧
 True ∧
 True) ∧
 (x.2.2.1.getD
 g.2.2.1.toNat
 ((0 :
 Int),
 (0 :
 Int),
 (0 :
 Int))).2.1.toNat =
 (x.2.2.1.getD
 g.2.2.1.toNat
 ((0 :
 Int),
 (0 :
 Int),
 (0 :
 Int))).2.1.toNat) ∧
 ((True ∧
 True ∧
 True) ∧
 (x.2.2.1.getD
 g.2.2.1.toNat
 ((0 :
 Int),
 (0 :
 Int),
 (0 :
 Int))).2.1.toNat =
 (x.2.2.1.getD
 g.2.2.1.toNat
 ((0 :
 Int),
 (0 :
 Int),
 (0 :
 Int))).2.1.toNat) ∧
 (g.1.2.1.getD
 (x.2.2.1.getD
 g.2.2.1.toNat
 ((0 :
 Int),
 (0 :
 Int),
 (0 :
 Int))).2.1.toNat
 ((0 :
 Int),
 (0 :
 Int))).1 =
 (g.1.2.1.getD
 (x.2.2.1.getD
 g.2.2.1.toNat
 ((0 :
 Int),
 (0 :
 Int),
 (0 :
 Int))).2.1.toNat
 ((0 :
 Int),
 (0 :
 Int))).1 ∧
 True ∧
 True ∧
 True ∧
 True ∧
 True ∧
 True ∧
 True ∧
 True ∧
 True ∧
 True ∧
 True ∧
 True ∧
 True ∧
 True ∧
 True ∧
 True ∧
 True ∧
 True ∧
 True ∧
 True ∧
 True ∧
 (True ∧
 True) ∧
 True ∧
 True ∧
 (True ∧
 True) ∧
 True ∧
 True ∧
 True ∧
 True ∧
 True ∧
 True ∧
 True ∧
 True ∧
 True ∧
 True ∧
 True ∧
 True ∧
 True ∧
 True ∧
 True ∧
 True ∧
 True ∧
 True ∧
 True ∧
 True ∧
 True ∧
 x.2.2.1 =
 x.2.2.1 ∧
 (↑x.2.2.1.length :
 Int) =
 (↑x.2.2.1.length :
 Int) ∧
 g.2.2.1 =
 g.2.2.1 ∧
 true =
 true ∧
 True ∧
 ((x.2.2.1.getD
 g.2.2.1.toNat
 ((0 :
 Int),
 (0 :
 Int),
 (0 :
 Int))).1 =
 (x.2.2.1.getD
 g.2.2.1.toNat
 ((0 :
 Int),
 (0 :
 Int),
 (0 :
 Int))).1 ∧
 (x.2.2.1.getD
 g.2.2.1.toNat
 ((0 :
 Int),
 (0 :
 Int),
 (0 :
 Int))).2.1 =
 (x.2.2.1.getD
 g.2.2.1.toNat
 ((0 :
 Int),
 (0 :
 Int),
 (0 :
 Int))).2.1 ∧
 (x.2.2.1.getD
 g.2.2.1.toNat
 ((0 :
 Int),
 (0 :
 Int),
 (0 :
 Int))).2.2 =
 (x.2.2.1.getD
 g.2.2.1.toNat
 ((0 :
 Int),
 (0 :
 Int),
 (0 :
 Int))).2.2 ∧
 True) ∧
 True ∧
 (True ∧
 True) ∧
 ((x.2.2.1.getD
 g.2.2.1.toNat
 ((0 :
 Int),
 (0 :
 Int),
 (0 :
 Int))).1 =
 (x.2.2.1.getD
 g.2.2.1.toNat
 ((0 :
 Int),
 (0 :
 Int),
 (0 :
 Int))).1 ∧
 (x.2.2.1.getD
 g.2.2.1.toNat
 ((0 :
 Int),
 (0 :
 Int),
 (0 :
 Int))).2.1 =
 (x.2.2.1.getD
 g.2.2.1.toNat
 ((0 :
 Int),
 (0 :
 Int),
 (0 :
 Int))).2.1 ∧
 (x.2.2.1.getD
 g.2.2.1.toNat
 ((0 :
 Int),
 (0 :
 Int),
 (0 :
 Int))).2.2 =
 (x.2.2.1.getD
 g.2.2.1.toNat
 ((0 :
 Int),
 (0 :
 Int),
 (0 :
 Int))).2.2 ∧
 True) ∧
 True ∧
 True ∧
 True ∧
 True ∧
 True ∧
 True ∧
 True ∧
 True ∧
 True ∧
 True ∧
 True)) ∧
 ((bits BinOp.and IntKind.i64
 ((x.2.2.1.getD g.2.2.1.toNat
 ((0 : Int), (0 : Int),
 (0 : Int))).2.2 /
 (2 : Int) ^
 min g_1.2.1.toNat IntKind.i64.bits)
 (1 : Int) ==
 (1 : Int) &&
 g_1.2.1 !=
 (g.1.2.1.getD
 (x.2.2.1.getD g.2.2.1.toNat
 ((0 : Int), (0 : Int),
 (0 : Int))).2.1.toNat
 ((0 : Int), (0 : Int))).1) =
 !true →
 ((-9223372036854775808 : Int) ≤
 g_1.2.1 + (1 : Int) ∧
 g_1.2.1 + (1 : Int) ≤
 (9223372036854775807 : Int)) ∧
 (((0 : Int) ≤ g_1.2.1 + (1 : Int) ∧
 g_1.2.1 + (1 : Int) ≤ x.1 ∧
 g_1.1 =
 (bst
 (okc
 (x.2.2.1.getD
 g.2.2.1.toNat
 ((0 : Int), (0 : Int),
 (0 : Int))).2.2
 (g.1.2.1.getD
 (x.2.2.1.getD
 g.2.2.1.toNat
 ((0 : Int), (0 : Int),
 (0 :
 Int))).2.1.toNat
 ((0 : Int), (0 : Int))).1)
 (ldT g.1.2.2)
 (g_1.2.1 + (1 : Int)).toNat).1) ∧
 (x.1 - (g_1.2.1 + (1 : Int))).toNat <
 (x.1 - g_1.2.1).toNat) ∧
 ((True ∧ True) ∧
 (x.2.2.1.getD g.2.2.1.toNat
 ((0 : Int), (0 : Int),
 (0 : Int))).2.2 =
 (x.2.2.1.getD g.2.2.1.toNat
 ((0 : Int), (0 : Int),
 (0 : Int))).2.2 ∧
 (g.1.2.1.getD
 (x.2.2.1.getD
 g.2.2.1.toNat
 ((0 : Int), (0 : Int),
 (0 : Int))).2.1.toNat
 ((0 : Int), (0 : Int))).1 =
 (g.1.2.1.getD
 (x.2.2.1.getD
 g.2.2.1.toNat
 ((0 : Int), (0 : Int),
 (0 : Int))).2.1.toNat
 ((0 : Int), (0 : Int))).1 ∧
 g_1.1 = g_1.1 ∧
 x.1 = x.1 ∧
 g_1.2.1 + (1 : Int) =
 g_1.2.1 + (1 : Int) ∧
 True) ∧
 ((x.1 = x.1 ∧ True ∧ True ∧ True) ∧
 g.1.2.1 = g.1.2.1 ∧
 g.1.2.2 = g.1.2.2 ∧
 ((x.2.2.1.getD g.2.2.1.toNat
 ((0 : Int), (0 : Int),
 (0 : Int))).1 =
 (x.2.2.1.getD
 g.2.2.1.toNat
 ((0 : Int), (0 : Int),
 (0 : Int))).1 ∧
 (x.2.2.1.getD
 g.2.2.1.toNat
 ((0 : Int), (0 : Int),
 (0 : Int))).2.1 =
 (x.2.2.1.getD
 g.2.2.1.toNat
 ((0 : Int), (0 : Int),
 (0 : Int))).2.1 ∧
 (x.2.2.1.getD
 g.2.2.1.toNat
 ((0 : Int), (0 : Int),
 (0 : Int))).2.2 =
 (x.2.2.1.getD
 g.2.2.1.toNat
 ((0 : Int), (0 : Int),
 (0 : Int))).2.2 ∧
 True) ∧
 g.2.1 = g.2.1 ∧
 ((x.2.2.1.getD
 g.2.2.1.toNat
 ((0 : Int), (0 : Int),
 (0 : Int))).1 =
 (x.2.2.1.getD
 g.2.2.1.toNat
 ((0 : Int), (0 : Int),
 (0 : Int))).1 ∧
 (x.2.2.1.getD
 g.2.2.1.toNat
 ((0 : Int), (0 : Int),
 (0 : Int))).2.1 =
 (x.2.2.1.getD
 g.2.2.1.toNat
 ((0 : Int), (0 : Int),
 (0 : Int))).2.1 ∧
 (x.2.2.1.getD
 g.2.2.1.toNat
 ((0 : Int), (0 : Int),
 (0 :
 Int))).2.2 =
 (x.2.2.1.getD
 g.2.2.1.toNat
 ((0 : Int), (0 : Int),
 (0 :
 Int))).2.2 ∧
 True) ∧
 True) ∧
 (True ∧ True) ∧
 ((x.2.2.1.getD g.2.2.1.toNat
 ((0 : Int), (0 : Int),
 (0 : Int))).1 =
 (x.2.2.1.getD g.2.2.1.toNat
 ((0 : Int), (0 : Int),
 (0 : Int))).1 ∧
 (x.2.2.1.getD g.2.2.1.toNat
 ((0 : Int), (0 : Int),
 (0 : Int))).2.1 =
 (x.2.2.1.getD
 g.2.2.1.toNat
 ((0 : Int), (0 : Int),
 (0 : Int))).2.1 ∧
 (x.2.2.1.getD g.2.2.1.toNat
 ((0 : Int), (0 : Int),
 (0 : Int))).2.2 =
 (x.2.2.1.getD
 g.2.2.1.toNat
 ((0 : Int), (0 : Int),
 (0 : Int))).2.2 ∧
 True) ∧
 True ∧
 (True ∧ True) ∧
 (0 : Int) = (0 : Int) ∧
 True ∧
 True ∧
 false = false ∧
 (True ∧ True) ∧
 (x.2.2.1.getD
 g.2.2.1.toNat
 ((0 : Int), (0 : Int),
 (0 : Int))).1 =
 (x.2.2.1.getD
 g.2.2.1.toNat
 ((0 : Int), (0 : Int),
 (0 : Int))).1 ∧
 decide
 ((x.2.2.1.getD
 g.2.2.1.toNat
 ((0 : Int),
 (0 : Int),
 (0 :
 Int))).1 <
 (1 : Int)) =
 decide
 ((x.2.2.1.getD
 g.2.2.1.toNat
 ((0 : Int),
 (0 : Int),
 (0 :
 Int))).1 <
 (1 : Int)) ∧
 decide
 ((x.2.2.1.getD
 g.2.2.1.toNat
 ((0 : Int),
 (0 : Int),
 (0 :
 Int))).1 <
 (1 : Int)) =
 decide
 ((x.2.2.1.getD
 g.2.2.1.toNat
 ((0 : Int),
 (0 : Int),
 (0 :
 Int))).1 <
 (1 : Int)) ∧
 True ∧
 True ∧
 True ∧
 (decide
 ((x.2.2.1.getD
 g.2.2.1.toNat
 ((0 :
 Int),
 (0 :
 Int),
 (0 :
 Int))).1 <
 (1 :
 Int)) ||
 decide
 ((3 :
 Int) <
 (x.2.2.1.getD
 g.2.2.1.toNat
 ((0 :
 Int),
 (0 :
 Int),
 (0 :
 Int))).1)) =
 (decide
 ((x.2.2.1.getD
 g.2.2.1.toNat
 ((0 :
 Int),
 (0 :
 Int),
 (0 :
 Int))).1 <
 (1 :
 Int)) ||
 decide
 ((3 :
 Int) <
 (x.2.2.1.getD
 g.2.2.1.toNat
 ((0 :
 Int),
 (0 :
 Int),
 (0 :
 Int))).1)) ∧
 false = false ∧
 (True ∧
 True) ∧
 (x.2.2.1.getD
 g.2.2.1.toNat
 ((0 :
 Int),
 (0 :
 Int),
 (0 :
 Int))).2.1 =
 (x.2.2.1.getD
 g.2.2.1.toNat
 ((0 :
 Int),
 (0 :
 Int),
 (0 :
 Int))).2.1 ∧
 decide
 ((x.2.2.1.getD
 g.2.2.1.toNat
 ((0 :
 Int),
 (0 :
 Int),
 (0 :
 Int))).2.1 <
 (0 :
 Int)) =
 decide
 ((x.2.2.1.getD
 g.2.2.1.toNat
 ((0 :
 Int),
 (0 :
 Int),
 (0 :
 Int))).2.1 <
 (0 :
 Int)) ∧
 false =
 false ∧
 (True ∧
 True) ∧
 (x.2.2.1.getD
 g.2.2.1.toNat
 ((0 :
 Int),
 (0 :
 Int),
 (0 :
 Int))).2.1 =
 (x.2.2.1.getD
 g.2.2.1.toNat
 ((0 :
 Int),
 (0 :
 Int),
 (0 :
 Int))).2.1 ∧
 (True ∧
 True) ∧
 (True ∧
 True) ∧
 (True ∧
 True) ∧
 True ∧
 (↑g.1.2.1.length :
 Int) =
 (↑g.1.2.1.length :
 Int) ∧
 decide
 ((↑g.1.2.1.length :
 Int) ≤
 (x.2.2.1.getD
 g.2.2.1.toNat
 ((0 :
 Int),
 (0 :
 Int),
 (0 :
 Int))).2.1) =
 decide
 ((↑g.1.2.1.length :
 Int) ≤
 (x.2.2.1.getD
 g.2.2.1.toNat
 ((0 :
 Int),
 (0 :
 Int),
 (0 :
 Int))).2.1) ∧
 decide
 ((↑g.1.2.1.length :
 Int) ≤
 (x.2.2.1.getD
 g.2.2.1.toNat
 ((0 :
 Int),
 (0 :
 Int),
 (0 :
 Int))).2.1) =
 decide
 ((↑g.1.2.1.length :
 Int) ≤
 (x.2.2.1.getD
 g.2.2.1.toNat
 ((0 :
 Int),
 (0 :
 Int),
 (0 :
 Int))).2.1) ∧
 false =
 false ∧
 (True ∧
 True) ∧
 (x.2.2.1.getD
 g.2.2.1.toNat
 ((0 :
 Int),
 (0 :
 Int),
 (0 :
 Int))).1 =
 (x.2.2.1.getD
 g.2.2.1.toNat
 ((0 :
 Int),
 (0 :
 Int),
 (0 :
 Int))).1 ∧
 ((x.2.2.1.getD
 g.2.2.1.toNat
 ((0 :
 Int),
 (0 :
 Int),
 (0 :
 Int))).1 ==
 (1 :
 Int)) =
 ((x.2.2.1.getD
 g.2.2.1.toNat
 ((0 :
 Int),
 (0 :
 Int),
 (0 :
 Int))).1 ==
 (1 :
 Int)) ∧
 (True ∧
 True) ∧
 (True ∧
 True) ∧
 (True ∧
 True) ∧
 True ∧
 (True ∧
 True) ∧
 (x.2.2.1.getD
 g.2.2.1.toNat
 ((0 :
 Int),
 (0 :
 Int),
 (0 :
 Int))).2.1 =
 (x.2.2.1.getD
 g.2.2.1.toNat
 ((0 :
 Int),
 (0 :
 Int),
 (0 :
 Int))).2.1 ∧
 ((True ∧
 True ∧
 True) ∧
 (x.2.2.1.getD
 g.2.2.1.toNat
 ((0 :
 Int),
 (0 :
 Int),
 (0 :
 Int))).2.1.toNat =
 (x.2.2.1.getD
 g.2.2.1.toNat
 ((0 :
 Int),
 (0 :
 Int),
 (0 :
 Int))).2.1.toNat) ∧
 ((True ∧
 True ∧
 True) ∧
 (x.2.2.1.getD
 g.2.2.1.toNat
 ((0 :
 Int),
 (0 :
 Int),
 (0 :
 Int))).2.1.toNat =
 (x.2.2.1.getD
 g.2.2.1.toNat
 ((0 :
 Int),
 (0 :
 Int),
 (0 :
 Int))).2.1.toNat) ∧
 (g.1.2.1.getD
 (x.2.2.1.getD
 g.2.2.1.toNat
 ((0 :
 Int),
 (0 :
 Int),
 (0 :
 Int))).2.1.toNat
 ((0 :
 Int),
 (0 :
 Int))).2 =
 (g.1.2.1.getD
 (x.2.2.1.getD
 g.2.2.1.toNat
 ((0 :
 Int),
 (0 :
 Int),
 (0 :
 Int))).2.1.toNat
 ((0 :
 Int),
 (0 :
 Int))).2 ∧
 decide
 ((0 :
 Int) <
 (g.1.2.1.getD
 (x.2.2.1.getD
 g.2.2.1.toNat
 ((0 :
 Int),
 (0 :
 Int),
 (0 :
 Int))).2.1.toNat
 ((0 :
 Int),
 (0 :
 Int))).2) =
 decide
 ((0 :
 Int) <
 (g.1.2.1.getD
 (x.2.2.1.getD
 g.2.2.1.toNat
 ((0 :
 Int),
 (0 :
 Int),
 (0 :
 Int))).2.1.toNat
 ((0 :
 Int),
 (0 :
 Int))).2) ∧
 (((x.2.2.1.getD
 g.2.2.1.toNat
 ((0 :
 Int),
 (0 :
 Int),
 (0 :
 Int))).1 ==
 (1 :
 Int)) ==
 decide
 ((0 :
 Int) <
 (g.1.2.1.getD
 (x.2.2.1.getD
 g.2.2.1.toNat
 ((0 :
 Int),
 (0 :
 Int),
 (0 :
 Int))).2.1.toNat
 ((0 :
 Int),
 (0 :
 Int))).2)) =
 (((x.2.2.1.getD
 g.2.2.1.toNat
 ((0 :
 Int),
 (0 :
 Int),
 (0 :
 Int))).1 ==
 (1 :
 Int)) ==
 decide
 ((0 :
 Int) <
 (g.1.2.1.getD
 (x.2.2.1.getD
 g.2.2.1.toNat
 ((0 :
 Int),
 (0 :
 Int),
 (0 :
 Int))).2.1.toNat
 ((0 :
 Int),
 (0 :
 Int))).2)) ∧
 True ∧
 True ∧
 True ∧
 (True ∧
 True) ∧
 (x.2.2.1.getD
 g.2.2.1.toNat
 ((0 :
 Int),
 (0 :
 Int),
 (0 :
 Int))).1 =
 (x.2.2.1.getD
 g.2.2.1.toNat
 ((0 :
 Int),
 (0 :
 Int),
 (0 :
 Int))).1 ∧
 false =
 false ∧
 ((x.2.2.1.getD
 g.2.2.1.toNat
 ((0 :
 Int),
 (0 :
 Int),
 (0 :
 Int))).1 ==
 (1 :
 Int)) =
 ((x.2.2.1.getD
 g.2.2.1.toNat
 ((0 :
 Int),
 (0 :
 Int),
 (0 :
 Int))).1 ==
 (1 :
 Int)) ∧
 True ∧
 True ∧
 True ∧
 True ∧
 True ∧
 True ∧
 True ∧
 True ∧
 True ∧
 True ∧
 True ∧
 false =
 false ∧
 ((x.2.2.1.getD
 g.2.2.1.toNat
 ((0 :
 Int),
 (0 :
 Int),
 (0 :
 Int))).1 ==
 (2 :
 Int)) =
 ((x.2.2.1.getD
 g.2.2.1.toNat
 ((0 :
 Int),
 (0 :
 Int),
 (0 :
 Int))).1 ==
 (2 :
 Int)) ∧
 True ∧
 True ∧
 True ∧
 True ∧
 true =
 true ∧
 ((x.2.2.1.getD
 g.2.2.1.toNat
 ((0 :
 Int),
 (0 :
 Int),
 (0 :
 Int))).1 ==
 (3 :
 Int)) =
 ((x.2.2.1.getD
 g.2.2.1.toNat
 ((0 :
 Int),
 (0 :
 Int),
 (0 :
 Int))).1 ==
 (3 :
 Int)) ∧
 (True ∧
 True) ∧
 (True ∧
 True) ∧
 (x.2.2.1.getD
 g.2.2.1.toNat
 ((0 :
 Int),
 (0 :
 Int),
 (0 :
 Int))).2.2 =
 (x.2.2.1.getD
 g.2.2.1.toNat
 ((0 :
 Int),
 (0 :
 Int),
 (0 :
 Int))).2.2 ∧
 (True ∧
 True) ∧
 (True ∧
 True) ∧
 (True ∧
 True) ∧
 True ∧
 (True ∧
 True) ∧
 (x.2.2.1.getD
 g.2.2.1.toNat
 ((0 :
 Int),
 (0 :
 Int),
 (0 :
 Int))).2.1 =
 (x.2.2.1.getD
 g.2.2.1.toNat
 ((0 :
 Int),
 (0 :
 Int),
 (0 :
 Int))).2.1 ∧
 ((True ∧
 True ∧
 True) ∧
 (x.2.2.1.getD
 g.2.2.1.toNat
 ((0 :
 Int),
 (0 :
 Int),
 (0 :
 Int))).2.1.toNat =
 (x.2.2.1.getD
 g.2.2.1.toNat
 ((0 :
 Int),
 (0 :
 Int),
 (0 :
 Int))).2.1.toNat) ∧
 ((True ∧
 True ∧
 True) ∧
 (x.2.2.1.getD
 g.2.2.1.toNat
 ((0 :
 Int),
 (0 :
 Int),
 (0 :
 Int))).2.1.toNat =
 (x.2.2.1.getD
 g.2.2.1.toNat
 ((0 :
 Int),
 (0 :
 Int),
 (0 :
 Int))).2.1.toNat) ∧
 (g.1.2.1.getD
 (x.2.2.1.getD
 g.2.2.1.toNat
 ((0 :
 Int),
 (0 :
 Int),
 (0 :
 Int))).2.1.toNat
 ((0 :
 Int),
 (0 :
 Int))).1 =
 (g.1.2.1.getD
 (x.2.2.1.getD
 g.2.2.1.toNat
 ((0 :
 Int),
 (0 :
 Int),
 (0 :
 Int))).2.1.toNat
 ((0 :
 Int),
 (0 :
 Int))).1 ∧
 True ∧
 True ∧
 True ∧
 True ∧
 True ∧
 True ∧
 True ∧
 True ∧
 True ∧
 True ∧
 True ∧
 True ∧
 True ∧
 True ∧
 True ∧
 True ∧
 True ∧
 True ∧
 True ∧
 True ∧
 True ∧
 (True ∧
 True) ∧
 True ∧
 True ∧
 (True ∧
 True) ∧
 True ∧
 True ∧
 True ∧
 True ∧
 True ∧
 True ∧
 True ∧
 True ∧
 True ∧
 True ∧
 True ∧
 True ∧
 True ∧
 True ∧
 True ∧
 True ∧
 True ∧
 True ∧
 True ∧
 True ∧
 True ∧
 x.2.2.1 =
 x.2.2.1 ∧
 (↑x.2.2.1.length :
 Int) =
 (↑x.2.2.1.length :
 Int) ∧
 g.2.2.1 =
 g.2.2.1 ∧
 true =
 true ∧
 True ∧
 ((x.2.2.1.getD
 g.2.2.1.toNat
 ((0 :
 Int),
 (0 :
 Int),
 (0 :
 Int))).1 =
 (x.2.2.1.getD
 g.2.2.1.toNat
 ((0 :
 Int),
 (0 :
 Int),
 (0 :
 Int))).1 ∧
 (x.2.2.1.getD
 g.2.2.1.toNat
 ((0 :
 Int),
 (0 :
 Int),
 (0 :
 Int))).2.1 =
 (x.2.2.1.getD
 g.2.2.1.toNat
 ((0 :
 Int),
 (0 :
 Int),
 (0 :
 Int))).2.1 ∧
 (x.2.2.1.getD
 g.2.2.1.toNat
 ((0 :
 Int),
 (0 :
 Int),
 (0 :
 Int))).2.2 =
 (x.2.2.1.getD
 g.2.2.1.toNat
 ((0 :
 Int),
 (0 :
 Int),
 (0 :
 Int))).2.2 ∧
 True) ∧
 True ∧
 (True ∧
 True) ∧
 ((x.2.2.1.getD
 g.2.2.1.toNat
 ((0 :
 Int),
 (0 :
 Int),
 (0 :
 Int))).1 =
 (x.2.2.1.getD
 g.2.2.1.toNat
 ((0 :
 Int),
 (0 :
 Int),
 (0 :
 Int))).1 ∧
 (x.2.2.1.getD
 g.2.2.1.toNat
 ((0 :
 Int),
 (0 :
 Int),
 (0 :
 Int))).2.1 =
 (x.2.2.1.getD
 g.2.2.1.toNat
 ((0 :
 Int),
 (0 :
 Int),
 (0 :
 Int))).2.1 ∧
 (x.2.2.1.getD
 g.2.2.1.toNat
 ((0 :
 Int),
 (0 :
 Int),
 (0 :
 Int))).2.2 =
 (x.2.2.1.getD
 g.2.2.1.toNat
 ((0 :
 Int),
 (0 :
 Int),
 (0 :
 Int))).2.2 ∧
 True) ∧
 True ∧
 True ∧
 True ∧
 True ∧
 True ∧
 True ∧
 True ∧
 True ∧
 True ∧
 True ∧
 True)) ∧
 (decide (g_1.2.1 < x.1) = false →
 (decide (g_1.1 < (0 : Int)) = true →
 (g.2.1.length +
 (((0 : Int) :: ([] : List Int)).set (0 : Nat)
 (4 : Int)).length ≤
 (9223372036854775807 : Nat) ∧
 (g.2.1.length +
 (((0 : Int) :: ([] : List Int)).set (0 : Nat)
 (4 : Int)).length +
 (g.2.1.length +
 (((0 : Int) :: ([] : List Int)).set (0 : Nat)
 (4 : Int)).length) /
 (4 : Nat) +
 (192 : Nat)) *
 (8 : Nat) ≤
 (281474976710656 : Nat)) ∧
 ((-9223372036854775808 : Int) ≤ g.2.2.1 + (1 : Int) ∧
 g.2.2.1 + (1 : Int) ≤
 (9223372036854775807 : Int)) ∧
 (((0 : Int) ≤ g.2.2.1 + (1 : Int) ∧
 g.2.2.1 + (1 : Int) ≤
 (↑x.2.2.1.length : Int) ∧
 plV x.1 x.2.1
 (List.take (g.2.2.1 + (1 : Int)).toNat
 x.2.2.1) =
 (g.1.2.1,
 g.2.1 ++
 ((0 : Int) :: ([] : List Int)).set
 (0 : Nat) (4 : Int)) ∧
 (↑(g.2.1 ++
 ((0 : Int) :: ([] : List Int)).set
 (0 : Nat) (4 : Int)).length :
 Int) =
 g.2.2.1 + (1 : Int) ∧
 RelV x.1 g.1.2.1 g.1.2.2) ∧
 ((↑x.2.2.1.length : Int) -
 (g.2.2.1 + (1 : Int))).toNat <
 ((↑x.2.2.1.length : Int) -
 g.2.2.1).toNat) ∧
 ((True ∧ True) ∧
 True ∧
 x.2.2.1 = x.2.2.1 ∧
 (↑x.2.2.1.length : Int) =
 (↑x.2.2.1.length : Int) ∧
 g.2.2.1 + (1 : Int) =
 g.2.2.1 + (1 : Int) ∧
 True) ∧
 ((x.1 = x.1 ∧ True ∧ True ∧ True) ∧
 g.1.2.1 = g.1.2.1 ∧
 g.1.2.2 = g.1.2.2 ∧
 g.2.1 ++
 ((0 : Int) :: ([] : List Int)).set
 (0 : Nat) (4 : Int) =
 g.2.1 ++
 ((0 : Int) :: ([] : List Int)).set
 (0 : Nat) (4 : Int) ∧
 True) ∧
 True) ∧
 (decide (g_1.1 < (0 : Int)) = false →
 ((0 : Int) ≤
 (x.2.2.1.getD g.2.2.1.toNat
 ((0 : Int), (0 : Int), (0 : Int))).2.1 ∧
 (x.2.2.1.getD g.2.2.1.toNat
 ((0 : Int), (0 : Int), (0 : Int))).2.1 <
 (↑g.1.2.1.length : Int)) ∧
 ((0 : Int) ≤
 (g.1.2.1.getD
 (x.2.2.1.getD g.2.2.1.toNat
 ((0 : Int), (0 : Int),
 (0 : Int))).2.1.toNat
 ((0 : Int), (0 : Int))).1 ∧
 (g.1.2.1.getD
 (x.2.2.1.getD g.2.2.1.toNat
 ((0 : Int), (0 : Int),
 (0 : Int))).2.1.toNat
 ((0 : Int), (0 : Int))).1 <
 (↑g.1.2.2.length : Int)) ∧
 Holds True ∧
 ((0 : Int) ≤
 (g.1.2.1.getD
 (x.2.2.1.getD g.2.2.1.toNat
 ((0 : Int), (0 : Int),
 (0 : Int))).2.1.toNat
 ((0 : Int), (0 : Int))).1 ∧
 (g.1.2.1.getD
 (x.2.2.1.getD g.2.2.1.toNat
 ((0 : Int), (0 : Int),
 (0 : Int))).2.1.toNat
 ((0 : Int), (0 : Int))).1 <
 (↑g.1.2.2.length : Int)) ∧
 ((0 : Int) ≤
 (x.2.2.1.getD g.2.2.1.toNat
 ((0 : Int), (0 : Int),
 (0 : Int))).2.1 ∧
 (x.2.2.1.getD g.2.2.1.toNat
 ((0 : Int), (0 : Int),
 (0 : Int))).2.1 <
 (↑g.1.2.1.length : Int)) ∧
 ((((32 : Int) ≤ (32 : Int) ∧
 (32 : Int) ≤ (256 : Int) ∧
 lstN
 (bitN
 ((g.1.2.2.set
 (g.1.2.1.getD
 (x.2.2.1.getD
 g.2.2.1.toNat
 ((0 : Int),
 (0 : Int),
 (0 :
 Int))).2.1.toNat
 ((0 : Int),
 (0 : Int))).1.toNat
 (putB
 (g.1.2.2.getD
 (g.1.2.1.getD
 (x.2.2.1.getD
 g.2.2.1.toNat
 ((0 : Int),
 (0 : Int),
 (0 :
 Int))).2.1.toNat
 ((0 : Int),
 (0 :
 Int))).1.toNat
 ((0 : Int) ::
 (0 : Int) ::
 (0 : Int) ::
 (0 : Int) ::
 ([] : List Int)))
 (g.1.2.1.getD
 (x.2.2.1.getD
 g.2.2.1.toNat
 ((0 : Int),
 (0 : Int),
 (0 :
 Int))).2.1.toNat
 ((0 : Int),
 (0 : Int))).2
 false)).getD
 g_1.1.toNat
 ((0 : Int) ::
 (0 : Int) ::
 (0 : Int) ::
 (0 : Int) ::
 ([] : List Int))))
 (Int.toNat (32 : Int))
 ((256 : Int) - (32 : Int)).toNat =
 lstN
 (bitN
 ((g.1.2.2.set
 (g.1.2.1.getD
 (x.2.2.1.getD
 g.2.2.1.toNat
 ((0 : Int),
 (0 : Int),
 (0 :
 Int))).2.1.toNat
 ((0 : Int),
 (0 : Int))).1.toNat
 (putB
 (g.1.2.2.getD
 (g.1.2.1.getD
 (x.2.2.1.getD
 g.2.2.1.toNat
 ((0 : Int),
 (0 : Int),
 (0 :
 Int))).2.1.toNat
 ((0 : Int),
 (0 :
 Int))).1.toNat
 ((0 : Int) ::
 (0 : Int) ::
 (0 : Int) ::
 (0 : Int) ::
 ([] : List Int)))
 (g.1.2.1.getD
 (x.2.2.1.getD
 g.2.2.1.toNat
 ((0 : Int),
 (0 : Int),
 (0 :
 Int))).2.1.toNat
 ((0 : Int),
 (0 : Int))).2
 false)).getD
 g_1.1.toNat
 ((0 : Int) ::
 (0 : Int) ::
 (0 : Int) ::
 (0 : Int) ::
 ([] : List Int))))
 (32 : Nat) (224 : Nat)) ∧
 True) ∧
 ((True ∧ True) ∧
 g_1.1 = g_1.1 ∧
 (32 : Int) = (32 : Int) ∧ True) ∧
 ((x.1 = x.1 ∧ True ∧ True ∧ True) ∧
 g.1.2.1.set
 (x.2.2.1.getD
 g.2.2.1.toNat
 ((0 : Int), (0 : Int),
 (0 : Int))).2.1.toNat
 ((0 : Int), (0 : Int)) =
 g.1.2.1.set
 (x.2.2.1.getD
 g.2.2.1.toNat
 ((0 : Int), (0 : Int),
 (0 : Int))).2.1.toNat
 ((0 : Int), (0 : Int)) ∧
 g.1.2.2.set
 (g.1.2.1.getD
 (x.2.2.1.getD
 g.2.2.1.toNat
 ((0 : Int),
 (0 : Int),
 (0 :
 Int))).2.1.toNat
 ((0 : Int),
 (0 : Int))).1.toNat
 (putB
 (g.1.2.2.getD
 (g.1.2.1.getD
 (x.2.2.1.getD
 g.2.2.1.toNat
 ((0 : Int),
 (0 : Int),
 (0 :
 Int))).2.1.toNat
 ((0 : Int),
 (0 : Int))).1.toNat
 ((0 : Int) ::
 (0 : Int) ::
 (0 : Int) ::
 (0 : Int) ::
 ([] : List Int)))
 (g.1.2.1.getD
 (x.2.2.1.getD
 g.2.2.1.toNat
 ((0 : Int),
 (0 : Int),
 (0 :
 Int))).2.1.toNat
 ((0 : Int), (0 : Int))).2
 false) =
 g.1.2.2.set
 (g.1.2.1.getD
 (x.2.2.1.getD
 g.2.2.1.toNat
 ((0 : Int),
 (0 : Int),
 (0 :
 Int))).2.1.toNat
 ((0 : Int),
 (0 : Int))).1.toNat
 (putB
 (g.1.2.2.getD
 (g.1.2.1.getD
 (x.2.2.1.getD
 g.2.2.1.toNat
 ((0 : Int),
 (0 : Int),
 (0 :
 Int))).2.1.toNat
 ((0 : Int),
 (0 : Int))).1.toNat
 ((0 : Int) ::
 (0 : Int) ::
 (0 : Int) ::
 (0 : Int) ::
 ([] : List Int)))
 (g.1.2.1.getD
 (x.2.2.1.getD
 g.2.2.1.toNat
 ((0 : Int),
 (0 : Int),
 (0 :
 Int))).2.1.toNat
 ((0 : Int), (0 : Int))).2
 false) ∧
 ((x.2.2.1.getD
 g.2.2.1.toNat
 ((0 : Int), (0 : Int),
 (0 : Int))).1 =
 (x.2.2.1.getD
 g.2.2.1.toNat
 ((0 : Int), (0 : Int),
 (0 : Int))).1 ∧
 (x.2.2.1.getD
 g.2.2.1.toNat
 ((0 : Int), (0 : Int),
 (0 : Int))).2.1 =
 (x.2.2.1.getD
 g.2.2.1.toNat
 ((0 : Int), (0 : Int),
 (0 : Int))).2.1 ∧
 (x.2.2.1.getD
 g.2.2.1.toNat
 ((0 : Int), (0 : Int),
 (0 :
 Int))).2.2 =
 (x.2.2.1.getD
 g.2.2.1.toNat
 ((0 : Int), (0 : Int),
 (0 :
 Int))).2.2 ∧
 True) ∧
 g.2.1 = g.2.1 ∧
 ((x.2.2.1.getD
 g.2.2.1.toNat
 ((0 : Int), (0 : Int),
 (0 : Int))).1 =
 (x.2.2.1.getD
 g.2.2.1.toNat
 ((0 : Int), (0 : Int),
 (0 : Int))).1 ∧
 (x.2.2.1.getD
 g.2.2.1.toNat
 ((0 : Int),
 (0 : Int),
 (0 :
 Int))).2.1 =
 (x.2.2.1.getD
 g.2.2.1.toNat
 ((0 : Int),
 (0 : Int),
 (0 :
 Int))).2.1 ∧
 (x.2.2.1.getD
 g.2.2.1.toNat
 ((0 : Int),
 (0 : Int),
 (0 :
 Int))).2.2 =
 (x.2.2.1.getD
 g.2.2.1.toNat
 ((0 : Int),
 (0 : Int),
 (0 :
 Int))).2.2 ∧
 True) ∧
 True) ∧
 (True ∧ True) ∧
 (x.2.2.1.getD g.2.2.1.toNat
 ((0 : Int), (0 : Int),
 (0 : Int))).2.1 =
 (x.2.2.1.getD
 g.2.2.1.toNat
 ((0 : Int), (0 : Int),
 (0 : Int))).2.1 ∧
 g_1.1 = g_1.1 ∧
 True ∧
 True ∧
 True ∧
 True ∧
 g_1.1 = g_1.1 ∧
 (True ∧ True) ∧
 g_1.1 = g_1.1 ∧
 True ∧
 True ∧
 True ∧
 True ∧
 True ∧
 True ∧
 True ∧
 True ∧
 True ∧
 True ∧
 True ∧
 True ∧
 True ∧
 True ∧
 True ∧
 True ∧
 True ∧
 True ∧
 True ∧
 True ∧
 True ∧
 True ∧
 True ∧
 True ∧
 True ∧
 (True ∧
 True) ∧
 ((x.2.2.1.getD
 g.2.2.1.toNat
 ((0 :
 Int),
 (0 :
 Int),
 (0 :
 Int))).1 =
 (x.2.2.1.getD
 g.2.2.1.toNat
 ((0 :
 Int),
 (0 :
 Int),
 (0 :
 Int))).1 ∧
 (x.2.2.1.getD
 g.2.2.1.toNat
 ((0 :
 Int),
 (0 :
 Int),
 (0 :
 Int))).2.1 =
 (x.2.2.1.getD
 g.2.2.1.toNat
 ((0 :
 Int),
 (0 :
 Int),
 (0 :
 Int))).2.1 ∧
 (x.2.2.1.getD
 g.2.2.1.toNat
 ((0 :
 Int),
 (0 :
 Int),
 (0 :
 Int))).2.2 =
 (x.2.2.1.getD
 g.2.2.1.toNat
 ((0 :
 Int),
 (0 :
 Int),
 (0 :
 Int))).2.2 ∧
 True) ∧
 True ∧
 (True ∧
 True) ∧
 (0 :
 Int) =
 (0 :
 Int) ∧
 True ∧
 g_1.1 =
 g_1.1 ∧
 false =
 false ∧
 (True ∧
 True) ∧
 (x.2.2.1.getD
 g.2.2.1.toNat
 ((0 :
 Int),
 (0 :
 Int),
 (0 :
 Int))).1 =
 (x.2.2.1.getD
 g.2.2.1.toNat
 ((0 :
 Int),
 (0 :
 Int),
 (0 :
 Int))).1 ∧
 decide
 ((x.2.2.1.getD
 g.2.2.1.toNat
 ((0 :
 Int),
 (0 :
 Int),
 (0 :
 Int))).1 <
 (1 :
 Int)) =
 decide
 ((x.2.2.1.getD
 g.2.2.1.toNat
 ((0 :
 Int),
 (0 :
 Int),
 (0 :
 Int))).1 <
 (1 :
 Int)) ∧
 decide
 ((x.2.2.1.getD
 g.2.2.1.toNat
 ((0 :
 Int),
 (0 :
 Int),
 (0 :
 Int))).1 <
 (1 :
 Int)) =
 decide
 ((x.2.2.1.getD
 g.2.2.1.toNat
 ((0 :
 Int),
 (0 :
 Int),
 (0 :
 Int))).1 <
 (1 :
 Int)) ∧
 True ∧
 True ∧
 True ∧
 (decide
 ((x.2.2.1.getD
 g.2.2.1.toNat
 ((0 :
 Int),
 (0 :
 Int),
 (0 :
 Int))).1 <
 (1 :
 Int)) ||
 decide
 ((3 :
 Int) <
 (x.2.2.1.getD
 g.2.2.1.toNat
 ((0 :
 Int),
 (0 :
 Int),
 (0 :
 Int))).1)) =
 (decide
 ((x.2.2.1.getD
 g.2.2.1.toNat
 ((0 :
 Int),
 (0 :
 Int),
 (0 :
 Int))).1 <
 (1 :
 Int)) ||
 decide
 ((3 :
 Int) <
 (x.2.2.1.getD
 g.2.2.1.toNat
 ((0 :
 Int),
 (0 :
 Int),
 (0 :
 Int))).1)) ∧
 false =
 false ∧
 (True ∧
 True) ∧
 (x.2.2.1.getD
 g.2.2.1.toNat
 ((0 :
 Int),
 (0 :
 Int),
 (0 :
 Int))).2.1 =
 (x.2.2.1.getD
 g.2.2.1.toNat
 ((0 :
 Int),
 (0 :
 Int),
 (0 :
 Int))).2.1 ∧
 decide
 ((x.2.2.1.getD
 g.2.2.1.toNat
 ((0 :
 Int),
 (0 :
 Int),
 (0 :
 Int))).2.1 <
 (0 :
 Int)) =
 decide
 ((x.2.2.1.getD
 g.2.2.1.toNat
 ((0 :
 Int),
 (0 :
 Int),
 (0 :
 Int))).2.1 <
 (0 :
 Int)) ∧
 false =
 false ∧
 (True ∧
 True) ∧
 (x.2.2.1.getD
 g.2.2.1.toNat
 ((0 :
 Int),
 (0 :
 Int),
 (0 :
 Int))).2.1 =
 (x.2.2.1.getD
 g.2.2.1.toNat
 ((0 :
 Int),
 (0 :
 Int),
 (0 :
 Int))).2.1 ∧
 (True ∧
 True) ∧
 (True ∧
 True) ∧
 (True ∧
 True) ∧
 True ∧
 (↑g.1.2.1.length :
 Int) =
 (↑g.1.2.1.length :
 Int) ∧
 decide
 ((↑g.1.2.1.length :
 Int) ≤
 (x.2.2.1.getD
 g.2.2.1.toNat
 ((0 :
 Int),
 (0 :
 Int),
 (0 :
 Int))).2.1) =
 decide
 ((↑g.1.2.1.length :
 Int) ≤
 (x.2.2.1.getD
 g.2.2.1.toNat
 ((0 :
 Int),
 (0 :
 Int),
 (0 :
 Int))).2.1) ∧
 decide
 ((↑g.1.2.1.length :
 Int) ≤
 (x.2.2.1.getD
 g.2.2.1.toNat
 ((0 :
 Int),
 (0 :
 Int),
 (0 :
 Int))).2.1) =
 decide
 ((↑g.1.2.1.length :
 Int) ≤
 (x.2.2.1.getD
 g.2.2.1.toNat
 ((0 :
 Int),
 (0 :
 Int),
 (0 :
 Int))).2.1) ∧
 false =
 false ∧
 (True ∧
 True) ∧
 (x.2.2.1.getD
 g.2.2.1.toNat
 ((0 :
 Int),
 (0 :
 Int),
 (0 :
 Int))).1 =
 (x.2.2.1.getD
 g.2.2.1.toNat
 ((0 :
 Int),
 (0 :
 Int),
 (0 :
 Int))).1 ∧
 ((x.2.2.1.getD
 g.2.2.1.toNat
 ((0 :
 Int),
 (0 :
 Int),
 (0 :
 Int))).1 ==
 (1 :
 Int)) =
 ((x.2.2.1.getD
 g.2.2.1.toNat
 ((0 :
 Int),
 (0 :
 Int),
 (0 :
 Int))).1 ==
 (1 :
 Int)) ∧
 (True ∧
 True) ∧
 (True ∧
 True) ∧
 (True ∧
 True) ∧
 True ∧
 (True ∧
 True) ∧
 (x.2.2.1.getD
 g.2.2.1.toNat
 ((0 :
 Int),
 (0 :
 Int),
 (0 :
 Int))).2.1 =
 (x.2.2.1.getD
 g.2.2.1.toNat
 ((0 :
 Int),
 (0 :
 Int),
 (0 :
 Int))).2.1 ∧
 ((True ∧
 True ∧
 True) ∧
 (x.2.2.1.getD
 g.2.2.1.toNat
 ((0 :
 Int),
 (0 :
 Int),
 (0 :
 Int))).2.1.toNat =
 (x.2.2.1.getD
 g.2.2.1.toNat
 ((0 :
 Int),
 (0 :
 Int),
 (0 :
 Int))).2.1.toNat) ∧
 ((True ∧
 True ∧
 True) ∧
 (x.2.2.1.getD
 g.2.2.1.toNat
 ((0 :
 Int),
 (0 :
 Int),
 (0 :
 Int))).2.1.toNat =
 (x.2.2.1.getD
 g.2.2.1.toNat
 ((0 :
 Int),
 (0 :
 Int),
 (0 :
 Int))).2.1.toNat) ∧
 (g.1.2.1.getD
 (x.2.2.1.getD
 g.2.2.1.toNat
 ((0 :
 Int),
 (0 :
 Int),
 (0 :
 Int))).2.1.toNat
 ((0 :
 Int),
 (0 :
 Int))).2 =
 (g.1.2.1.getD
 (x.2.2.1.getD
 g.2.2.1.toNat
 ((0 :
 Int),
 (0 :
 Int),
 (0 :
 Int))).2.1.toNat
 ((0 :
 Int),
 (0 :
 Int))).2 ∧
 decide
 ((0 :
 Int) <
 (g.1.2.1.getD
 (x.2.2.1.getD
 g.2.2.1.toNat
 ((0 :
 Int),
 (0 :
 Int),
 (0 :
 Int))).2.1.toNat
 ((0 :
 Int),
 (0 :
 Int))).2) =
 decide
 ((0 :
 Int) <
 (g.1.2.1.getD
 (x.2.2.1.getD
 g.2.2.1.toNat
 ((0 :
 Int),
 (0 :
 Int),
 (0 :
 Int))).2.1.toNat
 ((0 :
 Int),
 (0 :
 Int))).2) ∧
 (((x.2.2.1.getD
 g.2.2.1.toNat
 ((0 :
 Int),
 (0 :
 Int),
 (0 :
 Int))).1 ==
 (1 :
 Int)) ==
 decide
 ((0 :
 Int) <
 (g.1.2.1.getD
 (x.2.2.1.getD
 g.2.2.1.toNat
 ((0 :
 Int),
 (0 :
 Int),
 (0 :
 Int))).2.1.toNat
 ((0 :
 Int),
 (0 :
 Int))).2)) =
 (((x.2.2.1.getD
 g.2.2.1.toNat
 ((0 :
 Int),
 (0 :
 Int),
 (0 :
 Int))).1 ==
 (1 :
 Int)) ==
 decide
 ((0 :
 Int) <
 (g.1.2.1.getD
 (x.2.2.1.getD
 g.2.2.1.toNat
 ((0 :
 Int),
 (0 :
 Int),
 (0 :
 Int))).2.1.toNat
 ((0 :
 Int),
 (0 :
 Int))).2)) ∧
 True ∧
 True ∧
 True ∧
 (True ∧
 True) ∧
 (x.2.2.1.getD
 g.2.2.1.toNat
 ((0 :
 Int),
 (0 :
 Int),
 (0 :
 Int))).1 =
 (x.2.2.1.getD
 g.2.2.1.toNat
 ((0 :
 Int),
 (0 :
 Int),
 (0 :
 Int))).1 ∧
 false =
 false ∧
 ((x.2.2.1.getD
 g.2.2.1.toNat
 ((0 :
 Int),
 (0 :
 Int),
 (0 :
 Int))).1 ==
 (1 :
 Int)) =
 ((x.2.2.1.getD
 g.2.2.1.toNat
 ((0 :
 Int),
 (0 :
 Int),
 (0 :
 Int))).1 ==
 (1 :
 Int)) ∧
 True ∧
 True ∧
 True ∧
 True ∧
 True ∧
 True ∧
 True ∧
 True ∧
 True ∧
 True ∧
 True ∧
 false =
 false ∧
 ((x.2.2.1.getD
 g.2.2.1.toNat
 ((0 :
 Int),
 (0 :
 Int),
 (0 :
 Int))).1 ==
 (2 :
 Int)) =
 ((x.2.2.1.getD
 g.2.2.1.toNat
 ((0 :
 Int),
 (0 :
 Int),
 (0 :
 Int))).1 ==
 (2 :
 Int)) ∧
 True ∧
 True ∧
 True ∧
 True ∧
 true =
 true ∧
 ((x.2.2.1.getD
 g.2.2.1.toNat
 ((0 :
 Int),
 (0 :
 Int),
 (0 :
 Int))).1 ==
 (3 :
 Int)) =
 ((x.2.2.1.getD
 g.2.2.1.toNat
 ((0 :
 Int),
 (0 :
 Int),
 (0 :
 Int))).1 ==
 (3 :
 Int)) ∧
 (True ∧
 True) ∧
 (True ∧
 True) ∧
 (x.2.2.1.getD
 g.2.2.1.toNat
 ((0 :
 Int),
 (0 :
 Int),
 (0 :
 Int))).2.2 =
 (x.2.2.1.getD
 g.2.2.1.toNat
 ((0 :
 Int),
 (0 :
 Int),
 (0 :
 Int))).2.2 ∧
 (True ∧
 True) ∧
 (True ∧
 True) ∧
 (True ∧
 True) ∧
 True ∧
 (True ∧
 True) ∧
 (x.2.2.1.getD
 g.2.2.1.toNat
 ((0 :
 Int),
 (0 :
 Int),
 (0 :
 Int))).2.1 =
 (x.2.2.1.getD
 g.2.2.1.toNat
 ((0 :
 Int),
 (0 :
 Int),
 (0 :
 Int))).2.1 ∧
 ((True ∧
 True ∧
 True) ∧
 (x.2.2.1.getD
 g.2.2.1.toNat
 ((0 :
 Int),
 (0 :
 Int),
 (0 :
 Int))).2.1.toNat =
 (x.2.2.1.getD
 g.2.2.1.toNat
 ((0 :
 Int),
 (0 :
 Int),
 (0 :
 Int))).2.1.toNat) ∧
 ((True ∧
 True ∧
 True) ∧
 (x.2.2.1.getD
 g.2.2.1.toNat
 ((0 :
 Int),
 (0 :
 Int),
 (0 :
 Int))).2.1.toNat =
 (x.2.2.1.getD
 g.2.2.1.toNat
 ((0 :
 Int),
 (0 :
 Int),
 (0 :
 Int))).2.1.toNat) ∧
 (g.1.2.1.getD
 (x.2.2.1.getD
 g.2.2.1.toNat
 ((0 :
 Int),
 (0 :
 Int),
 (0 :
 Int))).2.1.toNat
 ((0 :
 Int),
 (0 :
 Int))).1 =
 (g.1.2.1.getD
 (x.2.2.1.getD
 g.2.2.1.toNat
 ((0 :
 Int),
 (0 :
 Int),
 (0 :
 Int))).2.1.toNat
 ((0 :
 Int),
 (0 :
 Int))).1 ∧
 g_1.1 =
 g_1.1 ∧
 g_1.1 =
 g_1.1 ∧
 false =
 false ∧
 (True ∧
 True) ∧
 (True ∧
 True) ∧
 (x.2.2.1.getD
 g.2.2.1.toNat
 ((0 :
 Int),
 (0 :
 Int),
 (0 :
 Int))).2.1 =
 (x.2.2.1.getD
 g.2.2.1.toNat
 ((0 :
 Int),
 (0 :
 Int),
 (0 :
 Int))).2.1 ∧
 True ∧
 (True ∧
 True) ∧
 (True ∧
 True) ∧
 (x.2.2.1.getD
 g.2.2.1.toNat
 ((0 :
 Int),
 (0 :
 Int),
 (0 :
 Int))).2.1 =
 (x.2.2.1.getD
 g.2.2.1.toNat
 ((0 :
 Int),
 (0 :
 Int),
 (0 :
 Int))).2.1 ∧
 g_1.1 =
 g_1.1 ∧
 True ∧
 True ∧
 True ∧
 True ∧
 True ∧
 True ∧
 True ∧
 True ∧
 True ∧
 True ∧
 (True ∧
 True) ∧
 True ∧
 True ∧
 (True ∧
 True) ∧
 True ∧
 True ∧
 True ∧
 True ∧
 True ∧
 True ∧
 True ∧
 True ∧
 True ∧
 True ∧
 True ∧
 True ∧
 True ∧
 True ∧
 True ∧
 True ∧
 True ∧
 True ∧
 True ∧
 True ∧
 True ∧
 x.2.2.1 =
 x.2.2.1 ∧
 (↑x.2.2.1.length :
 Int) =
 (↑x.2.2.1.length :
 Int) ∧
 g.2.2.1 =
 g.2.2.1 ∧
 true =
 true ∧
 True ∧
 ((x.2.2.1.getD
 g.2.2.1.toNat
 ((0 :
 Int),
 (0 :
 Int),
 (0 :
 Int))).1 =
 (x.2.2.1.getD
 g.2.2.1.toNat
 ((0 :
 Int),
 (0 :
 Int),
 (0 :
 Int))).1 ∧
 (x.2.2.1.getD
 g.2.2.1.toNat
 ((0 :
 Int),
 (0 :
 Int),
 (0 :
 Int))).2.1 =
 (x.2.2.1.getD
 g.2.2.1.toNat
 ((0 :
 Int),
 (0 :
 Int),
 (0 :
 Int))).2.1 ∧
 (x.2.2.1.getD
 g.2.2.1.toNat
 ((0 :
 Int),
 (0 :
 Int),
 (0 :
 Int))).2.2 =
 (x.2.2.1.getD
 g.2.2.1.toNat
 ((0 :
 Int),
 (0 :
 Int),
 (0 :
 Int))).2.2 ∧
 True) ∧
 True ∧
 (True ∧
 True) ∧
 ((x.2.2.1.getD
 g.2.2.1.toNat
 ((0 :
 Int),
 (0 :
 Int),
 (0 :
 Int))).1 =
 (x.2.2.1.getD
 g.2.2.1.toNat
 ((0 :
 Int),
 (0 :
 Int),
 (0 :
 Int))).1 ∧
 (x.2.2.1.getD
 g.2.2.1.toNat
 ((0 :
 Int),
 (0 :
 Int),
 (0 :
 Int))).2.1 =
 (x.2.2.1.getD
 g.2.2.1.toNat
 ((0 :
 Int),
 (0 :
 Int),
 (0 :
 Int))).2.1 ∧
 (x.2.2.1.getD
 g.2.2.1.toNat
 ((0 :
 Int),
 (0 :
 Int),
 (0 :
 Int))).2.2 =
 (x.2.2.1.getD
 g.2.2.1.toNat
 ((0 :
 Int),
 (0 :
 Int),
 (0 :
 Int))).2.2 ∧
 True) ∧
 True ∧
 True ∧
 True ∧
 True ∧
 True ∧
 True ∧
 True ∧
 True ∧
 True ∧
 True ∧
 True) ∧
 ∀ (g_2 : Int × Unit),
 (32 : Int) ≤ g_2.1 ∧
 g_2.1 ≤ (256 : Int) ∧
 lstN
 (bitN
 ((g.1.2.2.set
 (g.1.2.1.getD
 (x.2.2.1.getD
 g.2.2.1.toNat
 ((0 : Int),
 (0 : Int),
 (0 :
 Int))).2.1.toNat
 ((0 : Int),
 (0 : Int))).1.toNat
 (putB
 (g.1.2.2.getD
 (g.1.2.1.getD
 (x.2.2.1.getD
 g.2.2.1.toNat
 ((0 : Int),
 (0 : Int),
 (0 :
 Int))).2.1.toNat
 ((0 : Int),
 (0 :
 Int))).1.toNat
 ((0 : Int) ::
 (0 : Int) ::
 (0 : Int) ::
 (0 : Int) ::
 ([] : List Int)))
 (g.1.2.1.getD
 (x.2.2.1.getD
 g.2.2.1.toNat
 ((0 : Int),
 (0 : Int),
 (0 :
 Int))).2.1.toNat
 ((0 : Int),
 (0 : Int))).2
 false)).getD
 g_1.1.toNat
 ((0 : Int) ::
 (0 : Int) ::
 (0 : Int) ::
 (0 : Int) ::
 ([] : List Int))))
 g_2.1.toNat
 ((256 : Int) - g_2.1).toNat =
 lstN
 (bitN
 ((g.1.2.2.set
 (g.1.2.1.getD
 (x.2.2.1.getD
 g.2.2.1.toNat
 ((0 : Int),
 (0 : Int),
 (0 :
 Int))).2.1.toNat
 ((0 : Int),
 (0 : Int))).1.toNat
 (putB
 (g.1.2.2.getD
 (g.1.2.1.getD
 (x.2.2.1.getD
 g.2.2.1.toNat
 ((0 : Int),
 (0 : Int),
 (0 :
 Int))).2.1.toNat
 ((0 : Int),
 (0 :
 Int))).1.toNat
 ((0 : Int) ::
 (0 : Int) ::
 (0 : Int) ::
 (0 : Int) ::
 ([] : List Int)))
 (g.1.2.1.getD
 (x.2.2.1.getD
 g.2.2.1.toNat
 ((0 : Int),
 (0 : Int),
 (0 :
 Int))).2.1.toNat
 ((0 : Int),
 (0 : Int))).2
 false)).getD
 g_1.1.toNat
 ((0 : Int) ::
 (0 : Int) ::
 (0 : Int) ::
 (0 : Int) ::
 ([] : List Int))))
 (32 : Nat) (224 : Nat) →
 ((-9223372036854775808 : Int) ≤ g_2.1 ∧
 g_2.1 ≤ (9223372036854775807 : Int)) ∧
 True →
 ((0 : Int) ≤ g_1.1 ∧
 g_1.1 <
 (↑(g.1.2.2.set
 (g.1.2.1.getD
 (x.2.2.1.getD
 g.2.2.1.toNat
 ((0 : Int),
 (0 : Int),
 (0 :
 Int))).2.1.toNat
 ((0 : Int),
 (0 : Int))).1.toNat
 (putB
 (g.1.2.2.getD
 (g.1.2.1.getD
 (x.2.2.1.getD
 g.2.2.1.toNat
 ((0 : Int),
 (0 : Int),
 (0 :
 Int))).2.1.toNat
 ((0 : Int),
 (0 :
 Int))).1.toNat
 ((0 : Int) ::
 (0 : Int) ::
 (0 : Int) ::
 (0 : Int) ::
 ([] : List Int)))
 (g.1.2.1.getD
 (x.2.2.1.getD
 g.2.2.1.toNat
 ((0 : Int),
 (0 : Int),
 (0 :
 Int))).2.1.toNat
 ((0 : Int),
 (0 : Int))).2
 false)).length :
 Int)) ∧
 Holds True ∧
 (hasB
 ((g.1.2.2.set
 (g.1.2.1.getD
 (x.2.2.1.getD
 g.2.2.1.toNat
 ((0 : Int),
 (0 : Int),
 (0 :
 Int))).2.1.toNat
 ((0 : Int),
 (0 :
 Int))).1.toNat
 (putB
 (g.1.2.2.getD
 (g.1.2.1.getD
 (x.2.2.1.getD
 g.2.2.1.toNat
 ((0 :
 Int),
 (0 :
 Int),
 (0 :
 Int))).2.1.toNat
 ((0 : Int),
 (0 :
 Int))).1.toNat
 ((0 : Int) ::
 (0 : Int) ::
 (0 : Int) ::
 (0 : Int) ::
 ([] :
 List Int)))
 (g.1.2.1.getD
 (x.2.2.1.getD
 g.2.2.1.toNat
 ((0 : Int),
 (0 : Int),
 (0 :
 Int))).2.1.toNat
 ((0 : Int),
 (0 : Int))).2
 false)).getD
 g_1.1.toNat
 ((0 : Int) ::
 (0 : Int) ::
 (0 : Int) ::
 (0 : Int) ::
 ([] : List Int)))
 g_2.1 =
 true →
 ((-9223372036854775808 : Int) ≤
 g_2.1 + (1 : Int) ∧
 g_2.1 + (1 : Int) ≤
 (9223372036854775807 : Int)) ∧
 (((32 : Int) ≤
 g_2.1 + (1 : Int) ∧
 g_2.1 + (1 : Int) ≤
 (256 : Int) ∧
 lstN
 (bitN
 ((g.1.2.2.set
 (g.1.2.1.getD
 (x.2.2.1.getD
 g.2.2.1.toNat
 ((0 :
 Int),
 (0 :
 Int),
 (0 :
 Int))).2.1.toNat
 ((0 :
 Int),
 (0 :
 Int))).1.toNat
 (putB
 (g.1.2.2.getD
 (g.1.2.1.getD
 (x.2.2.1.getD
 g.2.2.1.toNat
 ((0 :
 Int),
 (0 :
 Int),
 (0 :
 Int))).2.1.toNat
 ((0 :
 Int),
 (0 :
 Int))).1.toNat
 ((0 :
 Int) ::
 (0 :
 Int) ::
 (0 :
 Int) ::
 (0 :
 Int) ::
 ([] :
 List
 Int)))
 (g.1.2.1.getD
 (x.2.2.1.getD
 g.2.2.1.toNat
 ((0 :
 Int),
 (0 :
 Int),
 (0 :
 Int))).2.1.toNat
 ((0 :
 Int),
 (0 :
 Int))).2
 false)).getD
 g_1.1.toNat
 ((0 : Int) ::
 (0 : Int) ::
 (0 : Int) ::
 (0 : Int) ::
 ([] :
 List
 Int))))
 (g_2.1 +
 (1 : Int)).toNat
 ((256 : Int) -
 (g_2.1 +
 (1 :
 Int))).toNat =
 lstN
 (bitN
 ((g.1.2.2.set
 (g.1.2.1.getD
 (x.2.2.1.getD
 g.2.2.1.toNat
 ((0 :
 Int),
 (0 :
 Int),
 (0 :
 Int))).2.1.toNat
 ((0 :
 Int),
 (0 :
 Int))).1.toNat
 (putB
 (g.1.2.2.getD
 (g.1.2.1.getD
 (x.2.2.1.getD
 g.2.2.1.toNat
 ((0 :
 Int),
 (0 :
 Int),
 (0 :
 Int))).2.1.toNat
 ((0 :
 Int),
 (0 :
 Int))).1.toNat
 ((0 :
 Int) ::
 (0 :
 Int) ::
 (0 :
 Int) ::
 (0 :
 Int) ::
 ([] :
 List
 Int)))
 (g.1.2.1.getD
 (x.2.2.1.getD
 g.2.2.1.toNat
 ((0 :
 Int),
 (0 :
 Int),
 (0 :
 Int))).2.1.toNat
 ((0 :
 Int),
 (0 :
 Int))).2
 false)).getD
 g_1.1.toNat
 ((0 : Int) ::
 (0 : Int) ::
 (0 : Int) ::
 (0 : Int) ::
 ([] :
 List
 Int))))
 (32 : Nat)
 (224 : Nat)) ∧
 ((256 : Int) -
 (g_2.1 +
 (1 : Int))).toNat <
 ((256 : Int) -
 g_2.1).toNat) ∧
 ((True ∧ True) ∧
 g_1.1 = g_1.1 ∧
 g_2.1 + (1 : Int) =
 g_2.1 + (1 : Int) ∧
 True) ∧
 ((x.1 = x.1 ∧
 True ∧ True ∧ True) ∧
 g.1.2.1.set
 (x.2.2.1.getD
 g.2.2.1.toNat
 ((0 : Int),
 (0 : Int),
 (0 :
 Int))).2.1.toNat
 ((0 : Int),
 (0 : Int)) =
 g.1.2.1.set
 (x.2.2.1.getD
 g.2.2.1.toNat
 ((0 : Int),
 (0 : Int),
 (0 :
 Int))).2.1.toNat
 ((0 : Int),
 (0 : Int)) ∧
 g.1.2.2.set
 (g.1.2.1.getD
 (x.2.2.1.getD
 g.2.2.1.toNat
 ((0 :
 Int),
 (0 :
 Int),
 (0 :
 Int))).2.1.toNat
 ((0 : Int),
 (0 :
 Int))).1.toNat
 (putB
 (g.1.2.2.getD
 (g.1.2.1.getD
 (x.2.2.1.getD
 g.2.2.1.toNat
 ((0 :
 Int),
 (0 :
 Int),
 (0 :
 Int))).2.1.toNat
 ((0 :
 Int),
 (0 :
 Int))).1.toNat
 ((0 : Int) ::
 (0 : Int) ::
 (0 :
 Int) ::
 (0 :
 Int) ::
 ([] :
 List
 Int)))
 (g.1.2.1.getD
 (x.2.2.1.getD
 g.2.2.1.toNat
 ((0 :
 Int),
 (0 :
 Int),
 (0 :
 Int))).2.1.toNat
 ((0 : Int),
 (0 :
 Int))).2
 false) =
 g.1.2.2.set
 (g.1.2.1.getD
 (x.2.2.1.getD
 g.2.2.1.toNat
 ((0 :
 Int),
 (0 :
 Int),
 (0 :
 Int))).2.1.toNat
 ((0 : Int),
 (0 :
 Int))).1.toNat
 (putB
 (g.1.2.2.getD
 (g.1.2.1.getD
 (x.2.2.1.getD
 g.2.2.1.toNat
 ((0 :
 Int),
 (0 :
 Int),
 (0 :
 Int))).2.1.toNat
 ((0 :
 Int),
 (0 :
 Int))).1.toNat
 ((0 : Int) ::
 (0 : Int) ::
 (0 :
 Int) ::
 (0 :
 Int) ::
 ([] :
 List
 Int)))
 (g.1.2.1.getD
 (x.2.2.1.getD
 g.2.2.1.toNat
 ((0 :
 Int),
 (0 :
 Int),
 (0 :
 Int))).2.1.toNat
 ((0 : Int),
 (0 :
 Int))).2
 false) ∧
 ((x.2.2.1.getD
 g.2.2.1.toNat
 ((0 : Int),
 (0 : Int),
 (0 :
 Int))).1 =
 (x.2.2.1.getD
 g.2.2.1.toNat
 ((0 : Int),
 (0 : Int),
 (0 :
 Int))).1 ∧
 (x.2.2.1.getD
 g.2.2.1.toNat
 ((0 :
 Int),
 (0 :
 Int),
 (0 :
 Int))).2.1 =
 (x.2.2.1.getD
 g.2.2.1.toNat
 ((0 :
 Int),
 (0 :
 Int),
 (0 :
 Int))).2.1 ∧
 (x.2.2.1.getD
 g.2.2.1.toNat
 ((0 :
 Int),
 (0 :
 Int),
 (0 :
 Int))).2.2 =
 (x.2.2.1.getD
 g.2.2.1.toNat
 ((0 :
 Int),
 (0 :
 Int),
 (0 :
 Int))).2.2 ∧
 True) ∧
 g.2.1 =
 g.2.1 ∧
 ((x.2.2.1.getD
 g.2.2.1.toNat
 ((0 :
 Int),
 (0 :
 Int),
 (0 :
 Int))).1 =
 (x.2.2.1.getD
 g.2.2.1.toNat
 ((0 :
 Int),
 (0 :
 Int),
 (0 :
 Int))).1 ∧
 (x.2.2.1.getD
 g.2.2.1.toNat
 ((0 :
 Int),
 (0 :
 Int),
 (0 :
 Int))).2.1 =
 (x.2.2.1.getD
 g.2.2.1.toNat
 ((0 :
 Int),
 (0 :
 Int),
 (0 :
 Int))).2.1 ∧
 (x.2.2.1.getD
 g.2.2.1.toNat
 ((0 :
 Int),
 (0 :
 Int),
 (0 :
 Int))).2.2 =
 (x.2.2.1.getD
 g.2.2.1.toNat
 ((0 :
 Int),
 (0 :
 Int),
 (0 :
 Int))).2.2 ∧
 True) ∧
 True) ∧
 (True ∧ True) ∧
 (x.2.2.1.getD
 g.2.2.1.toNat
 ((0 : Int),
 (0 : Int),
 (0 :
 Int))).2.1 =
 (x.2.2.1.getD
 g.2.2.1.toNat
 ((0 : Int),
 (0 : Int),
 (0 :
 Int))).2.1 ∧
 g_1.1 = g_1.1 ∧
 True ∧
 True ∧
 True ∧
 True ∧
 g_1.1 =
 g_1.1 ∧
 (True ∧
 True) ∧
 g_1.1 =
 g_1.1 ∧
 True ∧
 True ∧
 True ∧
 True ∧
 True ∧
 True ∧
 True ∧
 True ∧
 True ∧
 True ∧
 True ∧
 True ∧
 True ∧
 True ∧
 True ∧
 True ∧
 True ∧
 True ∧
 True ∧
 True ∧
 True ∧
 True ∧
 True ∧
 True ∧
 True ∧
 (True ∧
 True) ∧
 ((x.2.2.1.getD
 g.2.2.1.toNat
 ((0 :
 Int),
 (0 :
 Int),
 (0 :
 Int))).1 =
 (x.2.2.1.getD
 g.2.2.1.toNat
 ((0 :
 Int),
 (0 :
 Int),
 (0 :
 Int))).1 ∧
 (x.2.2.1.getD
 g.2.2.1.toNat
 ((0 :
 Int),
 (0 :
 Int),
 (0 :
 Int))).2.1 =
 (x.2.2.1.getD
 g.2.2.1.toNat
 ((0 :
 Int),
 (0 :
 Int),
 (0 :
 Int))).2.1 ∧
 (x.2.2.1.getD
 g.2.2.1.toNat
 ((0 :
 Int),
 (0 :
 Int),
 (0 :
 Int))).2.2 =
 (x.2.2.1.getD
 g.2.2.1.toNat
 ((0 :
 Int),
 (0 :
 Int),
 (0 :
 Int))).2.2 ∧
 True) ∧
 True ∧
 (True ∧
 True) ∧
 (0 :
 Int) =
 (0 :
 Int) ∧
 True ∧
 g_1.1 =
 g_1.1 ∧
 false =
 false ∧
 (True ∧
 True) ∧
 (x.2.2.1.getD
 g.2.2.1.toNat
 ((0 :
 Int),
 (0 :
 Int),
 (0 :
 Int))).1 =
 (x.2.2.1.getD
 g.2.2.1.toNat
 ((0 :
 Int),
 (0 :
 Int),
 (0 :
 Int))).1 ∧
 decide
 ((x.2.2.1.getD
 g.2.2.1.toNat
 ((0 :
 Int),
 (0 :
 Int),
 (0 :
 Int))).1 <
 (1 :
 Int)) =
 decide
 ((x.2.2.1.getD
 g.2.2.1.toNat
 ((0 :
 Int),
 (0 :
 Int),
 (0 :
 Int))).1 <
 (1 :
 Int)) ∧
 decide
 ((x.2.2.1.getD
 g.2.2.1.toNat
 ((0 :
 Int),
 (0 :
 Int),
 (0 :
 Int))).1 <
 (1 :
 Int)) =
 decide
 ((x.2.2.1.getD
 g.2.2.1.toNat
 ((0 :
 Int),
 (0 :
 Int),
 (0 :
 Int))).1 <
 (1 :
 Int)) ∧
 True ∧
 True ∧
 True ∧
 (decide
 ((x.2.2.1.getD
 g.2.2.1.toNat
 ((0 :
 Int),
 (0 :
 Int),
 (0 :
 Int))).1 <
 (1 :
 Int)) ||
 decide
 ((3 :
 Int) <
 (x.2.2.1.getD
 g.2.2.1.toNat
 ((0 :
 Int),
 (0 :
 Int),
 (0 :
 Int))).1)) =
 (decide
 ((x.2.2.1.getD
 g.2.2.1.toNat
 ((0 :
 Int),
 (0 :
 Int),
 (0 :
 Int))).1 <
 (1 :
 Int)) ||
 decide
 ((3 :
 Int) <
 (x.2.2.1.getD
 g.2.2.1.toNat
 ((0 :
 Int),
 (0 :
 Int),
 (0 :
 Int))).1)) ∧
 false =
 false ∧
 (True ∧
 True) ∧
 (x.2.2.1.getD
 g.2.2.1.toNat
 ((0 :
 Int),
 (0 :
 Int),
 (0 :
 Int))).2.1 =
 (x.2.2.1.getD
 g.2.2.1.toNat
 ((0 :
 Int),
 (0 :
 Int),
 (0 :
 Int))).2.1 ∧
 decide
 ((x.2.2.1.getD
 g.2.2.1.toNat
 ((0 :
 Int),
 (0 :
 Int),
 (0 :
 Int))).2.1 <
 (0 :
 Int)) =
 decide
 ((x.2.2.1.getD
 g.2.2.1.toNat
 ((0 :
 Int),
 (0 :
 Int),
 (0 :
 Int))).2.1 <
 (0 :
 Int)) ∧
 false =
 false ∧
 (True ∧
 True) ∧
 (x.2.2.1.getD
 g.2.2.1.toNat
 ((0 :
 Int),
 (0 :
 Int),
 (0 :
 Int))).2.1 =
 (x.2.2.1.getD
 g.2.2.1.toNat
 ((0 :
 Int),
 (0 :
 Int),
 (0 :
 Int))).2.1 ∧
 (True ∧
 True) ∧
 (True ∧
 True) ∧
 (True ∧
 True) ∧
 True ∧
 (↑g.1.2.1.length :
 Int) =
 (↑g.1.2.1.length :
 Int) ∧
 decide
 ((↑g.1.2.1.length :
 Int) ≤
 (x.2.2.1.getD
 g.2.2.1.toNat
 ((0 :
 Int),
 (0 :
 Int),
 (0 :
 Int))).2.1) =
 decide
 ((↑g.1.2.1.length :
 Int) ≤
 (x.2.2.1.getD
 g.2.2.1.toNat
 ((0 :
 Int),
 (0 :
 Int),
 (0 :
 Int))).2.1) ∧
 decide
 ((↑g.1.2.1.length :
 Int) ≤
 (x.2.2.1.getD
 g.2.2.1.toNat
 ((0 :
 Int),
 (0 :
 Int),
 (0 :
 Int))).2.1) =
 decide
 ((↑g.1.2.1.length :
 Int) ≤
 (x.2.2.1.getD
 g.2.2.1.toNat
 ((0 :
 Int),
 (0 :
 Int),
 (0 :
 Int))).2.1) ∧
 false =
 false ∧
 (True ∧
 True) ∧
 (x.2.2.1.getD
 g.2.2.1.toNat
 ((0 :
 Int),
 (0 :
 Int),
 (0 :
 Int))).1 =
 (x.2.2.1.getD
 g.2.2.1.toNat
 ((0 :
 Int),
 (0 :
 Int),
 (0 :
 Int))).1 ∧
 ((x.2.2.1.getD
 g.2.2.1.toNat
 ((0 :
 Int),
 (0 :
 Int),
 (0 :
 Int))).1 ==
 (1 :
 Int)) =
 ((x.2.2.1.getD
 g.2.2.1.toNat
 ((0 :
 Int),
 (0 :
 Int),
 (0 :
 Int))).1 ==
 (1 :
 Int)) ∧
 (True ∧
 True) ∧
 (True ∧
 True) ∧
 (True ∧
 True) ∧
 True ∧
 (True ∧
 True) ∧
 (x.2.2.1.getD
 g.2.2.1.toNat
 ((0 :
 Int),
 (0 :
 Int),
 (0 :
 Int))).2.1 =
 (x.2.2.1.getD
 g.2.2.1.toNat
 ((0 :
 Int),
 (0 :
 Int),
 (0 :
 Int))).2.1 ∧
 ((True ∧
 True ∧
 True) ∧
 (x.2.2.1.getD
 g.2.2.1.toNat
 ((0 :
 Int),
 (0 :
 Int),
 (0 :
 Int))).2.1.toNat =
 (x.2.2.1.getD
 g.2.2.1.toNat
 ((0 :
 Int),
 (0 :
 Int),
 (0 :
 Int))).2.1.toNat) ∧
 ((True ∧
 True ∧
 True) ∧
 (x.2.2.1.getD
 g.2.2.1.toNat
 ((0 :
 Int),
 (0 :
 Int),
 (0 :
 Int))).2.1.toNat =
 (x.2.2.1.getD
 g.2.2.1.toNat
 ((0 :
 Int),
 (0 :
 Int),
 (0 :
 Int))).2.1.toNat) ∧
 (g.1.2.1.getD
 (x.2.2.1.getD
 g.2.2.1.toNat
 ((0 :
 Int),
 (0 :
 Int),
 (0 :
 Int))).2.1.toNat
 ((0 :
 Int),
 (0 :
 Int))).2 =
 (g.1.2.1.getD
 (x.2.2.1.getD
 g.2.2.1.toNat
 ((0 :
 Int),
 (0 :
 Int),
 (0 :
 Int))).2.1.toNat
 ((0 :
 Int),
 (0 :
 Int))).2 ∧
 decide
 ((0 :
 Int) <
 (g.1.2.1.getD
 (x.2.2.1.getD
 g.2.2.1.toNat
 ((0 :
 Int),
 (0 :
 Int),
 (0 :
 Int))).2.1.toNat
 ((0 :
 Int),
 (0 :
 Int))).2) =
 decide
 ((0 :
 Int) <
 (g.1.2.1.getD
 (x.2.2.1.getD
 g.2.2.1.toNat
 ((0 :
 Int),
 (0 :
 Int),
 (0 :
 Int))).2.1.toNat
 ((0 :
 Int),
 (0 :
 Int))).2) ∧
 (((x.2.2.1.getD
 g.2.2.1.toNat
 ((0 :
 Int),
 (0 :
 Int),
 (0 :
 Int))).1 ==
 (1 :
 Int)) ==
 decide
 ((0 :
 Int) <
 (g.1.2.1.getD
 (x.2.2.1.getD
 g.2.2.1.toNat
 ((0 :
 Int),
 (0 :
 Int),
 (0 :
 Int))).2.1.toNat
 ((0 :
 Int),
 (0 :
 Int))).2)) =
 (((x.2.2.1.getD
 g.2.2.1.toNat
 ((0 :
 Int),
 (0 :
 Int),
 (0 :
 Int))).1 ==
 (1 :
 Int)) ==
 decide
 ((0 :
 Int) <
 (g.1.2.1.getD
 (x.2.2.1.getD
 g.2.2.1.toNat
 ((0 :
 Int),
 (0 :
 Int),
 (0 :
 Int))).2.1.toNat
 ((0 :
 Int),
 (0 :
 Int))).2)) ∧
 True ∧
 True ∧
 True ∧
 (True ∧
 True) ∧
 (x.2.2.1.getD
 g.2.2.1.toNat
 ((0 :
 Int),
 (0 :
 Int),
 (0 :
 Int))).1 =
 (x.2.2.1.getD
 g.2.2.1.toNat
 ((0 :
 Int),
 (0 :
 Int),
 (0 :
 Int))).1 ∧
 false =
 false ∧
 ((x.2.2.1.getD
 g.2.2.1.toNat
 ((0 :
 Int),
 (0 :
 Int),
 (0 :
 Int))).1 ==
 (1 :
 Int)) =
 ((x.2.2.1.getD
 g.2.2.1.toNat
 ((0 :
 Int),
 (0 :
 Int),
 (0 :
 Int))).1 ==
 (1 :
 Int)) ∧
 True ∧
 True ∧
 True ∧
 True ∧
 True ∧
 True ∧
 True ∧
 True ∧
 True ∧
 True ∧
 True ∧
 false =
 false ∧
 ((x.2.2.1.getD
 g.2.2.1.toNat
 ((0 :
 Int),
 (0 :
 Int),
 (0 :
 Int))).1 ==
 (2 :
 Int)) =
 ((x.2.2.1.getD
 g.2.2.1.toNat
 ((0 :
 Int),
 (0 :
 Int),
 (0 :
 Int))).1 ==
 (2 :
 Int)) ∧
 True ∧
 True ∧
 True ∧
 True ∧
 true =
 true ∧
 ((x.2.2.1.getD
 g.2.2.1.toNat
 ((0 :
 Int),
 (0 :
 Int),
 (0 :
 Int))).1 ==
 (3 :
 Int)) =
 ((x.2.2.1.getD
 g.2.2.1.toNat
 ((0 :
 Int),
 (0 :
 Int),
 (0 :
 Int))).1 ==
 (3 :
 Int)) ∧
 (True ∧
 True) ∧
 (True ∧
 True) ∧
 (x.2.2.1.getD
 g.2.2.1.toNat
 ((0 :
 Int),
 (0 :
 Int),
 (0 :
 Int))).2.2 =
 (x.2.2.1.getD
 g.2.2.1.toNat
 ((0 :
 Int),
 (0 :
 Int),
 (0 :
 Int))).2.2 ∧
 (True ∧
 True) ∧
 (True ∧
 True) ∧
 (True ∧
 True) ∧
 True ∧
 (True ∧
 True) ∧
 (x.2.2.1.getD
 g.2.2.1.toNat
 ((0 :
 Int),
 (0 :
 Int),
 (0 :
 Int))).2.1 =
 (x.2.2.1.getD
 g.2.2.1.toNat
 ((0 :
 Int),
 (0 :
 Int),
 (0 :
 Int))).2.1 ∧
 ((True ∧
 True ∧
 True) ∧
 (x.2.2.1.getD
 g.2.2.1.toNat
 ((0 :
 Int),
 (0 :
 Int),
 (0 :
 Int))).2.1.toNat =
 (x.2.2.1.getD
 g.2.2.1.toNat
 ((0 :
 Int),
 (0 :
 Int),
 (0 :
 Int))).2.1.toNat) ∧
 ((True ∧
 True ∧
 True) ∧
 (x.2.2.1.getD
 g.2.2.1.toNat
 ((0 :
 Int),
 (0 :
 Int),
 (0 :
 Int))).2.1.toNat =
 (x.2.2.1.getD
 g.2.2.1.toNat
 ((0 :
 Int),
 (0 :
 Int),
 (0 :
 Int))).2.1.toNat) ∧
 (g.1.2.1.getD
 (x.2.2.1.getD
 g.2.2.1.toNat
 ((0 :
 Int),
 (0 :
 Int),
 (0 :
 Int))).2.1.toNat
 ((0 :
 Int),
 (0 :
 Int))).1 =
 (g.1.2.1.getD
 (x.2.2.1.getD
 g.2.2.1.toNat
 ((0 :
 Int),
 (0 :
 Int),
 (0 :
 Int))).2.1.toNat
 ((0 :
 Int),
 (0 :
 Int))).1 ∧
 g_1.1 =
 g_1.1 ∧
 g_1.1 =
 g_1.1 ∧
 false =
 false ∧
 (True ∧
 True) ∧
 (True ∧
 True) ∧
 (x.2.2.1.getD
 g.2.2.1.toNat
 ((0 :
 Int),
 (0 :
 Int),
 (0 :
 Int))).2.1 =
 (x.2.2.1.getD
 g.2.2.1.toNat
 ((0 :
 Int),
 (0 :
 Int),
 (0 :
 Int))).2.1 ∧
 True ∧
 (True ∧
 True) ∧
 (True ∧
 True) ∧
 (x.2.2.1.getD
 g.2.2.1.toNat
 ((0 :
 Int),
 (0 :
 Int),
 (0 :
 Int))).2.1 =
 (x.2.2.1.getD
 g.2.2.1.toNat
 ((0 :
 Int),
 (0 :
 Int),
 (0 :
 Int))).2.1 ∧
 g_1.1 =
 g_1.1 ∧
 True ∧
 True ∧
 True ∧
 True ∧
 True ∧
 True ∧
 True ∧
 True ∧
 True ∧
 True ∧
 (True ∧
 True) ∧
 True ∧
 True ∧
 (True ∧
 True) ∧
 True ∧
 True ∧
 True ∧
 True ∧
 True ∧
 True ∧
 True ∧
 True ∧
 True ∧
 True ∧
 True ∧
 True ∧
 True ∧
 True ∧
 True ∧
 True ∧
 True ∧
 True ∧
 True ∧
 True ∧
 True ∧
 x.2.2.1 =
 x.2.2.1 ∧
 (↑x.2.2.1.length :
 Int) =
 (↑x.2.2.1.length :
 Int) ∧
 g.2.2.1 =
 g.2.2.1 ∧
 true =
 true ∧
 True ∧
 ((x.2.2.1.getD
 g.2.2.1.toNat
 ((0 :
 Int),
 (0 :
 Int),
 (0 :
 Int))).1 =
 (x.2.2.1.getD
 g.2.2.1.toNat
 ((0 :
 Int),
 (0 :
 Int),
 (0 :
 Int))).1 ∧
 (x.2.2.1.getD
 g.2.2.1.toNat
 ((0 :
 Int),
 (0 :
 Int),
 (0 :
 Int))).2.1 =
 (x.2.2.1.getD
 g.2.2.1.toNat
 ((0 :
 Int),
 (0 :
 Int),
 (0 :
 Int))).2.1 ∧
 (x.2.2.1.getD
 g.2.2.1.toNat
 ((0 :
 Int),
 (0 :
 Int),
 (0 :
 Int))).2.2 =
 (x.2.2.1.getD
 g.2.2.1.toNat
 ((0 :
 Int),
 (0 :
 Int),
 (0 :
 Int))).2.2 ∧
 True) ∧
 True ∧
 (True ∧
 True) ∧
 ((x.2.2.1.getD
 g.2.2.1.toNat
 ((0 :
 Int),
 (0 :
 Int),
 (0 :
 Int))).1 =
 (x.2.2.1.getD
 g.2.2.1.toNat
 ((0 :
 Int),
 (0 :
 Int),
 (0 :
 Int))).1 ∧
 (x.2.2.1.getD
 g.2.2.1.toNat
 ((0 :
 Int),
 (0 :
 Int),
 (0 :
 Int))).2.1 =
 (x.2.2.1.getD
 g.2.2.1.toNat
 ((0 :
 Int),
 (0 :
 Int),
 (0 :
 Int))).2.1 ∧
 (x.2.2.1.getD
 g.2.2.1.toNat
 ((0 :
 Int),
 (0 :
 Int),
 (0 :
 Int))).2.2 =
 (x.2.2.1.getD
 g.2.2.1.toNat
 ((0 :
 Int),
 (0 :
 Int),
 (0 :
 Int))).2.2 ∧
 True) ∧
 True ∧
 True ∧
 True ∧
 True ∧
 True ∧
 True ∧
 True ∧
 True ∧
 True ∧
 True ∧
 True) ∧
 (hasB
 ((g.1.2.2.set
 (g.1.2.1.getD
 (x.2.2.1.getD
 g.2.2.1.toNat
 ((0 : Int),
 (0 : Int),
 (0 :
 Int))).2.1.toNat
 ((0 : Int),
 (0 :
 Int))).1.toNat
 (putB
 (g.1.2.2.getD
 (g.1.2.1.getD
 (x.2.2.1.getD
 g.2.2.1.toNat
 ((0 :
 Int),
 (0 :
 Int),
 (0 :
 Int))).2.1.toNat
 ((0 : Int),
 (0 :
 Int))).1.toNat
 ((0 : Int) ::
 (0 : Int) ::
 (0 : Int) ::
 (0 : Int) ::
 ([] :
 List Int)))
 (g.1.2.1.getD
 (x.2.2.1.getD
 g.2.2.1.toNat
 ((0 : Int),
 (0 : Int),
 (0 :
 Int))).2.1.toNat
 ((0 : Int),
 (0 : Int))).2
 false)).getD
 g_1.1.toNat
 ((0 : Int) ::
 (0 : Int) ::
 (0 : Int) ::
 (0 : Int) ::
 ([] : List Int)))
 g_2.1 =
 false →
 ((0 : Int) ≤
 (x.2.2.1.getD
 g.2.2.1.toNat
 ((0 : Int), (0 : Int),
 (0 : Int))).2.1 ∧
 (x.2.2.1.getD
 g.2.2.1.toNat
 ((0 : Int), (0 : Int),
 (0 : Int))).2.1 <
 (↑(g.1.2.1.set
 (x.2.2.1.getD
 g.2.2.1.toNat
 ((0 : Int),
 (0 : Int),
 (0 :
 Int))).2.1.toNat
 ((0 : Int),
 (0 : Int))).length :
 Int)) ∧
 ((0 : Int) ≤ g_1.1 ∧
 g_1.1 <
 (↑(g.1.2.2.set
 (g.1.2.1.getD
 (x.2.2.1.getD
 g.2.2.1.toNat
 ((0 :
 Int),
 (0 :
 Int),
 (0 :
 Int))).2.1.toNat
 ((0 : Int),
 (0 :
 Int))).1.toNat
 (putB
 (g.1.2.2.getD
 (g.1.2.1.getD
 (x.2.2.1.getD
 g.2.2.1.toNat
 ((0 :
 Int),
 (0 :
 Int),
 (0 :
 Int))).2.1.toNat
 ((0 :
 Int),
 (0 :
 Int))).1.toNat
 ((0 : Int) ::
 (0 : Int) ::
 (0 : Int) ::
 (0 :
 Int) ::
 ([] :
 List
 Int)))
 (g.1.2.1.getD
 (x.2.2.1.getD
 g.2.2.1.toNat
 ((0 :
 Int),
 (0 :
 Int),
 (0 :
 Int))).2.1.toNat
 ((0 : Int),
 (0 :
 Int))).2
 false)).length :
 Int)) ∧
 Holds True ∧
 ((0 : Int) ≤ g_1.1 ∧
 g_1.1 <
 (↑(g.1.2.2.set
 (g.1.2.1.getD
 (x.2.2.1.getD
 g.2.2.1.toNat
 ((0 :
 Int),
 (0 :
 Int),
 (0 :
 Int))).2.1.toNat
 ((0 :
 Int),
 (0 :
 Int))).1.toNat
 (putB
 (g.1.2.2.getD
 (g.1.2.1.getD
 (x.2.2.1.getD
 g.2.2.1.toNat
 ((0 :
 Int),
 (0 :
 Int),
 (0 :
 Int))).2.1.toNat
 ((0 :
 Int),
 (0 :
 Int))).1.toNat
 ((0 :
 Int) ::
 (0 :
 Int) ::
 (0 :
 Int) ::
 (0 :
 Int) ::
 ([] :
 List
 Int)))
 (g.1.2.1.getD
 (x.2.2.1.getD
 g.2.2.1.toNat
 ((0 :
 Int),
 (0 :
 Int),
 (0 :
 Int))).2.1.toNat
 ((0 :
 Int),
 (0 :
 Int))).2
 false)).length :
 Int)) ∧
 (g.2.1.length +
 (((0 : Int) ::
 ([] :
 List
 Int)).set
 (0 : Nat)
 (0 :
 Int)).length ≤
 (9223372036854775807 :
 Nat) ∧
 (g.2.1.length +
 (((0 : Int) ::
 ([] :
 List
 Int)).set
 (0 : Nat)
 (0 :
 Int)).length +
 (g.2.1.length +
 (((0 :
 Int) ::
 ([] :
 List
 Int)).set
 (0 :
 Nat)
 (0 :
 Int)).length) /
 (4 : Nat) +
 (192 : Nat)) *
 (8 : Nat) ≤
 (281474976710656 :
 Nat)) ∧
 ((-9223372036854775808 :
 Int) ≤
 g.2.2.1 +
 (1 : Int) ∧
 g.2.2.1 +
 (1 : Int) ≤
 (9223372036854775807 :
 Int)) ∧
 (((0 : Int) ≤
 g.2.2.1 +
 (1 : Int) ∧
 g.2.2.1 +
 (1 : Int) ≤
 (↑x.2.2.1.length :
 Int) ∧
 plV x.1
 x.2.1
 (List.take
 (g.2.2.1 +
 (1 :
 Int)).toNat
 x.2.2.1) =
 ((g.1.2.1.set
 (x.2.2.1.getD
 g.2.2.1.toNat
 ((0 :
 Int),
 (0 :
 Int),
 (0 :
 Int))).2.1.toNat
 ((0 :
 Int),
 (0 :
 Int))).set
 (x.2.2.1.getD
 g.2.2.1.toNat
 ((0 :
 Int),
 (0 :
 Int),
 (0 :
 Int))).2.1.toNat
 (g_1.1,
 g_2.1),
 g.2.1 ++
 ((0 :
 Int) ::
 ([] :
 List
 Int)).set
 (0 :
 Nat)
 (0 :
 Int)) ∧
 (↑(g.2.1 ++
 ((0 :
 Int) ::
 ([] :
 List
 Int)).set
 (0 :
 Nat)
 (0 :
 Int)).length :
 Int) =
 g.2.2.1 +
 (1 :
 Int) ∧
 RelV x.1
 ((g.1.2.1.set
 (x.2.2.1.getD
 g.2.2.1.toNat
 ((0 :
 Int),
 (0 :
 Int),
 (0 :
 Int))).2.1.toNat
 ((0 :
 Int),
 (0 :
 Int))).set
 (x.2.2.1.getD
 g.2.2.1.toNat
 ((0 :
 Int),
 (0 :
 Int),
 (0 :
 Int))).2.1.toNat
 (g_1.1,
 g_2.1))
 ((g.1.2.2.set
 (g.1.2.1.getD
 (x.2.2.1.getD
 g.2.2.1.toNat
 ((0 :
 Int),
 (0 :
 Int),
 (0 :
 Int))).2.1.toNat
 ((0 :
 Int),
 (0 :
 Int))).1.toNat
 (putB
 (g.1.2.2.getD
 (g.1.2.1.getD
 (x.2.2.1.getD
 g.2.2.1.toNat
 ((0 :
 Int),
 (0 :
 Int),
 (0 :
 Int))).2.1.toNat
 ((0 :
 Int),
 (0 :
 Int))).1.toNat
 ((0 :
 Int) ::
 (0 :
 Int) ::
 (0 :
 Int) ::
 (0 :
 Int) ::
 ([] :
 List
 Int)))
 (g.1.2.1.getD
 (x.2.2.1.getD
 g.2.2.1.toNat
 ((0 :
 Int),
 (0 :
 Int),
 (0 :
 Int))).2.1.toNat
 ((0 :
 Int),
 (0 :
 Int))).2
 false)).set
 g_1.1.toNat
 (putB
 ((g.1.2.2.set
 (g.1.2.1.getD
 (x.2.2.1.getD
 g.2.2.1.toNat
 ((0 :
 Int),
 (0 :
 Int),
 (0 :
 Int))).2.1.toNat
 ((0 :
 Int),
 (0 :
 Int))).1.toNat
 (putB
 (g.1.2.2.getD
 (g.1.2.1.getD
 (x.2.2.1.getD
 g.2.2.1.toNat
 ((0 :
 Int),
 (0 :
 Int),
 (0 :
 Int))).2.1.toNat
 ((0 :
 Int),
 (0 :
 Int))).1.toNat
 ((0 :
 Int) ::
 (0 :
 Int) ::
 (0 :
 Int) ::
 (0 :
 Int) ::
 ([] :
 List
 Int)))
 (g.1.2.1.getD
 (x.2.2.1.getD
 g.2.2.1.toNat
 ((0 :
 Int),
 (0 :
 Int),
 (0 :
 Int))).2.1.toNat
 ((0 :
 Int),
 (0 :
 Int))).2
 false)).getD
 g_1.1.toNat
 ((0 :
 Int) ::
 (0 :
 Int) ::
 (0 :
 Int) ::
 (0 :
 Int) ::
 ([] :
 List
 Int)))
 g_2.1
 true))) ∧
 ((↑x.2.2.1.length :
 Int) -
 (g.2.2.1 +
 (1 :
 Int))).toNat <
 ((↑x.2.2.1.length :
 Int) -
 g.2.2.1).toNat) ∧
 ((True ∧ True) ∧
 True ∧
 x.2.2.1 =
 x.2.2.1 ∧
 (↑x.2.2.1.length :
 Int) =
 (↑x.2.2.1.length :
 Int) ∧
 g.2.2.1 +
 (1 :
 Int) =
 g.2.2.1 +
 (1 :
 Int) ∧
 True) ∧
 ((x.1 = x.1 ∧
 True ∧
 True ∧
 True) ∧
 (g.1.2.1.set
 (x.2.2.1.getD
 g.2.2.1.toNat
 ((0 :
 Int),
 (0 :
 Int),
 (0 :
 Int))).2.1.toNat
 ((0 :
 Int),
 (0 :
 Int))).set
 (x.2.2.1.getD
 g.2.2.1.toNat
 ((0 :
 Int),
 (0 :
 Int),
 (0 :
 Int))).2.1.toNat
 (g_1.1,
 g_2.1) =
 (g.1.2.1.set
 (x.2.2.1.getD
 g.2.2.1.toNat
 ((0 :
 Int),
 (0 :
 Int),
 (0 :
 Int))).2.1.toNat
 ((0 :
 Int),
 (0 :
 Int))).set
 (x.2.2.1.getD
 g.2.2.1.toNat
 ((0 :
 Int),
 (0 :
 Int),
 (0 :
 Int))).2.1.toNat
 (g_1.1,
 g_2.1) ∧
 (g.1.2.2.set
 (g.1.2.1.getD
 (x.2.2.1.getD
 g.2.2.1.toNat
 ((0 :
 Int),
 (0 :
 Int),
 (0 :
 Int))).2.1.toNat
 ((0 :
 Int),
 (0 :
 Int))).1.toNat
 (putB
 (g.1.2.2.getD
 (g.1.2.1.getD
 (x.2.2.1.getD
 g.2.2.1.toNat
 ((0 :
 Int),
 (0 :
 Int),
 (0 :
 Int))).2.1.toNat
 ((0 :
 Int),
 (0 :
 Int))).1.toNat
 ((0 :
 Int) ::
 (0 :
 Int) ::
 (0 :
 Int) ::
 (0 :
 Int) ::
 ([] :
 List
 Int)))
 (g.1.2.1.getD
 (x.2.2.1.getD
 g.2.2.1.toNat
 ((0 :
 Int),
 (0 :
 Int),
 (0 :
 Int))).2.1.toNat
 ((0 :
 Int),
 (0 :
 Int))).2
 false)).set
 g_1.1.toNat
 (putB
 ((g.1.2.2.set
 (g.1.2.1.getD
 (x.2.2.1.getD
 g.2.2.1.toNat
 ((0 :
 Int),
 (0 :
 Int),
 (0 :
 Int))).2.1.toNat
 ((0 :
 Int),
 (0 :
 Int))).1.toNat
 (putB
 (g.1.2.2.getD
 (g.1.2.1.getD
 (x.2.2.1.getD
 g.2.2.1.toNat
 ((0 :
 Int),
 (0 :
 Int),
 (0 :
 Int))).2.1.toNat
 ((0 :
 Int),
 (0 :
 Int))).1.toNat
 ((0 :
 Int) ::
 (0 :
 Int) ::
 (0 :
 Int) ::
 (0 :
 Int) ::
 ([] :
 List
 Int)))
 (g.1.2.1.getD
 (x.2.2.1.getD
 g.2.2.1.toNat
 ((0 :
 Int),
 (0 :
 Int),
 (0 :
 Int))).2.1.toNat
 ((0 :
 Int),
 (0 :
 Int))).2
 false)).getD
 g_1.1.toNat
 ((0 :
 Int) ::
 (0 :
 Int) ::
 (0 :
 Int) ::
 (0 :
 Int) ::
 ([] :
 List
 Int)))
 g_2.1
 true) =
 (g.1.2.2.set
 (g.1.2.1.getD
 (x.2.2.1.getD
 g.2.2.1.toNat
 ((0 :
 Int),
 (0 :
 Int),
 (0 :
 Int))).2.1.toNat
 ((0 :
 Int),
 (0 :
 Int))).1.toNat
 (putB
 (g.1.2.2.getD
 (g.1.2.1.getD
 (x.2.2.1.getD
 g.2.2.1.toNat
 ((0 :
 Int),
 (0 :
 Int),
 (0 :
 Int))).2.1.toNat
 ((0 :
 Int),
 (0 :
 Int))).1.toNat
 ((0 :
 Int) ::
 (0 :
 Int) ::
 (0 :
 Int) ::
 (0 :
 Int) ::
 ([] :
 List
 Int)))
 (g.1.2.1.getD
 (x.2.2.1.getD
 g.2.2.1.toNat
 ((0 :
 Int),
 (0 :
 Int),
 (0 :
 Int))).2.1.toNat
 ((0 :
 Int),
 (0 :
 Int))).2
 false)).set
 g_1.1.toNat
 (putB
 ((g.1.2.2.set
 (g.1.2.1.getD
 (x.2.2.1.getD
 g.2.2.1.toNat
 ((0 :
 Int),
 (0 :
 Int),
 (0 :
 Int))).2.1.toNat
 ((0 :
 Int),
 (0 :
 Int))).1.toNat
 (putB
 (g.1.2.2.getD
 (g.1.2.1.getD
 (x.2.2.1.getD
 g.2.2.1.toNat
 ((0 :
 Int),
 (0 :
 Int),
 (0 :
 Int))).2.1.toNat
 ((0 :
 Int),
 (0 :
 Int))).1.toNat
 ((0 :
 Int) ::
 (0 :
 Int) ::
 (0 :
 Int) ::
 (0 :
 Int) ::
 ([] :
 List
 Int)))
 (g.1.2.1.getD
 (x.2.2.1.getD
 g.2.2.1.toNat
 ((0 :
 Int),
 (0 :
 Int),
 (0 :
 Int))).2.1.toNat
 ((0 :
 Int),
 (0 :
 Int))).2
 false)).getD
 g_1.1.toNat
 ((0 :
 Int) ::
 (0 :
 Int) ::
 (0 :
 Int) ::
 (0 :
 Int) ::
 ([] :
 List
 Int)))
 g_2.1
 true) ∧
 g.2.1 ++
 ((0 :
 Int) ::
 ([] :
 List
 Int)).set
 (0 :
 Nat)
 (0 :
 Int) =
 g.2.1 ++
 ((0 :
 Int) ::
 ([] :
 List
 Int)).set
 (0 :
 Nat)
 (0 :
 Int) ∧
 True) ∧
 True)))) ∧
 (((x.2.2.1.getD g.2.2.1.toNat
 ((0 : Int), (0 : Int), (0 : Int))).1 ==
 (3 : Int)) =
 false →
 (g.2.1.length +
 (((0 : Int) :: ([] : List Int)).set (0 : Nat) (0 : Int)).length ≤
 (9223372036854775807 : Nat) ∧
 (g.2.1.length +
 (((0 : Int) :: ([] : List Int)).set (0 : Nat) (0 : Int)).length +
 (g.2.1.length +
 (((0 : Int) :: ([] : List Int)).set (0 : Nat)
 (0 : Int)).length) /
 (4 : Nat) +
 (192 : Nat)) *
 (8 : Nat) ≤
 (281474976710656 : Nat)) ∧
 ((-9223372036854775808 : Int) ≤ g.2.2.1 + (1 : Int) ∧
 g.2.2.1 + (1 : Int) ≤ (9223372036854775807 : Int)) ∧
 (((0 : Int) ≤ g.2.2.1 + (1 : Int) ∧
 g.2.2.1 + (1 : Int) ≤ (↑x.2.2.1.length : Int) ∧
 plV x.1 x.2.1
 (List.take (g.2.2.1 + (1 : Int)).toNat x.2.2.1) =
 (g.1.2.1,
 g.2.1 ++
 ((0 : Int) :: ([] : List Int)).set (0 : Nat) (0 : Int)) ∧
 (↑(g.2.1 ++
 ((0 : Int) :: ([] : List Int)).set (0 : Nat)
 (0 : Int)).length :
 Int) =
 g.2.2.1 + (1 : Int) ∧
 RelV x.1 g.1.2.1 g.1.2.2) ∧
 ((↑x.2.2.1.length : Int) - (g.2.2.1 + (1 : Int))).toNat <
 ((↑x.2.2.1.length : Int) - g.2.2.1).toNat) ∧
 ((True ∧ True) ∧
 True ∧
 x.2.2.1 = x.2.2.1 ∧
 (↑x.2.2.1.length : Int) = (↑x.2.2.1.length : Int) ∧
 g.2.2.1 + (1 : Int) = g.2.2.1 + (1 : Int) ∧ True) ∧
 ((x.1 = x.1 ∧ True ∧ True ∧ True) ∧
 g.1.2.1 = g.1.2.1 ∧
 g.1.2.2 = g.1.2.2 ∧
 g.2.1 ++
 ((0 : Int) :: ([] : List Int)).set (0 : Nat) (0 : Int) =
 g.2.1 ++
 ((0 : Int) :: ([] : List Int)).set (0 : Nat) (0 : Int) ∧
 True) ∧
 True)))))) ∧
 (decide
 ((x.2.2.1.getD g.2.2.1.toNat ((0 : Int), (0 : Int), (0 : Int))).2.1 < (0 : Int)) =
 !false →
 (g.2.1.length + (((0 : Int) :: ([] : List Int)).set (0 : Nat) (2 : Int)).length ≤
 (9223372036854775807 : Nat) ∧
 (g.2.1.length + (((0 : Int) :: ([] : List Int)).set (0 : Nat) (2 : Int)).length +
 (g.2.1.length + (((0 : Int) :: ([] : List Int)).set (0 : Nat) (2 : Int)).length) /
 (4 : Nat) +
 (192 : Nat)) *
 (8 : Nat) ≤
 (281474976710656 : Nat)) ∧
 ((-9223372036854775808 : Int) ≤ g.2.2.1 + (1 : Int) ∧
 g.2.2.1 + (1 : Int) ≤ (9223372036854775807 : Int)) ∧
 (((0 : Int) ≤ g.2.2.1 + (1 : Int) ∧
 g.2.2.1 + (1 : Int) ≤ (↑x.2.2.1.length : Int) ∧
 plV x.1 x.2.1 (List.take (g.2.2.1 + (1 : Int)).toNat x.2.2.1) =
 (g.1.2.1, g.2.1 ++ ((0 : Int) :: ([] : List Int)).set (0 : Nat) (2 : Int)) ∧
 (↑(g.2.1 ++ ((0 : Int) :: ([] : List Int)).set (0 : Nat) (2 : Int)).length : Int) =
 g.2.2.1 + (1 : Int) ∧
 RelV x.1 g.1.2.1 g.1.2.2) ∧
 ((↑x.2.2.1.length : Int) - (g.2.2.1 + (1 : Int))).toNat <
 ((↑x.2.2.1.length : Int) - g.2.2.1).toNat) ∧
 ((True ∧ True) ∧
 True ∧
 x.2.2.1 = x.2.2.1 ∧
 (↑x.2.2.1.length : Int) = (↑x.2.2.1.length : Int) ∧
 g.2.2.1 + (1 : Int) = g.2.2.1 + (1 : Int) ∧ True) ∧
 ((x.1 = x.1 ∧ True ∧ True ∧ True) ∧
 g.1.2.1 = g.1.2.1 ∧
 g.1.2.2 = g.1.2.2 ∧
 g.2.1 ++ ((0 : Int) :: ([] : List Int)).set (0 : Nat) (2 : Int) =
 g.2.1 ++ ((0 : Int) :: ([] : List Int)).set (0 : Nat) (2 : Int) ∧
 True) ∧
 True))) ∧
 (decide (g.2.2.1 < (↑x.2.2.1.length : Int)) = false →
 Holds (g.1.2.1.length * (16 : Nat) ≤ (140737488355328 : Nat)) ∧
 g.2.1 = (playV x).1 ∧ g.1.2.1 = (playV x).2.1 ∧ (0 : Int) = (playV x).2.2.1))

theorem E_vplay_eq (x : HL (cPlayV : Ctr).as) : vc (fx_vplay x) 5 11 Tryd.f11 (cPlayV) x = E_vplay x := by kernel_rfl

end Go.Proofs.YtlkhpbjjimjhbaaDoor.Vec
