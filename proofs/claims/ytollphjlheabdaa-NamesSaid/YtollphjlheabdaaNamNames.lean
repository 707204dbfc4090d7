/-
  corebelllaw.Names: called with whatever arguments, the function returns true, and each argument reads afterwards as it read before. No condition.
-/
import Derived.Test.YtollphjlheabdaaNamL
import Derived.Test.YtollphjlheabdaaSxX
namespace Go.Proofs.Ytollphjlheabdaa.Nam.Names
open Go Go.Sx Go.ChangeShapes Go.WideShapes Go.ChangeAt Go.RowKit
set_option maxRecDepth 100000
theorem own : ownKnob Try.prog.godebug = none := by kernel_rfl
theorem laidOut : laidOutB Try.prog = true := by kernel_rfl
theorem f_lifted (os : Os) (started : os.Started) (H : Type) (enc : TypeId × Value → H) :
    ReturnsInHanded {} Try.checked os 14 .any (Rows.namesSpec.pre6 enc Try.prog Try.f14 Rows.namesRow.domain false) (Rows.namesSpec.post enc Try.prog Try.f14 false true false false) :=
  law_lifted (C := Try.checked) (us := (cLaw : Ctr).as) own started (by kernel_rfl) Try.func14 laidOut (by kernel_rfl) trivial rfl (fun ds h => by
    match ds, h with
    | [], _ => rfl) rfl Try.underlying4 c_names (fun x hg hf => pre_names x hg hf)
    (ChangeSpec.witness6 (enc := enc) (C := Try.checked) false ⟨#[], #[], []⟩ 12 (by kernel_rfl) (by kernel_rfl) (by kernel_rfl) (by kernel_rfl))
theorem holds : Rows.NamesSaid :=
  OpenClaim.holds_of_wide 14 Try.f14 rfl rfl rfl rfl rfl rfl rfl ⟨rfl, rfl, rfl, rfl, rfl⟩ rfl rfl rfl rfl rfl (by kernel_rfl) Try.func14 (by kernel_rfl)
    (of_decide_eq_true (by kernel_rfl)) (by unfold Func.isWrapper; first | (rw [if_pos (by decide +kernel)]; kernel_rfl) | (rw [if_neg (by decide +kernel)]; exact ⟨rfl, rfl⟩))
    (fun os started H enc _ => f_lifted os started H enc)
end Go.Proofs.Ytollphjlheabdaa.Nam.Names
