/-
  RankCircle: what each function computes (its contract), and what its loops keep.
-/
import Derived.Test.YtollphjlheabdaaEnv
import Derived.Test.YtollphjlheabdaaSxZA
namespace Go.Proofs.Ytollphjlheabdaa.Rank
open Go.Sx
set_option maxRecDepth 100000
set_option linter.unusedVariables false

def at_ (l : List Int) (i : Int) : Int := l.getD i.toNat 0
def nx (h w : List Int) (t : Int) : Int :=
  if (0 ≤ t ∧ t < w.length) ∧ 0 ≤ at_ w t ∧ at_ w t < h.length ∧ 0 ≤ at_ h (at_ w t) ∧ at_ h (at_ w t) < w.length then at_ h (at_ w t) else -1
def go (h w : List Int) (f : Int) : Nat → Int → List Int → Option (List Int)
  | 0, _, _ => none
  | m + 1, t, p => if t < 0 then none else if t = f then some p else go h w f m (nx h w t) (p ++ [t])
def G (h w : List Int) (f : Int) : Option (List Int) := go h w f w.length (nx h w f) [f]
def G2 (h w : List Int) (f : Int) : Option (List Int) := go h w f (w.length + 1) (nx h w f) [f]
def oc (h w : List Int) : Nat → Int → List Int
  | 0, _ => []
  | m + 1, k => match G h w k with
    | some p => p
    | none => oc h w m (k + 1)
def circ (h w : List Int) : List Int := oc h w w.length 0
@[reducible] def cCirc : Ctr := ⟨[.sl I64, .sl I64], [.sl I64], fun x => x.2.1.length * 8 ≤ 140737488355328, fun x => (circ x.1 x.2.1, ()), false⟩
@[reducible] def cEqual : Ctr := ⟨[.sl I64, .sl I64], [.bool], fun _ => True, fun x => (decide (x.1 = x.2.1), ()), false⟩
@[reducible] def cLaw : Ctr := ⟨[.sl I64, .sl I64], [.bool], fun x => x.2.1.length * 8 ≤ 140737488355328, fun _ => (true, ()), false⟩


noncomputable def ks0 : List (Nat × Ctr) := []
noncomputable def fx_equal (x : HL (cEqual : Ctr).as) : Fx := mkFx Try.prog env ks0 ((fun (x : HL (cEqual : Ctr).as) => ([(20, 4, Ann.by [.keep 0, .keep 1, .keep 12, .one 13 (.d I64)] (fun s g => 0 ≤ g.1 ∧ g.1 ≤ x.1.length ∧ x.1.take g.1.toNat = x.2.1.take g.1.toNat) (fun s g => (x.1.length - g.1).toNat))])) x) ([]) []
noncomputable def ks1 : List (Nat × Ctr) := (20, cEqual) :: ks0
noncomputable def fx_circ (x : HL (cCirc : Ctr).as) : Fx := mkFx Try.prog env ks1 ((fun (x : HL (cCirc : Ctr).as) => ([(21, 3, Ann.by [.keep 2, .keep 3, .keep 5, .keep 11, .one 12 (.d I64)] (fun s g => 0 ≤ g.1 ∧ g.1 ≤ x.2.1.length ∧ circ x.1 x.2.1 = oc x.1 x.2.1 (x.2.1.length - g.1).toNat g.1) (fun s g => (x.2.1.length - g.1).toNat)),
  (21, 7, Ann.by [.keep 2, .keep 3, .keep 5, .keep 6, .one 7 (.row I64), .one 8 (.d I64), .keep 11, .keep 12] (fun s g => 1 ≤ (g.1.length : Int) ∧ (g.1.length : Int) ≤ x.2.1.length + 1 ∧ -1 ≤ g.2.1 ∧ g.2.1 < x.2.1.length ∧ G x.1 x.2.1 (s.dat I64 6) = go x.1 x.2.1 (s.dat I64 6) (x.2.1.length + 1 - g.1.length : Int).toNat g.2.1 g.1) (fun s g => (x.2.1.length + 1 - g.1.length : Int).toNat))])) x) ((fun (x : HL (cCirc : Ctr).as) => ([(21, 7, Ann.by [.keep 2, .keep 3, .keep 5, .keep 6, .keep 7, .one 8 (.d I64), .keep 11, .keep 12] (fun s g => g.1 = nx x.1 x.2.1 (s.dat I64 6)) (fun s g => 0))])) x) []
noncomputable def ks2 : List (Nat × Ctr) := (21, cCirc) :: ks1
noncomputable def fx_hcirc (x : HL (cCirc : Ctr).as) : Fx := mkFx Try.prog env ks2 ((fun (x : HL (cCirc : Ctr).as) => ([(22, 2, Ann.by [.keep 0, .keep 1, .keep 10, .one 11 (.d I64)] (fun s g => 0 ≤ g.1 ∧ g.1 ≤ x.2.1.length ∧ circ x.1 x.2.1 = oc x.1 x.2.1 (x.2.1.length - g.1).toNat g.1) (fun s g => (x.2.1.length - g.1).toNat)),
  (22, 7, Ann.by [.keep 0, .keep 1, .keep 5, .one 6 (.row I64), .one 7 (.d I64), .keep 10, .keep 11, .keep 17, .one 18 (.d I64)] (fun s g => 0 ≤ g.2.2.1 ∧ g.2.2.1 ≤ x.2.1.length + 1 ∧ (g.1.length : Int) = g.2.2.1 ∧ 0 ≤ g.2.1 ∧ g.2.1 < x.2.1.length ∧ G2 x.1 x.2.1 (s.dat I64 5) = go x.1 x.2.1 (s.dat I64 5) (x.2.1.length + 1 - g.2.2.1).toNat (nx x.1 x.2.1 g.2.1) (g.1 ++ [g.2.1])) (fun s g => (x.2.1.length + 1 - g.2.2.1).toNat))])) x) ([]) []
noncomputable def ks3 : List (Nat × Ctr) := (22, cCirc) :: ks2
noncomputable def fx_law (x : HL (cLaw : Ctr).as) : Fx := mkFx Try.prog env ks3 ([]) ([]) []
noncomputable def ks4 : List (Nat × Ctr) := (4, cLaw) :: ks3
noncomputable def ksAll : List (Nat × Ctr) := ks4
end Go.Proofs.Ytollphjlheabdaa.Rank
