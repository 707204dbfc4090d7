/-
  LiftMerges: what each function computes (its contract), and what its loops keep.
-/
import Derived.Test.YtpnmfoojmodnlaaEnv
import Derived.Test.YtpnmfoojmodnlaaSxZA
import Derived.Shelf.SlSortCmp.WholeK
namespace Go.Proofs.Ytpnmfoojmodnlaa.Liftm
open Go.Sx
set_option maxRecDepth 100000
set_option linter.unusedVariables false

abbrev Sp : Type := Int × Int
def okS (p : Sp) : Bool := decide (0 ≤ p.1) && decide (p.1 ≤ 1099511627776)
def okP (p : Sp) : Bool := decide (0 ≤ p.1) && (decide (p.1 < p.2) && decide (p.2 ≤ 1099511627776))
abbrev SpO : Type := { p : Sp // okS p = true }
instance : Inhabited SpO := ⟨⟨(0, 0), rfl⟩⟩
def cfS (x y : SpO) : Int := x.1.1 - y.1.1
/- What the library's sort makes of it. -/
noncomputable def sortS (l : List Sp) : List Sp :=
  if h : ∀ p ∈ l, okS p = true then (Go.Sort.pdq (Go.Proofs.ltOf cfS) (l.pmap Subtype.mk h).toArray 0 l.length (Go.Lib.bitLen l.length) true true).toList.map Subtype.val else l
open Go.Proofs Go.Sort in
theorem okS_iff {p : Sp} : okS p = true ↔ 0 ≤ p.1 ∧ p.1 ≤ 1099511627776 := by unfold okS; simp
open Go.Proofs Go.Sort in
theorem ltS (x y : SpO) : ltOf cfS x y = decide (x.1.1 < y.1.1) := by
  unfold ltOf cfS
  congr 1
  simp only [eq_iff_iff]
  omega
open Go.Proofs Go.Sort in
theorem swoS : SWO (ltOf cfS) where
  irrefl x := by rw [ltS]; simp
  trans x y z h1 h2 := by rw [ltS] at *; simp at *; omega
  ntrans x y z h1 h2 := by rw [ltS] at *; simp at *; omega
open Go.Proofs Go.Sort in
noncomputable def pdqS (d : Array SpO) : Array SpO := pdq (ltOf cfS) d 0 d.size (Go.Lib.bitLen d.size) true true
open Go.Proofs Go.Sort in
theorem pdqS_perm (d : Array SpO) : (pdqS d).size = d.size ∧ (pdqS d).toList.Perm d.toList := by
  have h := (pdq_sorts (ltOf cfS) swoS d 0 d.size (Go.Lib.bitLen d.size) true true (Nat.zero_le _) (Nat.le_refl _) (Or.inl rfl)).1
  obtain ⟨h1, _, h3⟩ := h
  refine ⟨h1, ?_⟩
  have e1 : (pdqS d).extract 0 d.size = pdqS d := by
    have h1 : (pdqS d).size = d.size := h1
    rw [← h1]; simp
  have e2 : d.extract 0 d.size = d := by simp
  have h3 : ((pdqS d).extract 0 d.size).toList.Perm (d.extract 0 d.size).toList := h3
  rwa [e1, e2] at h3
open Go.Proofs Go.Sort in
theorem sortS_eq {l : List Sp} (h : ∀ p ∈ l, okS p = true) : sortS l = (pdqS (l.pmap Subtype.mk h).toArray).toList.map Subtype.val := by
  unfold sortS pdqS
  rw [dif_pos h]
  simp
open Go.Proofs Go.Sort in
theorem sortS_pm (l : List Sp) : (sortS l).Perm l := by
  by_cases h : ∀ p ∈ l, okS p = true
  · rw [sortS_eq h]
    have := (pdqS_perm (l.pmap Subtype.mk h).toArray).2.map Subtype.val
    refine this.trans ?_
    simp [List.map_pmap]
  · unfold sortS
    rw [dif_neg h]
open Go.Proofs Go.Sort in
theorem sortS_pw {l : List Sp} (h : ∀ p ∈ l, okS p = true) : (sortS l).Pairwise (fun a b => a.1 ≤ b.1) := by
  rw [sortS_eq h, List.pairwise_map]
  generalize (l.pmap Subtype.mk h).toArray = d
  have hs := (pdq_sorts (ltOf cfS) swoS d 0 d.size (Go.Lib.bitLen d.size) true true (Nat.zero_le _) (Nat.le_refl _) (Or.inl rfl)).2
  rw [List.pairwise_iff_getElem]
  intro i j hi hj hij
  have hps := (pdqS_perm d).1
  have hj' : j < (pdqS d).size := by simpa using hj
  have hi' : i < (pdqS d).size := by omega
  have h1 : ltOf cfS (pdqS d)[j]! (pdqS d)[i]! = false := hs i j (Nat.zero_le _) hij (by omega)
  rw [ltS, getElem!_pos _ j hj', getElem!_pos _ i hi'] at h1
  simp only [decide_eq_false_iff_not] at h1
  simp only [Array.getElem_toList]
  omega
def bad (l : List Sp) : Prop := 400 < l.length ∨ l.all okP = false
instance (l : List Sp) : Decidable (bad l) := by unfold bad; infer_instance
def lastP (out : List Sp) : Sp := out.getD (out.length - 1) (0, 0)
def mStep (out : List Sp) (s : Sp) : List Sp := if 0 < out.length ∧ s.1 ≤ (lastP out).2 then out.set (out.length - 1) ((lastP out).1, max (lastP out).2 s.2) else out ++ [s]
noncomputable def mergeP (l : List Sp) : List Sp := (sortS l).foldl mStep []
def iStep (a : List Sp × Sp) (x : Sp) : List Sp × Sp := if x.2 < a.2.1 ∨ a.2.2 < x.1 then (a.1 ++ [x], a.2) else (a.1, (min a.2.1 x.1, max a.2.2 x.2))
def insP (out : List Sp) (s : Sp) : List Sp := (out.foldl iStep ([], s)).1 ++ [(out.foldl iStep ([], s)).2]
noncomputable def merge (l : List Sp) : List Sp × Int := if bad l then ([], 2) else (mergeP l, 0)
noncomputable def smerge (l : List Sp) : List Sp × Int := if bad l then ([], 2) else (sortS (l.foldl insP []), 0)
@[reducible] def cEqual : Ctr := ⟨[.sl tySpan, .sl tySpan], [.bool], fun _ => True, fun x => (decide (x.1 = x.2.1), ()), false⟩
@[reducible] noncomputable def cSorted : Ctr := ⟨[.sl tySpan], [.sl tySpan], fun x => x.1.length ≤ 400 ∧ x.1.all okS = true, fun x => (sortS x.1, ()), false⟩
@[reducible] noncomputable def cMerge : Ctr := ⟨[.sl tySpan], [.sl tySpan, I64], fun _ => True, fun x => ((merge x.1).1, (merge x.1).2, ()), false⟩
@[reducible] noncomputable def cSmerge : Ctr := ⟨[.sl tySpan], [.sl tySpan, I64], fun _ => True, fun x => ((smerge x.1).1, (smerge x.1).2, ()), false⟩
@[reducible] def cLaw : Ctr := ⟨[.sl tySpan], [.bool], fun _ => True, fun _ => (true, ()), false⟩
@[reducible] def own2 : St := canon [.one (.row 1), .one (.con (.func (.func 33) #[] #[]))] [(1, .row tySpan [])] 2
@[reducible] noncomputable def pSort : Prc := Prc.by 2 own2 [.own 0 tySpan, .keep 1] (fun g => g.1.length ≤ 400 ∧ g.1.all okS = true) [] (fun g => ((sortS g.1, g.2), ()))


noncomputable def ks0 : List (Nat × Ctr) := []
noncomputable def kf0 : List (Nat × Nat × Ctr) := []
noncomputable def ps0 : List (Nat × Prc) := []
noncomputable def knAll : List (Nat × Ctr) := []
noncomputable def kcAll : List (Nat × Nat × List Nat × Ctr) := [(29, 55, [31], cSorted)]
noncomputable def fx_sort (x : (pSort : Prc).G) : Fx := mkFxX Try.prog env ks0 kf0 (ps0) knAll kcAll ([]) ([]) []
noncomputable def ps1 : List (Nat × Prc) := (32, pSort) :: ps0
noncomputable def ks1 : List (Nat × Ctr) := ks0
noncomputable def kf1 : List (Nat × Nat × Ctr) := kf0
noncomputable def fx_equal (x : HL (cEqual : Ctr).as) : Fx := mkFxX Try.prog env ks1 kf1 (ps1) knAll kcAll ((fun (x : HL (cEqual : Ctr).as) => ([(9, 4, Ann.by [.keep 0, .keep 1, .keep 12, .one 13 (.d I64)] (fun s g => 0 ≤ g.1 ∧ g.1 ≤ x.1.length ∧ x.1.take g.1.toNat = x.2.1.take g.1.toNat) (fun s g => (x.1.length - g.1).toNat))])) x) ([]) []
noncomputable def ps2 : List (Nat × Prc) := ps1
noncomputable def ks2 : List (Nat × Ctr) := (9, cEqual) :: ks1
noncomputable def kf2 : List (Nat × Nat × Ctr) := kf1
noncomputable def fx_merge (x : HL (cMerge : Ctr).as) : Fx := mkFxX Try.prog env ks2 kf2 (ps2) knAll kcAll ((fun (x : HL (cMerge : Ctr).as) => ([(7, 4, Ann.by [.keep 0, .keep 14, .keep 15, .one 16 (.d I64)] (fun s g => 0 ≤ g.1 ∧ g.1 ≤ x.1.length ∧ (x.1.take g.1.toNat).all okP = true) (fun s g => (x.1.length - g.1).toNat)),
  (7, 12, Ann.by [.one 7 (.row tySpan), .keep 39, .keep 40, .one 41 (.d I64)] (fun s g => 0 ≤ g.2.1 ∧ g.2.1 ≤ x.1.length ∧ g.1 = ((sortS x.1).take g.2.1.toNat).foldl mStep []) (fun s g => (x.1.length - g.2.1).toNat))])) x) ([]) []
noncomputable def ps3 : List (Nat × Prc) := ps2
noncomputable def ks3 : List (Nat × Ctr) := (7, cMerge) :: ks2
noncomputable def kf3 : List (Nat × Nat × Ctr) := kf2
noncomputable def fx_smerge (x : HL (cSmerge : Ctr).as) : Fx := mkFxX Try.prog env ks3 kf3 (ps3) knAll kcAll ((fun (x : HL (cSmerge : Ctr).as) => ([(8, 5, Ann.by [.one 4 (.row tySpan), .keep 13, .keep 14, .one 15 (.d I64)] (fun s g => 0 ≤ g.2.1 ∧ g.2.1 ≤ x.1.length ∧ (x.1.take g.2.1.toNat).all okP = true ∧ g.1 = (x.1.take g.2.1.toNat).foldl insP []) (fun s g => (x.1.length - g.2.1).toNat)),
  (8, 11, Ann.by [.box 6 [.d I64, .d I64], .one 7 (.row tySpan), .keep 13, .keep 14, .keep 15, .keep 34, .keep 35, .one 36 (.d I64)] (fun s g => 0 ≤ g.2.2.1 ∧ g.2.2.1 ≤ (s.dat (.sl tySpan) 34).length ∧ ((s.dat (.sl tySpan) 34).take g.2.2.1.toNat).foldl iStep ([], s.bxd tySpan 6 0) = (g.2.1, g.1)) (fun s g => ((s.dat (.sl tySpan) 34).length - g.2.2.1).toNat))])) x) ([]) []
noncomputable def ps4 : List (Nat × Prc) := ps3
noncomputable def ks4 : List (Nat × Ctr) := (8, cSmerge) :: ks3
noncomputable def kf4 : List (Nat × Nat × Ctr) := kf3
noncomputable def fx_law (x : HL (cLaw : Ctr).as) : Fx := mkFxX Try.prog env ks4 kf4 (ps4) knAll kcAll ([]) ([]) []
noncomputable def ps5 : List (Nat × Prc) := ps4
noncomputable def ks5 : List (Nat × Ctr) := (3, cLaw) :: ks4
noncomputable def kf5 : List (Nat × Nat × Ctr) := kf4
noncomputable def ksAll : List (Nat × Ctr) := ks5
end Go.Proofs.Ytpnmfoojmodnlaa.Liftm
