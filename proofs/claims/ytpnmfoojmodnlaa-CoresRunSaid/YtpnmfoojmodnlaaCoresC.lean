/-
  CoresRun: what each function computes (its contract), and what its loops keep.
-/
import Derived.Test.YtpnmfoojmodnlaaEnv
import Derived.Test.YtpnmfoojmodnlaaSxZA
namespace Go.Proofs.Ytpnmfoojmodnlaa.Cores
open Go.Sx
set_option maxRecDepth 100000
set_option linter.unusedVariables false

abbrev Th := Int × Int × Int
abbrev TP := (Int × Int × Int) × Int × Int × Int
/- The line, what each has left, how often each ran. -/
abbrev NS := List Int × List Int × List Int
def okT (t : Th) : Bool := decide (0 ≤ t.1) && (decide (t.1 ≤ 10000) && (decide (0 ≤ t.2.1) && (decide (t.2.1 < 32) && (decide (0 ≤ t.2.2) && decide (t.2.2 ≤ 10000)))))
def okA (n sl : Int) (l : List Th) : Prop := 1 ≤ n ∧ n ≤ 8 ∧ 1 ≤ sl ∧ sl ≤ 100 ∧ l.length ≤ 64
instance (n sl : Int) (l : List Th) : Decidable (okA n sl l) := by unfold okA; infer_instance
def wr (n sl : Int) (l : List Th) : Int := if okA n sl l ∧ l.all okT = true then 0 else 2
def th (l : List Th) (k : Int) : Th := l.getD k.toNat (0, 0, 0)
def comes (l : List Th) (now : Int) : Nat → List Int × List Int → List Int × List Int
  | 0, s => s
  | k + 1, s => if (th l k).1 = now then ((comes l now k s).1 ++ [(k : Int)], (comes l now k s).2.set k (th l k).2.2) else comes l now k s
def selL (l : List Th) (left line : List Int) (lev : Int) : List Int := line.filter fun k => decide ((th l k).2.1 = lev) && decide (0 < left.getD k.toNat 0)
/- Those that may run, by the first levels. -/
def pk (l : List Th) (left line : List Int) : Nat → List Int
  | 0 => []
  | j + 1 => pk l left line j ++ selL l left line (31 - j)
def stA (sl : Int) (s : NS) (k : Int) : NS := (if (s.2.2.getD k.toNat 0 + 1) % sl = 0 then s.1.filter (fun y => !decide (y = k)) ++ [k] else s.1, s.2.1.set k.toNat (s.2.1.getD k.toNat 0 - 1), s.2.2.set k.toNat (s.2.2.getD k.toNat 0 + 1))
def sortI (l : List Int) : List Int := l.mergeSort fun x y => decide (x ≤ y)
def cm (l : List Th) (now : Int) (q : NS) : List Int × List Int := comes l now l.length (q.1, q.2.1)
def runs (n : Int) (l : List Th) (now : Int) (q : NS) : List Int := (pk l (cm l now q).2 (cm l now q).1 32).take n.toNat
def mid (l : List Th) (now : Int) (q : NS) : NS := ((cm l now q).1, (cm l now q).2, q.2.2)
def nst (n sl : Int) (l : List Th) : Nat → NS × List (List Int)
  | 0 => (([], List.replicate l.length 0, List.replicate l.length 0), [])
  | t + 1 => ((runs n l t (nst n sl l t).1).foldl (stA sl) (mid l t (nst n sl l t).1), (nst n sl l t).2 ++ [sortI (runs n l t (nst n sl l t).1)])
def nrun (n sl : Int) (l : List Th) (ticks : Int) : List (List Int) := (nst n sl l ticks.toNat).2
def crun (n sl : Int) (l : List Th) (ticks : Int) : List (List Int) × Int := if wr n sl l ≠ 0 ∨ ticks < 0 ∨ 2000 < ticks then ([], 2) else (nrun n sl l ticks, 0)
/- The threads' records in memory. -/
abbrev PM := List (Int × TP)
def thOf (m : PM) (a : Int) : TP := mval tythread m a
def levO (m : PM) (a : Int) : Int := (thOf m a).1.2.1
def trnO (m : PM) (a : Int) : Int := (thOf m a).2.2.1
def keyLt (m : PM) (x y : Int) : Bool := decide (levO m y < levO m x) || (decide (levO m x = levO m y) && decide (trnO m x < trnO m y))
def sortT (m : PM) (l : List Int) : List Int := l.mergeSort fun x y => !(keyLt m y x)
def keys (m : PM) : List Int := m.map Prod.fst
def rec (m : PM) (i : Int) : TP := (m.getD i.toNat (0, (0, 0, 0), 0, 0, 0)).2
/- The records say what the reference's state says. -/
def RT (l : List Th) (sl turn : Int) (al : List Int) (m : PM) (q : NS) : Prop :=
  (keys m = al ∧ al.length = l.length ∧ q.2.1.length = l.length ∧ q.2.2.length = l.length) ∧ (∀ k ∈ q.1, 0 ≤ k ∧ k < l.length) ∧ q.1.Nodup ∧
  (∀ i : Nat, i < l.length → ((rec m i).1.1 = (th l i).1 ∧ (rec m i).1.2.1 = (th l i).2.1 ∧ (rec m i).2.1 = i) ∧
    ((i : Int) ∈ q.1 → (rec m i).1.2.2 = q.2.1.getD i 0 ∧ (rec m i).2.2.2 = q.2.2.getD i 0 % sl ∧ (rec m i).2.2.1 ≤ turn) ∧
    ((i : Int) ∉ q.1 → (rec m i).1.2.2 = (th l i).2.2 ∧ (rec m i).2.2.2 = 0 ∧ q.2.2.getD i 0 = 0)) ∧
  q.1.Pairwise fun a b => (rec m a).2.2.1 < (rec m b).2.2.1
/- Who has come ahead of a time (and, of those that come just then, ahead of a number). -/
def IN (l : List Th) (now : Int) (k : Nat) (line : List Int) : Prop := ∀ i : Nat, i < l.length → ((i : Int) ∈ line ↔ ((th l i).1 < now ∨ ((th l i).1 = now ∧ i < k)))
def BD (q : NS) (c : Int) : Prop := ∀ i : Nat, -c ≤ q.2.1.getD i 0 ∧ q.2.1.getD i 0 ≤ 10000 ∧ 0 ≤ q.2.2.getD i 0 ∧ q.2.2.getD i 0 ≤ c
def comeM (now turn : Int) (m : PM) (a : Int) : Int × PM := if (thOf m a).1.1 = now then (turn + 1, mput tythread m a ((thOf m a).1, (thOf m a).2.1, turn + 1, (thOf m a).2.2.2)) else (turn, m)
def decW (m : PM) (a : Int) : PM := mput tythread m a (((thOf m a).1.1, (thOf m a).1.2.1, (thOf m a).1.2.2 - 1), (thOf m a).2)
def incU (m : PM) (a : Int) : PM := mput tythread m a ((thOf m a).1, (thOf m a).2.1, (thOf m a).2.2.1, (thOf m a).2.2.2 + 1)
/- Who is ready, of the first so many. -/
def rdy (l : List Th) (now : Int) (m : PM) (k : Nat) : List Int := ((List.range k).filter fun (i : Nat) => decide ((th l (i : Int)).1 ≤ now) && decide (0 < (rec m (i : Int)).1.2.2)).map fun (i : Nat) => (keys m).getD i 0
def capK : Option Int → Int
  | some k => k
  | none => 0
@[reducible] def cEqual : Ctr := ⟨[.sl I64, .sl I64], [.bool], fun _ => True, fun x => (decide (x.1 = x.2.1), ()), false⟩
@[reducible] def cEqualF : Ctr := ⟨[.sl (.sl I64), .sl (.sl I64)], [.bool], fun _ => True, fun x => (decide (x.1 = x.2.1), ()), false⟩
@[reducible] def cClone : Ctr := ⟨[.sl I64], [.sl I64], fun x => x.1.length ≤ 400, fun x => (x.1, ()), true⟩
@[reducible] def cWrong : Ctr := ⟨[I64, I64, .sl tyThread], [I64], fun _ => True, fun x => (wr x.1 x.2.1 x.2.2.1, ()), false⟩
@[reducible] def cNrun : Ctr := ⟨[I64, I64, .sl tyThread, I64], [.sl (.sl I64)], fun x => wr x.1 x.2.1 x.2.2.1 = 0 ∧ 0 ≤ x.2.2.2.1 ∧ x.2.2.2.1 ≤ 2000, fun x => (nrun x.1 x.2.1 x.2.2.1 x.2.2.2.1, ()), false⟩
@[reducible] def cRun : Ctr := ⟨[I64, I64, .sl tyThread, I64], [.sl (.sl I64), I64], fun _ => True, fun x => ((crun x.1 x.2.1 x.2.2.1 x.2.2.2.1).1, (crun x.1 x.2.1 x.2.2.1 x.2.2.2.1).2, ()), false⟩
@[reducible] def cLaw : Ctr := ⟨[I64, I64, .sl tyThread, I64], [.bool], fun _ => True, fun _ => (true, ()), false⟩
@[reducible] def own1 : St := canon [.one (.row 1)] [(1, .row I64 [])] 2
@[reducible] def pSort : Prc := Prc.by 1 own1 [.own 0 I64] (fun g => g.1.length ≤ 400) [] (fun g => ((sortI g.1, g.2), ()))
def idx (l : List Int) (x : Int) : Int := match l.idxOf? x with
  | some i => (i : Int)
  | none => -1
@[reducible] def own3 : St := canon [.one (.row 6), .one (.clo 5)] [(6, .row I64 []), (5, .clo 53 [.ptr 4 0]), (4, .box [.any])] 7
@[reducible] def pIdx : Prc := Prc.by 2 own3 [.own 0 I64, .keep 1, .cb 1 0 [.d I64]] (fun _ => True) [I64] (fun g => (g, idx g.1 g.2.1, ()))
@[reducible] def own2 : St := canon [.one (.row 1), .one (.con (.func (.func 49) #[] #[]))] [(1, .row (.ref 0) [])] 2
@[reducible] def pSortT : Prc := Prc.by 2 own2 [.own 0 (.ref 0), .keep 1, .pl 0 tythread] (fun g => g.1.length ≤ 64 ∧ (∀ a ∈ g.1, mhas tythread g.2.1 a = true) ∧ ∀ a ∈ g.1, ∀ b ∈ g.1, levO g.2.1 a = levO g.2.1 b → trnO g.2.1 a = trnO g.2.1 b → a = b) [] (fun g => ((sortT g.2.1 g.1, g.2), ()))


noncomputable def ks0 : List (Nat × Ctr) := []
noncomputable def kf0 : List (Nat × Nat × Ctr) := []
noncomputable def ps0 : List (Nat × Prc) := []
noncomputable def fx_sort (x : (pSort : Prc).G) : Fx := mkFxG Try.prog env ks0 kf0 (ps0) ([]) ([]) []
noncomputable def ps1 : List (Nat × Prc) := (41, pSort) :: ps0
noncomputable def ks1 : List (Nat × Ctr) := ks0
noncomputable def kf1 : List (Nat × Nat × Ctr) := kf0
noncomputable def fx_sortt (x : (pSortT : Prc).G) : Fx := mkFxG Try.prog env ks1 kf1 (ps1) ([]) ([]) []
noncomputable def ps2 : List (Nat × Prc) := (48, pSortT) :: ps1
noncomputable def ks2 : List (Nat × Ctr) := ks1
noncomputable def kf2 : List (Nat × Nat × Ctr) := kf1
noncomputable def fx_equal (x : HL (cEqual : Ctr).as) : Fx := mkFxG Try.prog env ks2 kf2 (ps2) ((fun (x : HL (cEqual : Ctr).as) => ([(16, 4, Ann.by [.keep 0, .keep 1, .keep 12, .one 13 (.d I64)] (fun s g => 0 ≤ g.1 ∧ g.1 ≤ x.1.length ∧ x.1.take g.1.toNat = x.2.1.take g.1.toNat) (fun s g => (x.1.length - g.1).toNat))])) x) ([]) []
noncomputable def ps3 : List (Nat × Prc) := ps2
noncomputable def ks3 : List (Nat × Ctr) := (16, cEqual) :: ks2
noncomputable def kf3 : List (Nat × Nat × Ctr) := kf2
noncomputable def fx_equalf (x : HL (cEqualF : Ctr).as) : Fx := mkFxG Try.prog env ks3 kf3 (ps3) ((fun (x : HL (cEqualF : Ctr).as) => ([(26, 4, Ann.by [.keep 1, .keep 2, .keep 15, .keep 16, .one 17 (.d I64)] (fun s g => 0 ≤ g.1 ∧ g.1 ≤ x.1.length ∧ x.1.take g.1.toNat = x.2.1.take g.1.toNat) (fun s g => (x.1.length - g.1).toNat))])) x) ([]) []
noncomputable def ps4 : List (Nat × Prc) := ps3
noncomputable def ks4 : List (Nat × Ctr) := ks3
noncomputable def kf4 : List (Nat × Nat × Ctr) := (26, 28, cEqualF) :: kf3
noncomputable def fx_clone (x : HL (cClone : Ctr).as) : Fx := mkFxG Try.prog env ks4 kf4 (ps4) ([]) ([]) []
noncomputable def ps5 : List (Nat × Prc) := ps4
noncomputable def ks5 : List (Nat × Ctr) := (37, cClone) :: ks4
noncomputable def kf5 : List (Nat × Nat × Ctr) := kf4
noncomputable def fx_nwrong (x : HL (cWrong : Ctr).as) : Fx := mkFxG Try.prog env ks5 kf5 (ps5) ((fun (x : HL (cWrong : Ctr).as) => ([(24, 3, Ann.by [.one 7 (.d .bool), .keep 29, .keep 30, .one 31 (.d I64)] (fun s g => 0 ≤ g.2.1 ∧ g.2.1 ≤ x.2.2.1.length ∧ g.1 = (decide (okA x.1 x.2.1 x.2.2.1) && (x.2.2.1.take g.2.1.toNat).all okT)) (fun s g => (x.2.2.1.length - g.2.1).toNat))])) x) ([]) []
noncomputable def ps6 : List (Nat × Prc) := ps5
noncomputable def ks6 : List (Nat × Ctr) := (24, cWrong) :: ks5
noncomputable def kf6 : List (Nat × Nat × Ctr) := kf5
noncomputable def fx_wrong (x : HL (cWrong : Ctr).as) : Fx := mkFxG Try.prog env ks6 kf6 (ps6) ((fun (x : HL (cWrong : Ctr).as) => ([(25, 4, Ann.by [.keep 28, .keep 29, .one 30 (.d I64)] (fun s g => 0 ≤ g.1 ∧ g.1 ≤ x.2.2.1.length ∧ (x.2.2.1.take g.1.toNat).all okT = true) (fun s g => (x.2.2.1.length - g.1).toNat))])) x) ([]) []
noncomputable def ps7 : List (Nat × Prc) := ps6
noncomputable def ks7 : List (Nat × Ctr) := (25, cWrong) :: ks6
noncomputable def kf7 : List (Nat × Nat × Ctr) := kf6
noncomputable def fx_idx (x : (pIdx : Prc).G) : Fx := mkFxG Try.prog env ks7 kf7 (ps7) ((fun (x : (pIdx : Prc).G) => ([(62, 2, Ann.by [.bk, .keep 0, .keep 1, .keep 7, .one 8 (.d I64)] (fun s g => 0 ≤ g.1 ∧ g.1 ≤ x.1.length ∧ (x.1.take g.1.toNat).idxOf? x.2.1 = none) (fun s g => (x.1.length - g.1).toNat))])) x) ([]) []
noncomputable def ps8 : List (Nat × Prc) := (62, pIdx) :: ps7
noncomputable def ks8 : List (Nat × Ctr) := ks7
noncomputable def kf8 : List (Nat × Nat × Ctr) := kf7
noncomputable def fx_nrun (x : HL (cNrun : Ctr).as) : Fx := mkFxG Try.prog env ks8 kf8 (ps8) ((fun (x : HL (cNrun : Ctr).as) => ([(27, 5, Ann.by [.keep 0, .keep 1, .keep 2, .one 9 (.row I64), .own 10 I64, .own 11 I64, .one 12 (.row (.sl I64)), .keep 28, .one 29 (.d I64)] (fun s g => 0 ≤ g.2.2.2.2.1 ∧ g.2.2.2.2.1 ≤ x.2.2.2.1 ∧ nst x.1 x.2.1 x.2.2.1 g.2.2.2.2.1.toNat = ((g.1, g.2.1, g.2.2.1), g.2.2.2.1)) (fun s g => (x.2.2.2.1 - g.2.2.2.2.1).toNat)),
  (27, 8, Ann.by [.keep 0, .keep 1, .keep 2, .one 9 (.row I64), .own 10 I64, .keep 11, .keep 12, .keep 13, .keep 28, .keep 29, .keep 32, .keep 33, .one 34 (.d I64)] (fun s g => 0 ≤ g.2.2.1 ∧ g.2.2.1 ≤ x.2.2.1.length ∧ (g.1, g.2.1) = comes x.2.2.1 (s.dat I64 13) g.2.2.1.toNat (s.dat (.sl I64) 9, s.dat (.sl I64) 10)) (fun s g => (x.2.2.1.length - g.2.2.1).toNat)),
  (27, 16, Ann.by [.keep 0, .keep 1, .keep 2, .keep 9, .keep 10, .keep 11, .keep 12, .one 16 (.row I64), .one 17 (.d I64), .keep 28, .keep 29] (fun s g => -1 ≤ g.2.1 ∧ g.2.1 ≤ 31 ∧ g.1 = (pk x.2.2.1 (s.dat (.sl I64) 10) (s.dat (.sl I64) 9) (31 - g.2.1).toNat).take x.1.toNat) (fun s g => (g.2.1 + 1).toNat)),
  (27, 19, Ann.by [.keep 0, .keep 1, .keep 2, .keep 9, .keep 10, .keep 11, .keep 12, .one 16 (.row I64), .keep 17, .keep 28, .keep 29, .keep 57, .keep 58, .one 59 (.d I64)] (fun s g => 0 ≤ g.2.1 ∧ g.2.1 ≤ (s.dat (.sl I64) 57).length ∧ g.1 = (pk x.2.2.1 (s.dat (.sl I64) 10) (s.dat (.sl I64) 57) (31 - s.dat I64 17).toNat ++ selL x.2.2.1 (s.dat (.sl I64) 10) ((s.dat (.sl I64) 57).take g.2.1.toNat) (s.dat I64 17)).take x.1.toNat) (fun s g => ((s.dat (.sl I64) 57).length - g.2.1).toNat)),
  (27, 25, Ann.by [.keep 0, .keep 1, .keep 2, .one 9 (.row I64), .own 10 I64, .own 11 I64, .keep 12, .keep 16, .keep 28, .keep 29, .keep 89, .keep 90, .one 91 (.d I64)] (fun s g => 0 ≤ g.2.2.2.1 ∧ g.2.2.2.1 ≤ (s.dat (.sl I64) 89).length ∧ (g.1, g.2.1, g.2.2.1) = ((s.dat (.sl I64) 89).take g.2.2.2.1.toNat).foldl (stA x.2.1) (s.dat (.sl I64) 9, s.dat (.sl I64) 10, s.dat (.sl I64) 11)) (fun s g => ((s.dat (.sl I64) 89).length - g.2.2.2.1).toNat)),
  (52, 5, Ann.by [.bk, .own 0 I64, .keep 1, .one 5 (.d I64), .one 6 (.d I64)] (fun s g => (0 ≤ g.2.1 ∧ g.2.1 ≤ g.2.2.1 ∧ g.2.2.1 ≤ (s.dat (.sl I64) 0).length) ∧ g.1.length = (s.dat (.sl I64) 0).length ∧ g.1.take g.2.1.toNat = ((s.dat (.sl I64) 0).take g.2.2.1.toNat).filter (fun y => !decide (y = capK (s.capI 1))) ∧ g.1.drop g.2.2.1.toNat = (s.dat (.sl I64) 0).drop g.2.2.1.toNat) (fun s g => ((s.dat (.sl I64) 0).length - g.2.2.1).toNat))])) x) ([]) [(27,9000030),(27,8000117),(27,3000126),(52,3000038),(52,3000041),(52,4000012),(52,7000038)]
noncomputable def ps9 : List (Nat × Prc) := ps8
noncomputable def ks9 : List (Nat × Ctr) := (27, cNrun) :: ks8
noncomputable def kf9 : List (Nat × Nat × Ctr) := kf8
noncomputable def fx_run (x : HL (cRun : Ctr).as) : Fx := mkFxG Try.prog env ks9 kf9 (ps9) ((fun (x : HL (cRun : Ctr).as) => ([(23, 8, Ann.by [.keep 0, .keep 1, .keep 3, .own 11 (.ref 0), .keep 40, .keep 41, .one 42 (.d I64), .pl 0 tythread] (fun s g => 0 ≤ g.2.1 ∧ g.2.1 ≤ x.2.2.1.length ∧ g.1.length = x.2.2.1.length ∧ keys g.2.2.1 = g.1.take g.2.1.toNat ∧ ∀ i : Nat, (i : Int) < g.2.1 → rec g.2.2.1 (i : Int) = (th x.2.2.1 (i : Int), (i : Int), 0, 0)) (fun s g => (x.2.2.1.length - g.2.1).toNat)),
  (23, 15, Ann.by [.keep 0, .keep 1, .keep 11, .one 14 (.d I64), .one 15 (.row (.sl I64)), .keep 55, .one 56 (.d I64), .pl 0 tythread] (fun s g => 0 ≤ g.2.2.1 ∧ g.2.2.1 ≤ x.2.2.2.1 ∧ (0 ≤ g.1 ∧ g.1 ≤ 100 * g.2.2.1) ∧ (nst x.1 x.2.1 x.2.2.1 g.2.2.1.toNat).2 = g.2.1 ∧ IN x.2.2.1 g.2.2.1 0 (nst x.1 x.2.1 x.2.2.1 g.2.2.1.toNat).1.1 ∧ RT x.2.2.1 x.2.1 g.1 (s.dat (.sl (.ref 0)) 11) g.2.2.2.1 (nst x.1 x.2.1 x.2.2.1 g.2.2.1.toNat).1) (fun s g => (x.2.2.2.1 - g.2.2.1).toNat)),
  (23, 19, Ann.by [.keep 0, .keep 1, .keep 11, .one 14 (.d I64), .keep 15, .keep 16, .one 17 (.row (.ref 0)), .keep 55, .keep 56, .keep 59, .keep 60, .one 61 (.d I64), .pl 0 tythread] (fun s g => 0 ≤ g.2.2.1 ∧ g.2.2.1 ≤ x.2.2.1.length ∧ (0 ≤ g.1 ∧ g.1 ≤ 100 * s.dat I64 16 + g.2.2.1) ∧ g.2.1 = rdy x.2.2.1 (s.dat I64 16) g.2.2.2.1 g.2.2.1.toNat ∧ ∃ q, q = (nst x.1 x.2.1 x.2.2.1 (s.dat I64 16).toNat).1 ∧ RT x.2.2.1 x.2.1 g.1 (s.dat (.sl (.ref 0)) 59) g.2.2.2.1 ((comes x.2.2.1 (s.dat I64 16) g.2.2.1.toNat (q.1, q.2.1)).1, (comes x.2.2.1 (s.dat I64 16) g.2.2.1.toNat (q.1, q.2.1)).2, q.2.2)) (fun s g => (x.2.2.1.length - g.2.2.1).toNat)),
  (23, 31, Ann.by [.keep 0, .keep 1, .keep 11, .one 14 (.d I64), .keep 15, .one 21 (.row I64), .keep 55, .keep 56, .keep 106, .keep 107, .one 108 (.d I64), .pl 0 tythread] (fun s g => 0 ≤ g.2.2.1 ∧ g.2.2.1 ≤ (s.dat (.sl (.ref 0)) 106).length ∧ (0 ≤ g.1 ∧ g.1 ≤ 100 * s.dat I64 56 + 64 + g.2.2.1) ∧ ∃ q, q = (nst x.1 x.2.1 x.2.2.1 (s.dat I64 56).toNat).1 ∧ g.2.1 = (runs x.1 x.2.2.1 (s.dat I64 56) q).take g.2.2.1.toNat ∧ RT x.2.2.1 x.2.1 g.1 (s.dat (.sl (.ref 0)) 11) g.2.2.2.1 (((runs x.1 x.2.2.1 (s.dat I64 56) q).take g.2.2.1.toNat).foldl (stA x.2.1) (mid x.2.2.1 (s.dat I64 56) q))) (fun s g => ((s.dat (.sl (.ref 0)) 106).length - g.2.2.1).toNat))])) x) ((fun (x : HL (cRun : Ctr).as) => ([(23, 24, Ann.by [.keep 0, .keep 1, .keep 11, .one 14 (.d I64), .keep 15, .keep 16, .keep 17, .keep 19, .keep 55, .keep 56, .keep 59, .keep 60, .keep 61, .pl 0 tythread] (fun s g => (g.1, g.2.1) = comeM (s.dat I64 16) (s.dat I64 14) (s.pool tythread 0) (s.dat (.ref 0) 19)) (fun s g => 0)),
  (23, 35, Ann.by [.keep 0, .keep 1, .keep 11, .keep 14, .keep 15, .keep 21, .keep 23, .keep 55, .keep 56, .keep 106, .keep 107, .keep 108, .pl 0 tythread] (fun s g => g.1 = decW (s.pool tythread 0) (s.dat (.ref 0) 23)) (fun s g => 0)),
  (23, 36, Ann.by [.keep 0, .keep 1, .keep 11, .keep 14, .keep 15, .keep 21, .keep 23, .keep 55, .keep 56, .keep 106, .keep 107, .keep 108, .pl 0 tythread] (fun s g => g.1 = incU (s.pool tythread 0) (s.dat (.ref 0) 23)) (fun s g => 0))])) x) [(23,20000052),(23,105),(23,3000155)]
noncomputable def ps10 : List (Nat × Prc) := ps9
noncomputable def ks10 : List (Nat × Ctr) := (23, cRun) :: ks9
noncomputable def kf10 : List (Nat × Nat × Ctr) := kf9
noncomputable def fx_law (x : HL (cLaw : Ctr).as) : Fx := mkFxG Try.prog env ks10 kf10 (ps10) ([]) ([]) [(6,10000058),(6,10000059)]
noncomputable def ps11 : List (Nat × Prc) := ps10
noncomputable def ks11 : List (Nat × Ctr) := (6, cLaw) :: ks10
noncomputable def kf11 : List (Nat × Nat × Ctr) := kf10
noncomputable def ksAll : List (Nat × Ctr) := ks11
end Go.Proofs.Ytpnmfoojmodnlaa.Cores
