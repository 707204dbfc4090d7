/-
  The conditions that the executor comes to, written out (by a tool of ours), and that they are the conditions (by the kernel).
-/
import Derived.Test.YtollphjlheabdaaNamC
namespace Go.Proofs.Ytollphjlheabdaa.Nam
open Go.Sx
set_option maxRecDepth 100000

def E_names (x : Unit) : Prop :=
 (((((((((((((0 : Int) :: (0 : Int) :: (0 : Int) :: (0 : Int) :: (0 : Int) :: (0 : Int) :: (0 : Int) :: (0 : Int) :: (0 : Int) :: ([] : List Int)).set
 (0 : Nat) (0 : Int)).set
 (1 : Nat) (1 : Int)).set
 (2 : Nat) (2 : Int)).set
 (3 : Nat) (3 : Int)).set
 (4 : Nat) (4 : Int)).set
 (5 : Nat) (5 : Int)).set
 (6 : Nat) (6 : Int)).set
 (7 : Nat) (7 : Int)).set
 (8 : Nat) (8 : Int) =
 errs ∧
 (↑(((((((((((0 : Int) ::
 (0 : Int) ::
 (0 : Int) ::
 (0 : Int) ::
 (0 : Int) :: (0 : Int) :: (0 : Int) :: (0 : Int) :: (0 : Int) :: ([] : List Int)).set
 (0 : Nat) (0 : Int)).set
 (1 : Nat) (1 : Int)).set
 (2 : Nat) (2 : Int)).set
 (3 : Nat) (3 : Int)).set
 (4 : Nat) (4 : Int)).set
 (5 : Nat) (5 : Int)).set
 (6 : Nat) (6 : Int)).set
 (7 : Nat) (7 : Int)).set
 (8 : Nat) (8 : Int)).length :
 Int) =
 (9 : Int) ∧
 (0 : Int) ≤ (0 : Int) ∧ (0 : Int) ≤ (9 : Int)) ∧
 True) ∧
 (True ∧
 (↑(((((((((((0 : Int) ::
 (0 : Int) ::
 (0 : Int) ::
 (0 : Int) ::
 (0 : Int) :: (0 : Int) :: (0 : Int) :: (0 : Int) :: (0 : Int) :: ([] : List Int)).set
 (0 : Nat) (0 : Int)).set
 (1 : Nat) (1 : Int)).set
 (2 : Nat) (2 : Int)).set
 (3 : Nat) (3 : Int)).set
 (4 : Nat) (4 : Int)).set
 (5 : Nat) (5 : Int)).set
 (6 : Nat) (6 : Int)).set
 (7 : Nat) (7 : Int)).set
 (8 : Nat) (8 : Int)).length :
 Int) =
 (↑(((((((((((0 : Int) ::
 (0 : Int) ::
 (0 : Int) ::
 (0 : Int) ::
 (0 : Int) :: (0 : Int) :: (0 : Int) :: (0 : Int) :: (0 : Int) :: ([] : List Int)).set
 (0 : Nat) (0 : Int)).set
 (1 : Nat) (1 : Int)).set
 (2 : Nat) (2 : Int)).set
 (3 : Nat) (3 : Int)).set
 (4 : Nat) (4 : Int)).set
 (5 : Nat) (5 : Int)).set
 (6 : Nat) (6 : Int)).set
 (7 : Nat) (7 : Int)).set
 (8 : Nat) (8 : Int)).length :
 Int) ∧
 (0 : Int) = (0 : Int) ∧ True) ∧
 (((((((((((0 : Int) ::
 (0 : Int) ::
 (0 : Int) ::
 (0 : Int) ::
 (0 : Int) :: (0 : Int) :: (0 : Int) :: (0 : Int) :: (0 : Int) :: ([] : List Int)).set
 (0 : Nat) (0 : Int)).set
 (1 : Nat) (1 : Int)).set
 (2 : Nat) (2 : Int)).set
 (3 : Nat) (3 : Int)).set
 (4 : Nat) (4 : Int)).set
 (5 : Nat) (5 : Int)).set
 (6 : Nat) (6 : Int)).set
 (7 : Nat) (7 : Int)).set
 (8 : Nat) (8 : Int) =
 ((((((((((0 : Int) ::
 (0 : Int) ::
 (0 : Int) ::
 (0 : Int) ::
 (0 : Int) :: (0 : Int) :: (0 : Int) :: (0 : Int) :: (0 : Int) :: ([] : List Int)).set
 (0 : Nat) (0 : Int)).set
 (1 : Nat) (1 : Int)).set
 (2 : Nat) (2 : Int)).set
 (3 : Nat) (3 : Int)).set
 (4 : Nat) (4 : Int)).set
 (5 : Nat) (5 : Int)).set
 (6 : Nat) (6 : Int)).set
 (7 : Nat) (7 : Int)).set
 (8 : Nat) (8 : Int) ∧
 True) ∧
 True) ∧
 ∀ (g : List Int × Int × Int × Unit),
 g.fst = errs ∧ g.snd.fst = (9 : Int) ∧ (0 : Int) ≤ g.snd.snd.fst ∧ g.snd.snd.fst ≤ (9 : Int) →
 (g.fst.length ≤ (9223372036854775807 : Nat) ∧ ∀ (x : Int), x ∈ g.fst → (-9223372036854775808 : Int) ≤ x ∧ x ≤ (9223372036854775807 : Int)) ∧
 ((-9223372036854775808 : Int) ≤ g.snd.fst ∧ g.snd.fst ≤ (9223372036854775807 : Int)) ∧
 ((-9223372036854775808 : Int) ≤ g.snd.snd.fst ∧ g.snd.snd.fst ≤ (9223372036854775807 : Int)) ∧ True →
 (decide (g.snd.snd.fst < g.snd.fst) = true →
 ((0 : Int) ≤ g.snd.snd.fst ∧ g.snd.snd.fst < (↑g.fst.length : Int)) ∧
 ((g.fst.getD g.snd.snd.fst.toNat (0 : Int) != g.snd.snd.fst) = true → false = true) ∧
 ((g.fst.getD g.snd.snd.fst.toNat (0 : Int) != g.snd.snd.fst) = false →
 ((-9223372036854775808 : Int) ≤ g.snd.snd.fst + (1 : Int) ∧ g.snd.snd.fst + (1 : Int) ≤ (9223372036854775807 : Int)) ∧
 ((g.fst = errs ∧ g.snd.fst = (9 : Int) ∧ (0 : Int) ≤ g.snd.snd.fst + (1 : Int) ∧ g.snd.snd.fst + (1 : Int) ≤ (9 : Int)) ∧
 ((9 : Int) - (g.snd.snd.fst + (1 : Int))).toNat < ((9 : Int) - g.snd.snd.fst).toNat) ∧
 (True ∧ g.snd.fst = g.snd.fst ∧ g.snd.snd.fst + (1 : Int) = g.snd.snd.fst + (1 : Int) ∧ True) ∧
 (g.fst = g.fst ∧ True) ∧ True)) ∧
 (decide (g.snd.snd.fst < g.snd.fst) = false →
 (((((((((((((((((((((((((((((((((((((((((((((((((((((((((((((((((((((((((((((((((((((((((((((((((List.replicate (94 : Nat) (0 : Int)).set
 (0 :
 Nat)
 (256 :
 Int)).set
 (1 :
 Nat)
 (32 :
 Int)).set
 (2 :
 Nat)
 (8 :
 Int)).set
 (3 :
 Nat)
 (24 :
 Int)).set
 (4 :
 Nat)
 (400 :
 Int)).set
 (5 :
 Nat)
 (1099511627776 :
 Int)).set
 (6 :
 Nat)
 (1 :
 Int)).set
 (7 :
 Nat)
 (2 :
 Int)).set
 (8 :
 Nat)
 (3 :
 Int)).set
 (9 :
 Nat)
 (4 :
 Int)).set
 (10 :
 Nat)
 (1 :
 Int)).set
 (11 :
 Nat)
 (2 :
 Int)).set
 (12 :
 Nat)
 (3 :
 Int)).set
 (13 :
 Nat)
 (4 :
 Int)).set
 (14 :
 Nat)
 (5 :
 Int)).set
 (15 :
 Nat)
 (1 :
 Int)).set
 (16 :
 Nat)
 (2 :
 Int)).set
 (17 :
 Nat)
 (3 :
 Int)).set
 (18 :
 Nat)
 (1 :
 Int)).set
 (19 :
 Nat)
 (2 :
 Int)).set
 (20 :
 Nat)
 (3 :
 Int)).set
 (21 :
 Nat)
 (1 :
 Int)).set
 (22 :
 Nat)
 (2 :
 Int)).set
 (23 :
 Nat)
 (3 :
 Int)).set
 (24 :
 Nat)
 (4 :
 Int)).set
 (25 :
 Nat)
 (1 :
 Int)).set
 (26 :
 Nat)
 (2 :
 Int)).set
 (27 :
 Nat)
 (0 :
 Int)).set
 (28 :
 Nat)
 (1 :
 Int)).set
 (29 :
 Nat)
 (2 :
 Int)).set
 (30 :
 Nat)
 (1 :
 Int)).set
 (31 :
 Nat)
 (2 :
 Int)).set
 (32 :
 Nat)
 (3 :
 Int)).set
 (33 :
 Nat)
 (1 :
 Int)).set
 (34 :
 Nat)
 (2 :
 Int)).set
 (35 :
 Nat)
 (3 :
 Int)).set
 (36 :
 Nat)
 (4 :
 Int)).set
 (37 :
 Nat)
 (5 :
 Int)).set
 (38 :
 Nat)
 (1 :
 Int)).set
 (39 :
 Nat)
 (2 :
 Int)).set
 (40 :
 Nat)
 (3 :
 Int)).set
 (41 :
 Nat)
 (4 :
 Int)).set
 (42 :
 Nat)
 (1 :
 Int)).set
 (43 :
 Nat)
 (2 :
 Int)).set
 (44 :
 Nat)
 (3 :
 Int)).set
 (45 :
 Nat)
 (4 :
 Int)).set
 (46 :
 Nat)
 (5 :
 Int)).set
 (47 :
 Nat)
 (1 :
 Int)).set
 (48 :
 Nat)
 (2 :
 Int)).set
 (49 :
 Nat)
 (3 :
 Int)).set
 (50 :
 Nat)
 (4 :
 Int)).set
 (51 :
 Nat)
 (8 :
 Int)).set
 (52 :
 Nat)
 (21 :
 Int)).set
 (53 :
 Nat)
 (4 :
 Int)).set
 (54 :
 Nat)
 (10 :
 Int)).set
 (55 :
 Nat)
 (23 :
 Int)).set
 (56 :
 Nat)
 (1 :
 Int)).set
 (57 :
 Nat)
 (2 :
 Int)).set
 (58 :
 Nat)
 (3 :
 Int)).set
 (59 :
 Nat)
 (1 :
 Int)).set
 (60 :
 Nat)
 (2 :
 Int)).set
 (61 :
 Nat)
 (64 :
 Int)).set
 (62 :
 Nat)
 (16 :
 Int)).set
 (63 :
 Nat)
 (1 :
 Int)).set
 (64 : Nat)
 (2 :
 Int)).set
 (65 : Nat)
 (3 : Int)).set
 (66 : Nat)
 (4 : Int)).set
 (67 : Nat)
 (5 : Int)).set
 (68 : Nat) (6 : Int)).set
 (69 : Nat) (1 : Int)).set
 (70 : Nat) (2 : Int)).set
 (71 : Nat) (3 : Int)).set
 (72 : Nat) (4 : Int)).set
 (73 : Nat) (5 : Int)).set
 (74 : Nat) (6 : Int)).set
 (75 : Nat) (7 : Int)).set
 (76 : Nat) (4 : Int)).set
 (77 : Nat) (16 : Int)).set
 (78 : Nat) (1 : Int)).set
 (79 : Nat) (2 : Int)).set
 (80 : Nat) (3 : Int)).set
 (81 : Nat) (1 : Int)).set
 (82 : Nat) (2 : Int)).set
 (83 : Nat) (3 : Int)).set
 (84 : Nat) (4 : Int)).set
 (85 : Nat) (5 : Int)).set
 (86 : Nat) (6 : Int)).set
 (87 : Nat) (5 : Int)).set
 (88 : Nat) (8 : Int)).set
 (89 : Nat) (511 : Int)).set
 (90 : Nat) (32 : Int)).set
 (91 : Nat) (16 : Int)).set
 (92 : Nat) (64 : Int)).set
 (93 : Nat) (2 : Int) =
 want ∧
 ((((((((((((((((((((((((((((((((((((((((((((((((((((((((((((((((((((((((((((((((((((((((((((((List.replicate (94 : Nat)
 (0 :
 Int)).set
 (0 :
 Nat)
 (256 :
 Int)).set
 (1 :
 Nat)
 (32 :
 Int)).set
 (2 :
 Nat)
 (8 :
 Int)).set
 (3 :
 Nat)
 (24 :
 Int)).set
 (4 :
 Nat)
 (400 :
 Int)).set
 (5 :
 Nat)
 (1099511627776 :
 Int)).set
 (6 :
 Nat)
 (1 :
 Int)).set
 (7 :
 Nat)
 (2 :
 Int)).set
 (8 :
 Nat)
 (3 :
 Int)).set
 (9 :
 Nat)
 (4 :
 Int)).set
 (10 :
 Nat)
 (1 :
 Int)).set
 (11 :
 Nat)
 (2 :
 Int)).set
 (12 :
 Nat)
 (3 :
 Int)).set
 (13 :
 Nat)
 (4 :
 Int)).set
 (14 :
 Nat)
 (5 :
 Int)).set
 (15 :
 Nat)
 (1 :
 Int)).set
 (16 :
 Nat)
 (2 :
 Int)).set
 (17 :
 Nat)
 (3 :
 Int)).set
 (18 :
 Nat)
 (1 :
 Int)).set
 (19 :
 Nat)
 (2 :
 Int)).set
 (20 :
 Nat)
 (3 :
 Int)).set
 (21 :
 Nat)
 (1 :
 Int)).set
 (22 :
 Nat)
 (2 :
 Int)).set
 (23 :
 Nat)
 (3 :
 Int)).set
 (24 :
 Nat)
 (4 :
 Int)).set
 (25 :
 Nat)
 (1 :
 Int)).set
 (26 :
 Nat)
 (2 :
 Int)).set
 (27 :
 Nat)
 (0 :
 Int)).set
 (28 :
 Nat)
 (1 :
 Int)).set
 (29 :
 Nat)
 (2 :
 Int)).set
 (30 :
 Nat)
 (1 :
 Int)).set
 (31 :
 Nat)
 (2 :
 Int)).set
 (32 :
 Nat)
 (3 :
 Int)).set
 (33 :
 Nat)
 (1 :
 Int)).set
 (34 :
 Nat)
 (2 :
 Int)).set
 (35 :
 Nat)
 (3 :
 Int)).set
 (36 :
 Nat)
 (4 :
 Int)).set
 (37 :
 Nat)
 (5 :
 Int)).set
 (38 :
 Nat)
 (1 :
 Int)).set
 (39 :
 Nat)
 (2 :
 Int)).set
 (40 :
 Nat)
 (3 :
 Int)).set
 (41 :
 Nat)
 (4 :
 Int)).set
 (42 :
 Nat)
 (1 :
 Int)).set
 (43 :
 Nat)
 (2 :
 Int)).set
 (44 :
 Nat)
 (3 :
 Int)).set
 (45 :
 Nat)
 (4 :
 Int)).set
 (46 :
 Nat)
 (5 :
 Int)).set
 (47 :
 Nat)
 (1 :
 Int)).set
 (48 :
 Nat)
 (2 :
 Int)).set
 (49 :
 Nat)
 (3 :
 Int)).set
 (50 :
 Nat)
 (4 :
 Int)).set
 (51 :
 Nat)
 (8 :
 Int)).set
 (52 :
 Nat)
 (21 :
 Int)).set
 (53 :
 Nat)
 (4 :
 Int)).set
 (54 :
 Nat)
 (10 :
 Int)).set
 (55 :
 Nat)
 (23 :
 Int)).set
 (56 :
 Nat)
 (1 :
 Int)).set
 (57 :
 Nat)
 (2 :
 Int)).set
 (58 :
 Nat)
 (3 :
 Int)).set
 (59 :
 Nat)
 (1 :
 Int)).set
 (60 :
 Nat)
 (2 :
 Int)).set
 (61 :
 Nat)
 (64 :
 Int)).set
 (62 :
 Nat)
 (16 :
 Int)).set
 (63 :
 Nat)
 (1 :
 Int)).set
 (64 :
 Nat)
 (2 :
 Int)).set
 (65 : Nat)
 (3 :
 Int)).set
 (66 : Nat)
 (4 : Int)).set
 (67 : Nat)
 (5 : Int)).set
 (68 : Nat)
 (6 : Int)).set
 (69 : Nat) (1 : Int)).set
 (70 : Nat) (2 : Int)).set
 (71 : Nat) (3 : Int)).set
 (72 : Nat) (4 : Int)).set
 (73 : Nat) (5 : Int)).set
 (74 : Nat) (6 : Int)).set
 (75 : Nat) (7 : Int)).set
 (76 : Nat) (4 : Int)).set
 (77 : Nat) (16 : Int)).set
 (78 : Nat) (1 : Int)).set
 (79 : Nat) (2 : Int)).set
 (80 : Nat) (3 : Int)).set
 (81 : Nat) (1 : Int)).set
 (82 : Nat) (2 : Int)).set
 (83 : Nat) (3 : Int)).set
 (84 : Nat) (4 : Int)).set
 (85 : Nat) (5 : Int)).set
 (86 : Nat) (6 : Int)).set
 (87 : Nat) (5 : Int)).set
 (88 : Nat) (8 : Int)).set
 (89 : Nat) (511 : Int)).set
 (90 : Nat) (32 : Int)).set
 (91 : Nat) (16 : Int)).set
 (92 : Nat) (64 : Int)).set
 (93 : Nat) (2 : Int) =
 want ∧
 (↑(((((((((((((((((((((((((((((((((((((((((((((((((((((((((((((((((((((((((((((((((((((((((((((((List.replicate (94 : Nat)
 (0 :
 Int)).set
 (0 :
 Nat)
 (256 :
 Int)).set
 (1 :
 Nat)
 (32 :
 Int)).set
 (2 :
 Nat)
 (8 :
 Int)).set
 (3 :
 Nat)
 (24 :
 Int)).set
 (4 :
 Nat)
 (400 :
 Int)).set
 (5 :
 Nat)
 (1099511627776 :
 Int)).set
 (6 :
 Nat)
 (1 :
 Int)).set
 (7 :
 Nat)
 (2 :
 Int)).set
 (8 :
 Nat)
 (3 :
 Int)).set
 (9 :
 Nat)
 (4 :
 Int)).set
 (10 :
 Nat)
 (1 :
 Int)).set
 (11 :
 Nat)
 (2 :
 Int)).set
 (12 :
 Nat)
 (3 :
 Int)).set
 (13 :
 Nat)
 (4 :
 Int)).set
 (14 :
 Nat)
 (5 :
 Int)).set
 (15 :
 Nat)
 (1 :
 Int)).set
 (16 :
 Nat)
 (2 :
 Int)).set
 (17 :
 Nat)
 (3 :
 Int)).set
 (18 :
 Nat)
 (1 :
 Int)).set
 (19 :
 Nat)
 (2 :
 Int)).set
 (20 :
 Nat)
 (3 :
 Int)).set
 (21 :
 Nat)
 (1 :
 Int)).set
 (22 :
 Nat)
 (2 :
 Int)).set
 (23 :
 Nat)
 (3 :
 Int)).set
 (24 :
 Nat)
 (4 :
 Int)).set
 (25 :
 Nat)
 (1 :
 Int)).set
 (26 :
 Nat)
 (2 :
 Int)).set
 (27 :
 Nat)
 (0 :
 Int)).set
 (28 :
 Nat)
 (1 :
 Int)).set
 (29 :
 Nat)
 (2 :
 Int)).set
 (30 :
 Nat)
 (1 :
 Int)).set
 (31 :
 Nat)
 (2 :
 Int)).set
 (32 :
 Nat)
 (3 :
 Int)).set
 (33 :
 Nat)
 (1 :
 Int)).set
 (34 :
 Nat)
 (2 :
 Int)).set
 (35 :
 Nat)
 (3 :
 Int)).set
 (36 :
 Nat)
 (4 :
 Int)).set
 (37 :
 Nat)
 (5 :
 Int)).set
 (38 :
 Nat)
 (1 :
 Int)).set
 (39 :
 Nat)
 (2 :
 Int)).set
 (40 :
 Nat)
 (3 :
 Int)).set
 (41 :
 Nat)
 (4 :
 Int)).set
 (42 :
 Nat)
 (1 :
 Int)).set
 (43 :
 Nat)
 (2 :
 Int)).set
 (44 :
 Nat)
 (3 :
 Int)).set
 (45 :
 Nat)
 (4 :
 Int)).set
 (46 :
 Nat)
 (5 :
 Int)).set
 (47 :
 Nat)
 (1 :
 Int)).set
 (48 :
 Nat)
 (2 :
 Int)).set
 (49 :
 Nat)
 (3 :
 Int)).set
 (50 :
 Nat)
 (4 :
 Int)).set
 (51 :
 Nat)
 (8 :
 Int)).set
 (52 :
 Nat)
 (21 :
 Int)).set
 (53 :
 Nat)
 (4 :
 Int)).set
 (54 :
 Nat)
 (10 :
 Int)).set
 (55 :
 Nat)
 (23 :
 Int)).set
 (56 :
 Nat)
 (1 :
 Int)).set
 (57 :
 Nat)
 (2 :
 Int)).set
 (58 :
 Nat)
 (3 :
 Int)).set
 (59 :
 Nat)
 (1 :
 Int)).set
 (60 :
 Nat)
 (2 :
 Int)).set
 (61 :
 Nat)
 (64 :
 Int)).set
 (62 :
 Nat)
 (16 :
 Int)).set
 (63 :
 Nat)
 (1 :
 Int)).set
 (64 :
 Nat)
 (2 :
 Int)).set
 (65 :
 Nat)
 (3 :
 Int)).set
 (66 :
 Nat)
 (4 :
 Int)).set
 (67 : Nat)
 (5 :
 Int)).set
 (68 : Nat)
 (6 : Int)).set
 (69 : Nat)
 (1 : Int)).set
 (70 : Nat)
 (2 : Int)).set
 (71 : Nat) (3 : Int)).set
 (72 : Nat) (4 : Int)).set
 (73 : Nat) (5 : Int)).set
 (74 : Nat) (6 : Int)).set
 (75 : Nat) (7 : Int)).set
 (76 : Nat) (4 : Int)).set
 (77 : Nat) (16 : Int)).set
 (78 : Nat) (1 : Int)).set
 (79 : Nat) (2 : Int)).set
 (80 : Nat) (3 : Int)).set
 (81 : Nat) (1 : Int)).set
 (82 : Nat) (2 : Int)).set
 (83 : Nat) (3 : Int)).set
 (84 : Nat) (4 : Int)).set
 (85 : Nat) (5 : Int)).set
 (86 : Nat) (6 : Int)).set
 (87 : Nat) (5 : Int)).set
 (88 : Nat) (8 : Int)).set
 (89 : Nat) (511 : Int)).set
 (90 : Nat) (32 : Int)).set
 (91 : Nat) (16 : Int)).set
 (92 : Nat) (64 : Int)).set
 (93 : Nat) (2 : Int)).length :
 Int) =
 (94 : Int) ∧
 (0 : Int) ≤ (0 : Int) ∧ (0 : Int) ≤ (94 : Int)) ∧
 True) ∧
 (True ∧
 True ∧
 (↑(((((((((((((((((((((((((((((((((((((((((((((((((((((((((((((((((((((((((((((((((((((((((((((((List.replicate (94 : Nat)
 (0 :
 Int)).set
 (0 :
 Nat)
 (256 :
 Int)).set
 (1 :
 Nat)
 (32 :
 Int)).set
 (2 :
 Nat)
 (8 :
 Int)).set
 (3 :
 Nat)
 (24 :
 Int)).set
 (4 :
 Nat)
 (400 :
 Int)).set
 (5 :
 Nat)
 (1099511627776 :
 Int)).set
 (6 :
 Nat)
 (1 :
 Int)).set
 (7 :
 Nat)
 (2 :
 Int)).set
 (8 :
 Nat)
 (3 :
 Int)).set
 (9 :
 Nat)
 (4 :
 Int)).set
 (10 :
 Nat)
 (1 :
 Int)).set
 (11 :
 Nat)
 (2 :
 Int)).set
 (12 :
 Nat)
 (3 :
 Int)).set
 (13 :
 Nat)
 (4 :
 Int)).set
 (14 :
 Nat)
 (5 :
 Int)).set
 (15 :
 Nat)
 (1 :
 Int)).set
 (16 :
 Nat)
 (2 :
 Int)).set
 (17 :
 Nat)
 (3 :
 Int)).set
 (18 :
 Nat)
 (1 :
 Int)).set
 (19 :
 Nat)
 (2 :
 Int)).set
 (20 :
 Nat)
 (3 :
 Int)).set
 (21 :
 Nat)
 (1 :
 Int)).set
 (22 :
 Nat)
 (2 :
 Int)).set
 (23 :
 Nat)
 (3 :
 Int)).set
 (24 :
 Nat)
 (4 :
 Int)).set
 (25 :
 Nat)
 (1 :
 Int)).set
 (26 :
 Nat)
 (2 :
 Int)).set
 (27 :
 Nat)
 (0 :
 Int)).set
 (28 :
 Nat)
 (1 :
 Int)).set
 (29 :
 Nat)
 (2 :
 Int)).set
 (30 :
 Nat)
 (1 :
 Int)).set
 (31 :
 Nat)
 (2 :
 Int)).set
 (32 :
 Nat)
 (3 :
 Int)).set
 (33 :
 Nat)
 (1 :
 Int)).set
 (34 :
 Nat)
 (2 :
 Int)).set
 (35 :
 Nat)
 (3 :
 Int)).set
 (36 :
 Nat)
 (4 :
 Int)).set
 (37 :
 Nat)
 (5 :
 Int)).set
 (38 :
 Nat)
 (1 :
 Int)).set
 (39 :
 Nat)
 (2 :
 Int)).set
 (40 :
 Nat)
 (3 :
 Int)).set
 (41 :
 Nat)
 (4 :
 Int)).set
 (42 :
 Nat)
 (1 :
 Int)).set
 (43 :
 Nat)
 (2 :
 Int)).set
 (44 :
 Nat)
 (3 :
 Int)).set
 (45 :
 Nat)
 (4 :
 Int)).set
 (46 :
 Nat)
 (5 :
 Int)).set
 (47 :
 Nat)
 (1 :
 Int)).set
 (48 :
 Nat)
 (2 :
 Int)).set
 (49 :
 Nat)
 (3 :
 Int)).set
 (50 :
 Nat)
 (4 :
 Int)).set
 (51 :
 Nat)
 (8 :
 Int)).set
 (52 :
 Nat)
 (21 :
 Int)).set
 (53 :
 Nat)
 (4 :
 Int)).set
 (54 :
 Nat)
 (10 :
 Int)).set
 (55 :
 Nat)
 (23 :
 Int)).set
 (56 :
 Nat)
 (1 :
 Int)).set
 (57 :
 Nat)
 (2 :
 Int)).set
 (58 :
 Nat)
 (3 :
 Int)).set
 (59 :
 Nat)
 (1 :
 Int)).set
 (60 :
 Nat)
 (2 :
 Int)).set
 (61 :
 Nat)
 (64 :
 Int)).set
 (62 :
 Nat)
 (16 :
 Int)).set
 (63 :
 Nat)
 (1 :
 Int)).set
 (64 :
 Nat)
 (2 :
 Int)).set
 (65 :
 Nat)
 (3 :
 Int)).set
 (66 :
 Nat)
 (4 :
 Int)).set
 (67 : Nat)
 (5 :
 Int)).set
 (68 : Nat)
 (6 : Int)).set
 (69 : Nat)
 (1 : Int)).set
 (70 : Nat)
 (2 : Int)).set
 (71 : Nat) (3 : Int)).set
 (72 : Nat) (4 : Int)).set
 (73 : Nat) (5 : Int)).set
 (74 : Nat) (6 : Int)).set
 (75 : Nat) (7 : Int)).set
 (76 : Nat) (4 : Int)).set
 (77 : Nat) (16 : Int)).set
 (78 : Nat) (1 : Int)).set
 (79 : Nat) (2 : Int)).set
 (80 : Nat) (3 : Int)).set
 (81 : Nat) (1 : Int)).set
 (82 : Nat) (2 : Int)).set
 (83 : Nat) (3 : Int)).set
 (84 : Nat) (4 : Int)).set
 (85 : Nat) (5 : Int)).set
 (86 : Nat) (6 : Int)).set
 (87 : Nat) (5 : Int)).set
 (88 : Nat) (8 : Int)).set
 (89 : Nat) (511 : Int)).set
 (90 : Nat) (32 : Int)).set
 (91 : Nat) (16 : Int)).set
 (92 : Nat) (64 : Int)).set
 (93 : Nat) (2 : Int)).length :
 Int) =
 (↑(((((((((((((((((((((((((((((((((((((((((((((((((((((((((((((((((((((((((((((((((((((((((((((((List.replicate (94 : Nat)
 (0 :
 Int)).set
 (0 :
 Nat)
 (256 :
 Int)).set
 (1 :
 Nat)
 (32 :
 Int)).set
 (2 :
 Nat)
 (8 :
 Int)).set
 (3 :
 Nat)
 (24 :
 Int)).set
 (4 :
 Nat)
 (400 :
 Int)).set
 (5 :
 Nat)
 (1099511627776 :
 Int)).set
 (6 :
 Nat)
 (1 :
 Int)).set
 (7 :
 Nat)
 (2 :
 Int)).set
 (8 :
 Nat)
 (3 :
 Int)).set
 (9 :
 Nat)
 (4 :
 Int)).set
 (10 :
 Nat)
 (1 :
 Int)).set
 (11 :
 Nat)
 (2 :
 Int)).set
 (12 :
 Nat)
 (3 :
 Int)).set
 (13 :
 Nat)
 (4 :
 Int)).set
 (14 :
 Nat)
 (5 :
 Int)).set
 (15 :
 Nat)
 (1 :
 Int)).set
 (16 :
 Nat)
 (2 :
 Int)).set
 (17 :
 Nat)
 (3 :
 Int)).set
 (18 :
 Nat)
 (1 :
 Int)).set
 (19 :
 Nat)
 (2 :
 Int)).set
 (20 :
 Nat)
 (3 :
 Int)).set
 (21 :
 Nat)
 (1 :
 Int)).set
 (22 :
 Nat)
 (2 :
 Int)).set
 (23 :
 Nat)
 (3 :
 Int)).set
 (24 :
 Nat)
 (4 :
 Int)).set
 (25 :
 Nat)
 (1 :
 Int)).set
 (26 :
 Nat)
 (2 :
 Int)).set
 (27 :
 Nat)
 (0 :
 Int)).set
 (28 :
 Nat)
 (1 :
 Int)).set
 (29 :
 Nat)
 (2 :
 Int)).set
 (30 :
 Nat)
 (1 :
 Int)).set
 (31 :
 Nat)
 (2 :
 Int)).set
 (32 :
 Nat)
 (3 :
 Int)).set
 (33 :
 Nat)
 (1 :
 Int)).set
 (34 :
 Nat)
 (2 :
 Int)).set
 (35 :
 Nat)
 (3 :
 Int)).set
 (36 :
 Nat)
 (4 :
 Int)).set
 (37 :
 Nat)
 (5 :
 Int)).set
 (38 :
 Nat)
 (1 :
 Int)).set
 (39 :
 Nat)
 (2 :
 Int)).set
 (40 :
 Nat)
 (3 :
 Int)).set
 (41 :
 Nat)
 (4 :
 Int)).set
 (42 :
 Nat)
 (1 :
 Int)).set
 (43 :
 Nat)
 (2 :
 Int)).set
 (44 :
 Nat)
 (3 :
 Int)).set
 (45 :
 Nat)
 (4 :
 Int)).set
 (46 :
 Nat)
 (5 :
 Int)).set
 (47 :
 Nat)
 (1 :
 Int)).set
 (48 :
 Nat)
 (2 :
 Int)).set
 (49 :
 Nat)
 (3 :
 Int)).set
 (50 :
 Nat)
 (4 :
 Int)).set
 (51 :
 Nat)
 (8 :
 Int)).set
 (52 :
 Nat)
 (21 :
 Int)).set
 (53 :
 Nat)
 (4 :
 Int)).set
 (54 :
 Nat)
 (10 :
 Int)).set
 (55 :
 Nat)
 (23 :
 Int)).set
 (56 :
 Nat)
 (1 :
 Int)).set
 (57 :
 Nat)
 (2 :
 Int)).set
 (58 :
 Nat)
 (3 :
 Int)).set
 (59 :
 Nat)
 (1 :
 Int)).set
 (60 :
 Nat)
 (2 :
 Int)).set
 (61 :
 Nat)
 (64 :
 Int)).set
 (62 :
 Nat)
 (16 :
 Int)).set
 (63 :
 Nat)
 (1 :
 Int)).set
 (64 :
 Nat)
 (2 :
 Int)).set
 (65 :
 Nat)
 (3 :
 Int)).set
 (66 :
 Nat)
 (4 :
 Int)).set
 (67 : Nat)
 (5 :
 Int)).set
 (68 : Nat)
 (6 : Int)).set
 (69 : Nat)
 (1 : Int)).set
 (70 : Nat)
 (2 : Int)).set
 (71 : Nat) (3 : Int)).set
 (72 : Nat) (4 : Int)).set
 (73 : Nat) (5 : Int)).set
 (74 : Nat) (6 : Int)).set
 (75 : Nat) (7 : Int)).set
 (76 : Nat) (4 : Int)).set
 (77 : Nat) (16 : Int)).set
 (78 : Nat) (1 : Int)).set
 (79 : Nat) (2 : Int)).set
 (80 : Nat) (3 : Int)).set
 (81 : Nat) (1 : Int)).set
 (82 : Nat) (2 : Int)).set
 (83 : Nat) (3 : Int)).set
 (84 : Nat) (4 : Int)).set
 (85 : Nat) (5 : Int)).set
 (86 : Nat) (6 : Int)).set
 (87 : Nat) (5 : Int)).set
 (88 : Nat) (8 : Int)).set
 (89 : Nat) (511 : Int)).set
 (90 : Nat) (32 : Int)).set
 (91 : Nat) (16 : Int)).set
 (92 : Nat) (64 : Int)).set
 (93 : Nat) (2 : Int)).length :
 Int) ∧
 (0 : Int) = (0 : Int) ∧ True) ∧
 (((((((((((((((((((((((((((((((((((((((((((((((((((((((((((((((((((((((((((((((((((((((((((((((List.replicate (94 : Nat)
 (0 :
 Int)).set
 (0 :
 Nat)
 (256 :
 Int)).set
 (1 :
 Nat)
 (32 :
 Int)).set
 (2 :
 Nat)
 (8 :
 Int)).set
 (3 :
 Nat)
 (24 :
 Int)).set
 (4 :
 Nat)
 (400 :
 Int)).set
 (5 :
 Nat)
 (1099511627776 :
 Int)).set
 (6 :
 Nat)
 (1 :
 Int)).set
 (7 :
 Nat)
 (2 :
 Int)).set
 (8 :
 Nat)
 (3 :
 Int)).set
 (9 :
 Nat)
 (4 :
 Int)).set
 (10 :
 Nat)
 (1 :
 Int)).set
 (11 :
 Nat)
 (2 :
 Int)).set
 (12 :
 Nat)
 (3 :
 Int)).set
 (13 :
 Nat)
 (4 :
 Int)).set
 (14 :
 Nat)
 (5 :
 Int)).set
 (15 :
 Nat)
 (1 :
 Int)).set
 (16 :
 Nat)
 (2 :
 Int)).set
 (17 :
 Nat)
 (3 :
 Int)).set
 (18 :
 Nat)
 (1 :
 Int)).set
 (19 :
 Nat)
 (2 :
 Int)).set
 (20 :
 Nat)
 (3 :
 Int)).set
 (21 :
 Nat)
 (1 :
 Int)).set
 (22 :
 Nat)
 (2 :
 Int)).set
 (23 :
 Nat)
 (3 :
 Int)).set
 (24 :
 Nat)
 (4 :
 Int)).set
 (25 :
 Nat)
 (1 :
 Int)).set
 (26 :
 Nat)
 (2 :
 Int)).set
 (27 :
 Nat)
 (0 :
 Int)).set
 (28 :
 Nat)
 (1 :
 Int)).set
 (29 :
 Nat)
 (2 :
 Int)).set
 (30 :
 Nat)
 (1 :
 Int)).set
 (31 :
 Nat)
 (2 :
 Int)).set
 (32 :
 Nat)
 (3 :
 Int)).set
 (33 :
 Nat)
 (1 :
 Int)).set
 (34 :
 Nat)
 (2 :
 Int)).set
 (35 :
 Nat)
 (3 :
 Int)).set
 (36 :
 Nat)
 (4 :
 Int)).set
 (37 :
 Nat)
 (5 :
 Int)).set
 (38 :
 Nat)
 (1 :
 Int)).set
 (39 :
 Nat)
 (2 :
 Int)).set
 (40 :
 Nat)
 (3 :
 Int)).set
 (41 :
 Nat)
 (4 :
 Int)).set
 (42 :
 Nat)
 (1 :
 Int)).set
 (43 :
 Nat)
 (2 :
 Int)).set
 (44 :
 Nat)
 (3 :
 Int)).set
 (45 :
 Nat)
 (4 :
 Int)).set
 (46 :
 Nat)
 (5 :
 Int)).set
 (47 :
 Nat)
 (1 :
 Int)).set
 (48 :
 Nat)
 (2 :
 Int)).set
 (49 :
 Nat)
 (3 :
 Int)).set
 (50 :
 Nat)
 (4 :
 Int)).set
 (51 :
 Nat)
 (8 :
 Int)).set
 (52 :
 Nat)
 (21 :
 Int)).set
 (53 :
 Nat)
 (4 :
 Int)).set
 (54 :
 Nat)
 (10 :
 Int)).set
 (55 :
 Nat)
 (23 :
 Int)).set
 (56 :
 Nat)
 (1 :
 Int)).set
 (57 :
 Nat)
 (2 :
 Int)).set
 (58 :
 Nat)
 (3 :
 Int)).set
 (59 :
 Nat)
 (1 :
 Int)).set
 (60 :
 Nat)
 (2 :
 Int)).set
 (61 :
 Nat)
 (64 :
 Int)).set
 (62 :
 Nat)
 (16 :
 Int)).set
 (63 :
 Nat)
 (1 :
 Int)).set
 (64 :
 Nat)
 (2 :
 Int)).set
 (65 : Nat)
 (3 :
 Int)).set
 (66 : Nat)
 (4 : Int)).set
 (67 : Nat)
 (5 : Int)).set
 (68 : Nat)
 (6 : Int)).set
 (69 : Nat) (1 : Int)).set
 (70 : Nat) (2 : Int)).set
 (71 : Nat) (3 : Int)).set
 (72 : Nat) (4 : Int)).set
 (73 : Nat) (5 : Int)).set
 (74 : Nat) (6 : Int)).set
 (75 : Nat) (7 : Int)).set
 (76 : Nat) (4 : Int)).set
 (77 : Nat) (16 : Int)).set
 (78 : Nat) (1 : Int)).set
 (79 : Nat) (2 : Int)).set
 (80 : Nat) (3 : Int)).set
 (81 : Nat) (1 : Int)).set
 (82 : Nat) (2 : Int)).set
 (83 : Nat) (3 : Int)).set
 (84 : Nat) (4 : Int)).set
 (85 : Nat) (5 : Int)).set
 (86 : Nat) (6 : Int)).set
 (87 : Nat) (5 : Int)).set
 (88 : Nat) (8 : Int)).set
 (89 : Nat) (511 : Int)).set
 (90 : Nat) (32 : Int)).set
 (91 : Nat) (16 : Int)).set
 (92 : Nat) (64 : Int)).set
 (93 : Nat) (2 : Int) =
 ((((((((((((((((((((((((((((((((((((((((((((((((((((((((((((((((((((((((((((((((((((((((((((((List.replicate (94 : Nat)
 (0 :
 Int)).set
 (0 :
 Nat)
 (256 :
 Int)).set
 (1 :
 Nat)
 (32 :
 Int)).set
 (2 :
 Nat)
 (8 :
 Int)).set
 (3 :
 Nat)
 (24 :
 Int)).set
 (4 :
 Nat)
 (400 :
 Int)).set
 (5 :
 Nat)
 (1099511627776 :
 Int)).set
 (6 :
 Nat)
 (1 :
 Int)).set
 (7 :
 Nat)
 (2 :
 Int)).set
 (8 :
 Nat)
 (3 :
 Int)).set
 (9 :
 Nat)
 (4 :
 Int)).set
 (10 :
 Nat)
 (1 :
 Int)).set
 (11 :
 Nat)
 (2 :
 Int)).set
 (12 :
 Nat)
 (3 :
 Int)).set
 (13 :
 Nat)
 (4 :
 Int)).set
 (14 :
 Nat)
 (5 :
 Int)).set
 (15 :
 Nat)
 (1 :
 Int)).set
 (16 :
 Nat)
 (2 :
 Int)).set
 (17 :
 Nat)
 (3 :
 Int)).set
 (18 :
 Nat)
 (1 :
 Int)).set
 (19 :
 Nat)
 (2 :
 Int)).set
 (20 :
 Nat)
 (3 :
 Int)).set
 (21 :
 Nat)
 (1 :
 Int)).set
 (22 :
 Nat)
 (2 :
 Int)).set
 (23 :
 Nat)
 (3 :
 Int)).set
 (24 :
 Nat)
 (4 :
 Int)).set
 (25 :
 Nat)
 (1 :
 Int)).set
 (26 :
 Nat)
 (2 :
 Int)).set
 (27 :
 Nat)
 (0 :
 Int)).set
 (28 :
 Nat)
 (1 :
 Int)).set
 (29 :
 Nat)
 (2 :
 Int)).set
 (30 :
 Nat)
 (1 :
 Int)).set
 (31 :
 Nat)
 (2 :
 Int)).set
 (32 :
 Nat)
 (3 :
 Int)).set
 (33 :
 Nat)
 (1 :
 Int)).set
 (34 :
 Nat)
 (2 :
 Int)).set
 (35 :
 Nat)
 (3 :
 Int)).set
 (36 :
 Nat)
 (4 :
 Int)).set
 (37 :
 Nat)
 (5 :
 Int)).set
 (38 :
 Nat)
 (1 :
 Int)).set
 (39 :
 Nat)
 (2 :
 Int)).set
 (40 :
 Nat)
 (3 :
 Int)).set
 (41 :
 Nat)
 (4 :
 Int)).set
 (42 :
 Nat)
 (1 :
 Int)).set
 (43 :
 Nat)
 (2 :
 Int)).set
 (44 :
 Nat)
 (3 :
 Int)).set
 (45 :
 Nat)
 (4 :
 Int)).set
 (46 :
 Nat)
 (5 :
 Int)).set
 (47 :
 Nat)
 (1 :
 Int)).set
 (48 :
 Nat)
 (2 :
 Int)).set
 (49 :
 Nat)
 (3 :
 Int)).set
 (50 :
 Nat)
 (4 :
 Int)).set
 (51 :
 Nat)
 (8 :
 Int)).set
 (52 :
 Nat)
 (21 :
 Int)).set
 (53 :
 Nat)
 (4 :
 Int)).set
 (54 :
 Nat)
 (10 :
 Int)).set
 (55 :
 Nat)
 (23 :
 Int)).set
 (56 :
 Nat)
 (1 :
 Int)).set
 (57 :
 Nat)
 (2 :
 Int)).set
 (58 :
 Nat)
 (3 :
 Int)).set
 (59 :
 Nat)
 (1 :
 Int)).set
 (60 :
 Nat)
 (2 :
 Int)).set
 (61 :
 Nat)
 (64 :
 Int)).set
 (62 :
 Nat)
 (16 :
 Int)).set
 (63 :
 Nat)
 (1 :
 Int)).set
 (64 :
 Nat)
 (2 :
 Int)).set
 (65 : Nat)
 (3 :
 Int)).set
 (66 : Nat)
 (4 : Int)).set
 (67 : Nat)
 (5 : Int)).set
 (68 : Nat)
 (6 : Int)).set
 (69 : Nat) (1 : Int)).set
 (70 : Nat) (2 : Int)).set
 (71 : Nat) (3 : Int)).set
 (72 : Nat) (4 : Int)).set
 (73 : Nat) (5 : Int)).set
 (74 : Nat) (6 : Int)).set
 (75 : Nat) (7 : Int)).set
 (76 : Nat) (4 : Int)).set
 (77 : Nat) (16 : Int)).set
 (78 : Nat) (1 : Int)).set
 (79 : Nat) (2 : Int)).set
 (80 : Nat) (3 : Int)).set
 (81 : Nat) (1 : Int)).set
 (82 : Nat) (2 : Int)).set
 (83 : Nat) (3 : Int)).set
 (84 : Nat) (4 : Int)).set
 (85 : Nat) (5 : Int)).set
 (86 : Nat) (6 : Int)).set
 (87 : Nat) (5 : Int)).set
 (88 : Nat) (8 : Int)).set
 (89 : Nat) (511 : Int)).set
 (90 : Nat) (32 : Int)).set
 (91 : Nat) (16 : Int)).set
 (92 : Nat) (64 : Int)).set
 (93 : Nat) (2 : Int) ∧
 ((((((((((((((((((((((((((((((((((((((((((((((((((((((((((((((((((((((((((((((((((((((((((((((List.replicate (94 : Nat)
 (0 :
 Int)).set
 (0 :
 Nat)
 (256 :
 Int)).set
 (1 :
 Nat)
 (32 :
 Int)).set
 (2 :
 Nat)
 (8 :
 Int)).set
 (3 :
 Nat)
 (24 :
 Int)).set
 (4 :
 Nat)
 (400 :
 Int)).set
 (5 :
 Nat)
 (1099511627776 :
 Int)).set
 (6 :
 Nat)
 (1 :
 Int)).set
 (7 :
 Nat)
 (2 :
 Int)).set
 (8 :
 Nat)
 (3 :
 Int)).set
 (9 :
 Nat)
 (4 :
 Int)).set
 (10 :
 Nat)
 (1 :
 Int)).set
 (11 :
 Nat)
 (2 :
 Int)).set
 (12 :
 Nat)
 (3 :
 Int)).set
 (13 :
 Nat)
 (4 :
 Int)).set
 (14 :
 Nat)
 (5 :
 Int)).set
 (15 :
 Nat)
 (1 :
 Int)).set
 (16 :
 Nat)
 (2 :
 Int)).set
 (17 :
 Nat)
 (3 :
 Int)).set
 (18 :
 Nat)
 (1 :
 Int)).set
 (19 :
 Nat)
 (2 :
 Int)).set
 (20 :
 Nat)
 (3 :
 Int)).set
 (21 :
 Nat)
 (1 :
 Int)).set
 (22 :
 Nat)
 (2 :
 Int)).set
 (23 :
 Nat)
 (3 :
 Int)).set
 (24 :
 Nat)
 (4 :
 Int)).set
 (25 :
 Nat)
 (1 :
 Int)).set
 (26 :
 Nat)
 (2 :
 Int)).set
 (27 :
 Nat)
 (0 :
 Int)).set
 (28 :
 Nat)
 (1 :
 Int)).set
 (29 :
 Nat)
 (2 :
 Int)).set
 (30 :
 Nat)
 (1 :
 Int)).set
 (31 :
 Nat)
 (2 :
 Int)).set
 (32 :
 Nat)
 (3 :
 Int)).set
 (33 :
 Nat)
 (1 :
 Int)).set
 (34 :
 Nat)
 (2 :
 Int)).set
 (35 :
 Nat)
 (3 :
 Int)).set
 (36 :
 Nat)
 (4 :
 Int)).set
 (37 :
 Nat)
 (5 :
 Int)).set
 (38 :
 Nat)
 (1 :
 Int)).set
 (39 :
 Nat)
 (2 :
 Int)).set
 (40 :
 Nat)
 (3 :
 Int)).set
 (41 :
 Nat)
 (4 :
 Int)).set
 (42 :
 Nat)
 (1 :
 Int)).set
 (43 :
 Nat)
 (2 :
 Int)).set
 (44 :
 Nat)
 (3 :
 Int)).set
 (45 :
 Nat)
 (4 :
 Int)).set
 (46 :
 Nat)
 (5 :
 Int)).set
 (47 :
 Nat)
 (1 :
 Int)).set
 (48 :
 Nat)
 (2 :
 Int)).set
 (49 :
 Nat)
 (3 :
 Int)).set
 (50 :
 Nat)
 (4 :
 Int)).set
 (51 :
 Nat)
 (8 :
 Int)).set
 (52 :
 Nat)
 (21 :
 Int)).set
 (53 :
 Nat)
 (4 :
 Int)).set
 (54 :
 Nat)
 (10 :
 Int)).set
 (55 :
 Nat)
 (23 :
 Int)).set
 (56 :
 Nat)
 (1 :
 Int)).set
 (57 :
 Nat)
 (2 :
 Int)).set
 (58 :
 Nat)
 (3 :
 Int)).set
 (59 :
 Nat)
 (1 :
 Int)).set
 (60 :
 Nat)
 (2 :
 Int)).set
 (61 :
 Nat)
 (64 :
 Int)).set
 (62 :
 Nat)
 (16 :
 Int)).set
 (63 :
 Nat)
 (1 :
 Int)).set
 (64 :
 Nat)
 (2 :
 Int)).set
 (65 : Nat)
 (3 :
 Int)).set
 (66 : Nat)
 (4 : Int)).set
 (67 : Nat)
 (5 : Int)).set
 (68 : Nat)
 (6 : Int)).set
 (69 : Nat) (1 : Int)).set
 (70 : Nat) (2 : Int)).set
 (71 : Nat) (3 : Int)).set
 (72 : Nat) (4 : Int)).set
 (73 : Nat) (5 : Int)).set
 (74 : Nat) (6 : Int)).set
 (75 : Nat) (7 : Int)).set
 (76 : Nat) (4 : Int)).set
 (77 : Nat) (16 : Int)).set
 (78 : Nat) (1 : Int)).set
 (79 : Nat) (2 : Int)).set
 (80 : Nat) (3 : Int)).set
 (81 : Nat) (1 : Int)).set
 (82 : Nat) (2 : Int)).set
 (83 : Nat) (3 : Int)).set
 (84 : Nat) (4 : Int)).set
 (85 : Nat) (5 : Int)).set
 (86 : Nat) (6 : Int)).set
 (87 : Nat) (5 : Int)).set
 (88 : Nat) (8 : Int)).set
 (89 : Nat) (511 : Int)).set
 (90 : Nat) (32 : Int)).set
 (91 : Nat) (16 : Int)).set
 (92 : Nat) (64 : Int)).set
 (93 : Nat) (2 : Int) =
 ((((((((((((((((((((((((((((((((((((((((((((((((((((((((((((((((((((((((((((((((((((((((((((((List.replicate (94 : Nat)
 (0 :
 Int)).set
 (0 :
 Nat)
 (256 :
 Int)).set
 (1 :
 Nat)
 (32 :
 Int)).set
 (2 :
 Nat)
 (8 :
 Int)).set
 (3 :
 Nat)
 (24 :
 Int)).set
 (4 :
 Nat)
 (400 :
 Int)).set
 (5 :
 Nat)
 (1099511627776 :
 Int)).set
 (6 :
 Nat)
 (1 :
 Int)).set
 (7 :
 Nat)
 (2 :
 Int)).set
 (8 :
 Nat)
 (3 :
 Int)).set
 (9 :
 Nat)
 (4 :
 Int)).set
 (10 :
 Nat)
 (1 :
 Int)).set
 (11 :
 Nat)
 (2 :
 Int)).set
 (12 :
 Nat)
 (3 :
 Int)).set
 (13 :
 Nat)
 (4 :
 Int)).set
 (14 :
 Nat)
 (5 :
 Int)).set
 (15 :
 Nat)
 (1 :
 Int)).set
 (16 :
 Nat)
 (2 :
 Int)).set
 (17 :
 Nat)
 (3 :
 Int)).set
 (18 :
 Nat)
 (1 :
 Int)).set
 (19 :
 Nat)
 (2 :
 Int)).set
 (20 :
 Nat)
 (3 :
 Int)).set
 (21 :
 Nat)
 (1 :
 Int)).set
 (22 :
 Nat)
 (2 :
 Int)).set
 (23 :
 Nat)
 (3 :
 Int)).set
 (24 :
 Nat)
 (4 :
 Int)).set
 (25 :
 Nat)
 (1 :
 Int)).set
 (26 :
 Nat)
 (2 :
 Int)).set
 (27 :
 Nat)
 (0 :
 Int)).set
 (28 :
 Nat)
 (1 :
 Int)).set
 (29 :
 Nat)
 (2 :
 Int)).set
 (30 :
 Nat)
 (1 :
 Int)).set
 (31 :
 Nat)
 (2 :
 Int)).set
 (32 :
 Nat)
 (3 :
 Int)).set
 (33 :
 Nat)
 (1 :
 Int)).set
 (34 :
 Nat)
 (2 :
 Int)).set
 (35 :
 Nat)
 (3 :
 Int)).set
 (36 :
 Nat)
 (4 :
 Int)).set
 (37 :
 Nat)
 (5 :
 Int)).set
 (38 :
 Nat)
 (1 :
 Int)).set
 (39 :
 Nat)
 (2 :
 Int)).set
 (40 :
 Nat)
 (3 :
 Int)).set
 (41 :
 Nat)
 (4 :
 Int)).set
 (42 :
 Nat)
 (1 :
 Int)).set
 (43 :
 Nat)
 (2 :
 Int)).set
 (44 :
 Nat)
 (3 :
 Int)).set
 (45 :
 Nat)
 (4 :
 Int)).set
 (46 :
 Nat)
 (5 :
 Int)).set
 (47 :
 Nat)
 (1 :
 Int)).set
 (48 :
 Nat)
 (2 :
 Int)).set
 (49 :
 Nat)
 (3 :
 Int)).set
 (50 :
 Nat)
 (4 :
 Int)).set
 (51 :
 Nat)
 (8 :
 Int)).set
 (52 :
 Nat)
 (21 :
 Int)).set
 (53 :
 Nat)
 (4 :
 Int)).set
 (54 :
 Nat)
 (10 :
 Int)).set
 (55 :
 Nat)
 (23 :
 Int)).set
 (56 :
 Nat)
 (1 :
 Int)).set
 (57 :
 Nat)
 (2 :
 Int)).set
 (58 :
 Nat)
 (3 :
 Int)).set
 (59 :
 Nat)
 (1 :
 Int)).set
 (60 :
 Nat)
 (2 :
 Int)).set
 (61 :
 Nat)
 (64 :
 Int)).set
 (62 :
 Nat)
 (16 :
 Int)).set
 (63 :
 Nat)
 (1 :
 Int)).set
 (64 :
 Nat)
 (2 :
 Int)).set
 (65 : Nat)
 (3 :
 Int)).set
 (66 : Nat)
 (4 : Int)).set
 (67 : Nat)
 (5 : Int)).set
 (68 : Nat)
 (6 : Int)).set
 (69 : Nat) (1 : Int)).set
 (70 : Nat) (2 : Int)).set
 (71 : Nat) (3 : Int)).set
 (72 : Nat) (4 : Int)).set
 (73 : Nat) (5 : Int)).set
 (74 : Nat) (6 : Int)).set
 (75 : Nat) (7 : Int)).set
 (76 : Nat) (4 : Int)).set
 (77 : Nat) (16 : Int)).set
 (78 : Nat) (1 : Int)).set
 (79 : Nat) (2 : Int)).set
 (80 : Nat) (3 : Int)).set
 (81 : Nat) (1 : Int)).set
 (82 : Nat) (2 : Int)).set
 (83 : Nat) (3 : Int)).set
 (84 : Nat) (4 : Int)).set
 (85 : Nat) (5 : Int)).set
 (86 : Nat) (6 : Int)).set
 (87 : Nat) (5 : Int)).set
 (88 : Nat) (8 : Int)).set
 (89 : Nat) (511 : Int)).set
 (90 : Nat) (32 : Int)).set
 (91 : Nat) (16 : Int)).set
 (92 : Nat) (64 : Int)).set
 (93 : Nat) (2 : Int) ∧
 True) ∧
 True) ∧
 ∀ (g : List Int × List Int × Int × Int × Unit),
 g.fst = want ∧ g.snd.fst = want ∧ g.snd.snd.fst = (94 : Int) ∧ (0 : Int) ≤ g.snd.snd.snd.fst ∧ g.snd.snd.snd.fst ≤ (94 : Int) →
 (g.fst.length ≤ (9223372036854775807 : Nat) ∧
 ∀ (x : Int), x ∈ g.fst → (-9223372036854775808 : Int) ≤ x ∧ x ≤ (9223372036854775807 : Int)) ∧
 (g.snd.fst.length ≤ (9223372036854775807 : Nat) ∧
 ∀ (x : Int), x ∈ g.snd.fst → (-9223372036854775808 : Int) ≤ x ∧ x ≤ (9223372036854775807 : Int)) ∧
 ((-9223372036854775808 : Int) ≤ g.snd.snd.fst ∧ g.snd.snd.fst ≤ (9223372036854775807 : Int)) ∧
 ((-9223372036854775808 : Int) ≤ g.snd.snd.snd.fst ∧ g.snd.snd.snd.fst ≤ (9223372036854775807 : Int)) ∧ True →
 (decide (g.snd.snd.snd.fst < g.snd.snd.fst) = true →
 ((0 : Int) ≤ g.snd.snd.snd.fst ∧ g.snd.snd.snd.fst < (↑g.fst.length : Int)) ∧
 ((0 : Int) ≤ g.snd.snd.snd.fst ∧ g.snd.snd.snd.fst < (↑g.snd.fst.length : Int)) ∧
 ((g.fst.getD g.snd.snd.snd.fst.toNat (0 : Int) != g.snd.fst.getD g.snd.snd.snd.fst.toNat (0 : Int)) = true →
 false = true) ∧
 ((g.fst.getD g.snd.snd.snd.fst.toNat (0 : Int) != g.snd.fst.getD g.snd.snd.snd.fst.toNat (0 : Int)) = false →
 ((-9223372036854775808 : Int) ≤ g.snd.snd.snd.fst + (1 : Int) ∧
 g.snd.snd.snd.fst + (1 : Int) ≤ (9223372036854775807 : Int)) ∧
 ((g.fst = want ∧
 g.snd.fst = want ∧
 g.snd.snd.fst = (94 : Int) ∧
 (0 : Int) ≤ g.snd.snd.snd.fst + (1 : Int) ∧ g.snd.snd.snd.fst + (1 : Int) ≤ (94 : Int)) ∧
 ((94 : Int) - (g.snd.snd.snd.fst + (1 : Int))).toNat < ((94 : Int) - g.snd.snd.snd.fst).toNat) ∧
 (True ∧
 True ∧ g.snd.snd.fst = g.snd.snd.fst ∧ g.snd.snd.snd.fst + (1 : Int) = g.snd.snd.snd.fst + (1 : Int) ∧ True) ∧
 (g.fst = g.fst ∧ g.snd.fst = g.snd.fst ∧ True) ∧ True)) ∧
 (decide (g.snd.snd.snd.fst < g.snd.snd.fst) = false → true = true))

theorem E_names_eq (x : HL (cLaw : Ctr).as) : vc (fx_names x) 1 14 Try.f14 (cLaw) x = E_names x := by kernel_rfl

end Go.Proofs.Ytollphjlheabdaa.Nam
