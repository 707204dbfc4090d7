/-
  The conditions that the executor comes to, written out (by a tool of ours), and that they are the conditions (by the kernel).
-/
import Derived.Test.YtollphjlheabdaaClkC
namespace Go.Proofs.Ytollphjlheabdaa.Clk
open Go.Sx
set_option maxRecDepth 100000

def E_equal (x : List Int × List Int × Unit) : Prop :=
  (((↑x.fst.length : Int) != (↑x.snd.fst.length : Int)) = true → false = decide (x.fst = x.snd.fst)) ∧
    (((↑x.fst.length : Int) != (↑x.snd.fst.length : Int)) = false →
      ((((0 : Int) ≤ (0 : Int) ∧
              (0 : Int) ≤ (↑x.fst.length : Int) ∧ List.take (Int.toNat (0 : Int)) x.fst = List.take (Int.toNat (0 : Int)) x.snd.fst) ∧
            True) ∧
          (x.fst = x.fst ∧ x.snd.fst = x.snd.fst ∧ (↑x.fst.length : Int) = (↑x.fst.length : Int) ∧ (0 : Int) = (0 : Int) ∧ True) ∧ True ∧ True) ∧
        ∀ (g : Int × Unit),
          (0 : Int) ≤ g.fst ∧ g.fst ≤ (↑x.fst.length : Int) ∧ List.take g.fst.toNat x.fst = List.take g.fst.toNat x.snd.fst →
            (decide (g.fst < (↑x.fst.length : Int)) = true →
                ((0 : Int) ≤ g.fst ∧ g.fst < (↑x.fst.length : Int)) ∧
                  ((0 : Int) ≤ g.fst ∧ g.fst < (↑x.snd.fst.length : Int)) ∧
                    ((x.fst.getD g.fst.toNat (0 : Int) != x.snd.fst.getD g.fst.toNat (0 : Int)) = true → false = decide (x.fst = x.snd.fst)) ∧
                      ((x.fst.getD g.fst.toNat (0 : Int) != x.snd.fst.getD g.fst.toNat (0 : Int)) = false →
                        ((-9223372036854775808 : Int) ≤ g.fst + (1 : Int) ∧ g.fst + (1 : Int) ≤ (9223372036854775807 : Int)) ∧
                          (((0 : Int) ≤ g.fst + (1 : Int) ∧
                                g.fst + (1 : Int) ≤ (↑x.fst.length : Int) ∧
                                  List.take (g.fst + (1 : Int)).toNat x.fst = List.take (g.fst + (1 : Int)).toNat x.snd.fst) ∧
                              ((↑x.fst.length : Int) - (g.fst + (1 : Int))).toNat < ((↑x.fst.length : Int) - g.fst).toNat) ∧
                            (x.fst = x.fst ∧
                                x.snd.fst = x.snd.fst ∧ (↑x.fst.length : Int) = (↑x.fst.length : Int) ∧ g.fst + (1 : Int) = g.fst + (1 : Int) ∧ True) ∧
                              True ∧ True)) ∧
              (decide (g.fst < (↑x.fst.length : Int)) = false → true = decide (x.fst = x.snd.fst)))

theorem E_equal_eq (x : HL (cEqual : Ctr).as) : vc (fx_equal x) 1 20 Try.f20 (cEqual) x = E_equal x := by kernel_rfl

def E_ext (x : List Int × Unit) : Prop :=
  ((((↑([] : List Int).length : Int) = (0 : Int) ∧
          (0 : Int) ≤ (0 : Int) ∧
            (0 : Int) ≤ (↑x.fst.length : Int) ∧
              (List.take (Int.toNat (0 : Int)) x.fst).all inR = true ∧
                W (List.take (Int.toNat (0 : Int)) x.fst) = ((0 / 65536 : Int), (0 : Int) % (65536 : Int), ([] : List Int)) ∧
                  (0 : Int) ≤ (0 : Int) ∧ (0 / 65536 : Int) ≤ (0 : Int)) ∧
        True) ∧
      (True ∧ (0 : Int) = (0 : Int) ∧ x.fst = x.fst ∧ (↑x.fst.length : Int) = (↑x.fst.length : Int) ∧ (0 : Int) = (0 : Int) ∧ True) ∧
        (([] : List Int) = ([] : List Int) ∧ True) ∧ True) ∧
    ∀ (g : List Int × Int × Int × Unit),
      (↑g.fst.length : Int) = g.snd.snd.fst ∧
          (0 : Int) ≤ g.snd.snd.fst ∧
            g.snd.snd.fst ≤ (↑x.fst.length : Int) ∧
              (List.take g.snd.snd.fst.toNat x.fst).all inR = true ∧
                W (List.take g.snd.snd.fst.toNat x.fst) = (g.snd.fst / (65536 : Int), g.snd.fst % (65536 : Int), g.fst) ∧
                  (0 : Int) ≤ g.snd.fst ∧ g.snd.fst / (65536 : Int) ≤ g.snd.snd.fst →
        (decide (g.snd.snd.fst < (↑x.fst.length : Int)) = true →
            ((0 : Int) ≤ g.snd.snd.fst ∧ g.snd.snd.fst < (↑x.fst.length : Int)) ∧
              (decide (x.fst.getD g.snd.snd.fst.toNat (0 : Int) < (0 : Int)) = false →
                  (decide ((65536 : Int) ≤ x.fst.getD g.snd.snd.fst.toNat (0 : Int)) = true →
                      ([] : List Int) = (ext x.fst).fst ∧ (2 : Int) = (ext x.fst).snd.fst) ∧
                    (decide ((65536 : Int) ≤ x.fst.getD g.snd.snd.fst.toNat (0 : Int)) = false →
                      ((g.snd.snd.fst == (0 : Int)) = true →
                          (g.fst.length + (((0 : Int) :: ([] : List Int)).set (0 : Nat) (x.fst.getD g.snd.snd.fst.toNat (0 : Int))).length ≤
                                (9223372036854775807 : Nat) ∧
                              (g.fst.length + (((0 : Int) :: ([] : List Int)).set (0 : Nat) (x.fst.getD g.snd.snd.fst.toNat (0 : Int))).length) *
                                  (8 : Nat) ≤
                                (140737488355328 : Nat)) ∧
                            ((-9223372036854775808 : Int) ≤ g.snd.snd.fst + (1 : Int) ∧ g.snd.snd.fst + (1 : Int) ≤ (9223372036854775807 : Int)) ∧
                              (((↑(g.fst ++ ((0 : Int) :: ([] : List Int)).set (0 : Nat) (x.fst.getD g.snd.snd.fst.toNat (0 : Int))).length : Int) =
                                      g.snd.snd.fst + (1 : Int) ∧
                                    (0 : Int) ≤ g.snd.snd.fst + (1 : Int) ∧
                                      g.snd.snd.fst + (1 : Int) ≤ (↑x.fst.length : Int) ∧
                                        (List.take (g.snd.snd.fst + (1 : Int)).toNat x.fst).all inR = true ∧
                                          W (List.take (g.snd.snd.fst + (1 : Int)).toNat x.fst) =
                                              (x.fst.getD g.snd.snd.fst.toNat (0 : Int) / (65536 : Int),
                                                x.fst.getD g.snd.snd.fst.toNat (0 : Int) % (65536 : Int),
                                                g.fst ++ ((0 : Int) :: ([] : List Int)).set (0 : Nat) (x.fst.getD g.snd.snd.fst.toNat (0 : Int))) ∧
                                            (0 : Int) ≤ x.fst.getD g.snd.snd.fst.toNat (0 : Int) ∧
                                              x.fst.getD g.snd.snd.fst.toNat (0 : Int) / (65536 : Int) ≤ g.snd.snd.fst + (1 : Int)) ∧
                                  ((↑x.fst.length : Int) - (g.snd.snd.fst + (1 : Int))).toNat < ((↑x.fst.length : Int) - g.snd.snd.fst).toNat) ∧
                                (True ∧
                                    x.fst.getD g.snd.snd.fst.toNat (0 : Int) = x.fst.getD g.snd.snd.fst.toNat (0 : Int) ∧
                                      x.fst = x.fst ∧
                                        (↑x.fst.length : Int) = (↑x.fst.length : Int) ∧ g.snd.snd.fst + (1 : Int) = g.snd.snd.fst + (1 : Int) ∧ True) ∧
                                  (g.fst ++ ((0 : Int) :: ([] : List Int)).set (0 : Nat) (x.fst.getD g.snd.snd.fst.toNat (0 : Int)) =
                                        g.fst ++ ((0 : Int) :: ([] : List Int)).set (0 : Nat) (x.fst.getD g.snd.snd.fst.toNat (0 : Int)) ∧
                                      True) ∧
                                    True) ∧
                        ((g.snd.snd.fst == (0 : Int)) = false →
                          (((0 : Int) ≤ g.snd.fst ∧ (0 : Int) < (65536 : Int)) ∧
                              (-9223372036854775808 : Int) ≤ g.snd.fst % (65536 : Int) ∧ g.snd.fst % (65536 : Int) ≤ (9223372036854775807 : Int)) ∧
                            ((-9223372036854775808 : Int) ≤ x.fst.getD g.snd.snd.fst.toNat (0 : Int) - g.snd.fst % (65536 : Int) ∧
                                x.fst.getD g.snd.snd.fst.toNat (0 : Int) - g.snd.fst % (65536 : Int) ≤ (9223372036854775807 : Int)) ∧
                              ((-9223372036854775808 : Int) ≤ x.fst.getD g.snd.snd.fst.toNat (0 : Int) - g.snd.fst % (65536 : Int) + (65536 : Int) ∧
                                  x.fst.getD g.snd.snd.fst.toNat (0 : Int) - g.snd.fst % (65536 : Int) + (65536 : Int) ≤ (9223372036854775807 : Int)) ∧
                                (((0 : Int) ≤ x.fst.getD g.snd.snd.fst.toNat (0 : Int) - g.snd.fst % (65536 : Int) + (65536 : Int) ∧
                                      (0 : Int) < (65536 : Int)) ∧
                                    (-9223372036854775808 : Int) ≤
                                        (x.fst.getD g.snd.snd.fst.toNat (0 : Int) - g.snd.fst % (65536 : Int) + (65536 : Int)) % (65536 : Int) ∧
                                      (x.fst.getD g.snd.snd.fst.toNat (0 : Int) - g.snd.fst % (65536 : Int) + (65536 : Int)) % (65536 : Int) ≤
                                        (9223372036854775807 : Int)) ∧
                                  ((-9223372036854775808 : Int) ≤
                                        g.snd.fst +
                                          (x.fst.getD g.snd.snd.fst.toNat (0 : Int) - g.snd.fst % (65536 : Int) + (65536 : Int)) % (65536 : Int) ∧
                                      g.snd.fst +
                                          (x.fst.getD g.snd.snd.fst.toNat (0 : Int) - g.snd.fst % (65536 : Int) + (65536 : Int)) % (65536 : Int) ≤
                                        (9223372036854775807 : Int)) ∧
                                    (g.fst.length +
                                            (((0 : Int) :: ([] : List Int)).set (0 : Nat)
                                                (g.snd.fst +
                                                  (x.fst.getD g.snd.snd.fst.toNat (0 : Int) - g.snd.fst % (65536 : Int) + (65536 : Int)) %
                                                    (65536 : Int))).length ≤
                                          (9223372036854775807 : Nat) ∧
                                        (g.fst.length +
                                              (((0 : Int) :: ([] : List Int)).set (0 : Nat)
                                                  (g.snd.fst +
                                                    (x.fst.getD g.snd.snd.fst.toNat (0 : Int) - g.snd.fst % (65536 : Int) + (65536 : Int)) %
                                                      (65536 : Int))).length) *
                                            (8 : Nat) ≤
                                          (140737488355328 : Nat)) ∧
                                      ((-9223372036854775808 : Int) ≤ g.snd.snd.fst + (1 : Int) ∧
                                          g.snd.snd.fst + (1 : Int) ≤ (9223372036854775807 : Int)) ∧
                                        (((↑(g.fst ++
                                                        ((0 : Int) :: ([] : List Int)).set (0 : Nat)
                                                          (g.snd.fst +
                                                            (x.fst.getD g.snd.snd.fst.toNat (0 : Int) - g.snd.fst % (65536 : Int) + (65536 : Int)) %
                                                              (65536 : Int))).length :
                                                  Int) =
                                                g.snd.snd.fst + (1 : Int) ∧
                                              (0 : Int) ≤ g.snd.snd.fst + (1 : Int) ∧
                                                g.snd.snd.fst + (1 : Int) ≤ (↑x.fst.length : Int) ∧
                                                  (List.take (g.snd.snd.fst + (1 : Int)).toNat x.fst).all inR = true ∧
                                                    W (List.take (g.snd.snd.fst + (1 : Int)).toNat x.fst) =
                                                        ((g.snd.fst +
                                                              (x.fst.getD g.snd.snd.fst.toNat (0 : Int) - g.snd.fst % (65536 : Int) + (65536 : Int)) %
                                                                (65536 : Int)) /
                                                            (65536 : Int),
                                                          (g.snd.fst +
                                                              (x.fst.getD g.snd.snd.fst.toNat (0 : Int) - g.snd.fst % (65536 : Int) + (65536 : Int)) %
                                                                (65536 : Int)) %
                                                            (65536 : Int),
                                                          g.fst ++
                                                            ((0 : Int) :: ([] : List Int)).set (0 : Nat)
                                                              (g.snd.fst +
                                                                (x.fst.getD g.snd.snd.fst.toNat (0 : Int) - g.snd.fst % (65536 : Int) + (65536 : Int)) %
                                                                  (65536 : Int))) ∧
                                                      (0 : Int) ≤
                                                          g.snd.fst +
                                                            (x.fst.getD g.snd.snd.fst.toNat (0 : Int) - g.snd.fst % (65536 : Int) + (65536 : Int)) %
                                                              (65536 : Int) ∧
                                                        (g.snd.fst +
                                                              (x.fst.getD g.snd.snd.fst.toNat (0 : Int) - g.snd.fst % (65536 : Int) + (65536 : Int)) %
                                                                (65536 : Int)) /
                                                            (65536 : Int) ≤
                                                          g.snd.snd.fst + (1 : Int)) ∧
                                            ((↑x.fst.length : Int) - (g.snd.snd.fst + (1 : Int))).toNat <
                                              ((↑x.fst.length : Int) - g.snd.snd.fst).toNat) ∧
                                          (True ∧
                                              g.snd.fst +
                                                    (x.fst.getD g.snd.snd.fst.toNat (0 : Int) - g.snd.fst % (65536 : Int) + (65536 : Int)) %
                                                      (65536 : Int) =
                                                  g.snd.fst +
                                                    (x.fst.getD g.snd.snd.fst.toNat (0 : Int) - g.snd.fst % (65536 : Int) + (65536 : Int)) %
                                                      (65536 : Int) ∧
                                                x.fst = x.fst ∧
                                                  (↑x.fst.length : Int) = (↑x.fst.length : Int) ∧
                                                    g.snd.snd.fst + (1 : Int) = g.snd.snd.fst + (1 : Int) ∧ True) ∧
                                            (g.fst ++
                                                    ((0 : Int) :: ([] : List Int)).set (0 : Nat)
                                                      (g.snd.fst +
                                                        (x.fst.getD g.snd.snd.fst.toNat (0 : Int) - g.snd.fst % (65536 : Int) + (65536 : Int)) %
                                                          (65536 : Int)) =
                                                  g.fst ++
                                                    ((0 : Int) :: ([] : List Int)).set (0 : Nat)
                                                      (g.snd.fst +
                                                        (x.fst.getD g.snd.snd.fst.toNat (0 : Int) - g.snd.fst % (65536 : Int) + (65536 : Int)) %
                                                          (65536 : Int)) ∧
                                                True) ∧
                                              True))) ∧
                (decide (x.fst.getD g.snd.snd.fst.toNat (0 : Int) < (0 : Int)) = !false →
                  ([] : List Int) = (ext x.fst).fst ∧ (2 : Int) = (ext x.fst).snd.fst)) ∧
          (decide (g.snd.snd.fst < (↑x.fst.length : Int)) = false → g.fst = (ext x.fst).fst ∧ (0 : Int) = (ext x.fst).snd.fst)

theorem E_ext_eq (x : HL (cExt : Ctr).as) : vc (fx_ext x) 1 23 Try.f23 (cExt) x = E_ext x := by kernel_rfl

def E_wext (x : List Int × Unit) : Prop :=
  ((((↑([] : List Int).length : Int) = (0 : Int) ∧
          (0 : Int) ≤ (0 : Int) ∧
            (0 : Int) ≤ (↑x.fst.length : Int) ∧
              (List.take (Int.toNat (0 : Int)) x.fst).all inR = true ∧
                (W (List.take (Int.toNat (0 : Int)) x.fst)).fst = (0 : Int) ∧
                  (W (List.take (Int.toNat (0 : Int)) x.fst)).snd.snd = ([] : List Int) ∧ (0 : Int) ≤ (0 : Int) ∧ (0 : Int) ≤ (0 : Int)) ∧
        True) ∧
      (x.fst = x.fst ∧ True ∧ (0 : Int) = (0 : Int) ∧ x.fst = x.fst ∧ (↑x.fst.length : Int) = (↑x.fst.length : Int) ∧ (0 : Int) = (0 : Int) ∧ True) ∧
        (([] : List Int) = ([] : List Int) ∧ True) ∧ True) ∧
    ∀ (g : List Int × Int × Int × Unit),
      (↑g.fst.length : Int) = g.snd.snd.fst ∧
          (0 : Int) ≤ g.snd.snd.fst ∧
            g.snd.snd.fst ≤ (↑x.fst.length : Int) ∧
              (List.take g.snd.snd.fst.toNat x.fst).all inR = true ∧
                (W (List.take g.snd.snd.fst.toNat x.fst)).fst = g.snd.fst ∧
                  (W (List.take g.snd.snd.fst.toNat x.fst)).snd.snd = g.fst ∧ (0 : Int) ≤ g.snd.fst ∧ g.snd.fst ≤ g.snd.snd.fst →
        (decide (g.snd.snd.fst < (↑x.fst.length : Int)) = true →
            ((0 : Int) ≤ g.snd.snd.fst ∧ g.snd.snd.fst < (↑x.fst.length : Int)) ∧
              (decide (x.fst.getD g.snd.snd.fst.toNat (0 : Int) < (0 : Int)) = false →
                  (decide ((65535 : Int) < x.fst.getD g.snd.snd.fst.toNat (0 : Int)) = true →
                      ([] : List Int) = (ext x.fst).fst ∧ (2 : Int) = (ext x.fst).snd.fst) ∧
                    (decide ((65535 : Int) < x.fst.getD g.snd.snd.fst.toNat (0 : Int)) = false →
                      (decide ((0 : Int) < g.snd.snd.fst) = true →
                          ((-9223372036854775808 : Int) ≤ g.snd.snd.fst - (1 : Int) ∧ g.snd.snd.fst - (1 : Int) ≤ (9223372036854775807 : Int)) ∧
                            ((0 : Int) ≤ g.snd.snd.fst - (1 : Int) ∧ g.snd.snd.fst - (1 : Int) < (↑x.fst.length : Int)) ∧
                              (decide (x.fst.getD g.snd.snd.fst.toNat (0 : Int) < x.fst.getD (g.snd.snd.fst - (1 : Int)).toNat (0 : Int)) = true →
                                  ((-9223372036854775808 : Int) ≤ g.snd.fst + (1 : Int) ∧ g.snd.fst + (1 : Int) ≤ (9223372036854775807 : Int)) ∧
                                    ((-9223372036854775808 : Int) ≤ (g.snd.fst + (1 : Int)) * (65536 : Int) ∧
                                        (g.snd.fst + (1 : Int)) * (65536 : Int) ≤ (9223372036854775807 : Int)) ∧
                                      ((-9223372036854775808 : Int) ≤
                                            (g.snd.fst + (1 : Int)) * (65536 : Int) + x.fst.getD g.snd.snd.fst.toNat (0 : Int) ∧
                                          (g.snd.fst + (1 : Int)) * (65536 : Int) + x.fst.getD g.snd.snd.fst.toNat (0 : Int) ≤
                                            (9223372036854775807 : Int)) ∧
                                        (g.fst.length +
                                                (((0 : Int) :: ([] : List Int)).set (0 : Nat)
                                                    ((g.snd.fst + (1 : Int)) * (65536 : Int) + x.fst.getD g.snd.snd.fst.toNat (0 : Int))).length ≤
                                              (9223372036854775807 : Nat) ∧
                                            (g.fst.length +
                                                  (((0 : Int) :: ([] : List Int)).set (0 : Nat)
                                                      ((g.snd.fst + (1 : Int)) * (65536 : Int) + x.fst.getD g.snd.snd.fst.toNat (0 : Int))).length) *
                                                (8 : Nat) ≤
                                              (140737488355328 : Nat)) ∧
                                          ((-9223372036854775808 : Int) ≤ g.snd.snd.fst + (1 : Int) ∧
                                              g.snd.snd.fst + (1 : Int) ≤ (9223372036854775807 : Int)) ∧
                                            (((↑(g.fst ++
                                                            ((0 : Int) :: ([] : List Int)).set (0 : Nat)
                                                              ((g.snd.fst + (1 : Int)) * (65536 : Int) +
                                                                x.fst.getD g.snd.snd.fst.toNat (0 : Int))).length :
                                                      Int) =
                                                    g.snd.snd.fst + (1 : Int) ∧
                                                  (0 : Int) ≤ g.snd.snd.fst + (1 : Int) ∧
                                                    g.snd.snd.fst + (1 : Int) ≤ (↑x.fst.length : Int) ∧
                                                      (List.take (g.snd.snd.fst + (1 : Int)).toNat x.fst).all inR = true ∧
                                                        (W (List.take (g.snd.snd.fst + (1 : Int)).toNat x.fst)).fst = g.snd.fst + (1 : Int) ∧
                                                          (W (List.take (g.snd.snd.fst + (1 : Int)).toNat x.fst)).snd.snd =
                                                              g.fst ++
                                                                ((0 : Int) :: ([] : List Int)).set (0 : Nat)
                                                                  ((g.snd.fst + (1 : Int)) * (65536 : Int) + x.fst.getD g.snd.snd.fst.toNat (0 : Int)) ∧
                                                            (0 : Int) ≤ g.snd.fst + (1 : Int) ∧ g.snd.fst + (1 : Int) ≤ g.snd.snd.fst + (1 : Int)) ∧
                                                ((↑x.fst.length : Int) - (g.snd.snd.fst + (1 : Int))).toNat <
                                                  ((↑x.fst.length : Int) - g.snd.snd.fst).toNat) ∧
                                              (x.fst = x.fst ∧
                                                  True ∧
                                                    g.snd.fst + (1 : Int) = g.snd.fst + (1 : Int) ∧
                                                      x.fst = x.fst ∧
                                                        (↑x.fst.length : Int) = (↑x.fst.length : Int) ∧
                                                          g.snd.snd.fst + (1 : Int) = g.snd.snd.fst + (1 : Int) ∧ True) ∧
                                                (g.fst ++
                                                        ((0 : Int) :: ([] : List Int)).set (0 : Nat)
                                                          ((g.snd.fst + (1 : Int)) * (65536 : Int) + x.fst.getD g.snd.snd.fst.toNat (0 : Int)) =
                                                      g.fst ++
                                                        ((0 : Int) :: ([] : List Int)).set (0 : Nat)
                                                          ((g.snd.fst + (1 : Int)) * (65536 : Int) + x.fst.getD g.snd.snd.fst.toNat (0 : Int)) ∧
                                                    True) ∧
                                                  True) ∧
                                (decide (x.fst.getD g.snd.snd.fst.toNat (0 : Int) < x.fst.getD (g.snd.snd.fst - (1 : Int)).toNat (0 : Int)) = false →
                                  ((-9223372036854775808 : Int) ≤ g.snd.fst * (65536 : Int) ∧ g.snd.fst * (65536 : Int) ≤ (9223372036854775807 : Int)) ∧
                                    ((-9223372036854775808 : Int) ≤ g.snd.fst * (65536 : Int) + x.fst.getD g.snd.snd.fst.toNat (0 : Int) ∧
                                        g.snd.fst * (65536 : Int) + x.fst.getD g.snd.snd.fst.toNat (0 : Int) ≤ (9223372036854775807 : Int)) ∧
                                      (g.fst.length +
                                              (((0 : Int) :: ([] : List Int)).set (0 : Nat)
                                                  (g.snd.fst * (65536 : Int) + x.fst.getD g.snd.snd.fst.toNat (0 : Int))).length ≤
                                            (9223372036854775807 : Nat) ∧
                                          (g.fst.length +
                                                (((0 : Int) :: ([] : List Int)).set (0 : Nat)
                                                    (g.snd.fst * (65536 : Int) + x.fst.getD g.snd.snd.fst.toNat (0 : Int))).length) *
                                              (8 : Nat) ≤
                                            (140737488355328 : Nat)) ∧
                                        ((-9223372036854775808 : Int) ≤ g.snd.snd.fst + (1 : Int) ∧
                                            g.snd.snd.fst + (1 : Int) ≤ (9223372036854775807 : Int)) ∧
                                          (((↑(g.fst ++
                                                          ((0 : Int) :: ([] : List Int)).set (0 : Nat)
                                                            (g.snd.fst * (65536 : Int) + x.fst.getD g.snd.snd.fst.toNat (0 : Int))).length :
                                                    Int) =
                                                  g.snd.snd.fst + (1 : Int) ∧
                                                (0 : Int) ≤ g.snd.snd.fst + (1 : Int) ∧
                                                  g.snd.snd.fst + (1 : Int) ≤ (↑x.fst.length : Int) ∧
                                                    (List.take (g.snd.snd.fst + (1 : Int)).toNat x.fst).all inR = true ∧
                                                      (W (List.take (g.snd.snd.fst + (1 : Int)).toNat x.fst)).fst = g.snd.fst ∧
                                                        (W (List.take (g.snd.snd.fst + (1 : Int)).toNat x.fst)).snd.snd =
                                                            g.fst ++
                                                              ((0 : Int) :: ([] : List Int)).set (0 : Nat)
                                                                (g.snd.fst * (65536 : Int) + x.fst.getD g.snd.snd.fst.toNat (0 : Int)) ∧
                                                          (0 : Int) ≤ g.snd.fst ∧ g.snd.fst ≤ g.snd.snd.fst + (1 : Int)) ∧
                                              ((↑x.fst.length : Int) - (g.snd.snd.fst + (1 : Int))).toNat <
                                                ((↑x.fst.length : Int) - g.snd.snd.fst).toNat) ∧
                                            (x.fst = x.fst ∧
                                                True ∧
                                                  g.snd.fst = g.snd.fst ∧
                                                    x.fst = x.fst ∧
                                                      (↑x.fst.length : Int) = (↑x.fst.length : Int) ∧
                                                        g.snd.snd.fst + (1 : Int) = g.snd.snd.fst + (1 : Int) ∧ True) ∧
                                              (g.fst ++
                                                      ((0 : Int) :: ([] : List Int)).set (0 : Nat)
                                                        (g.snd.fst * (65536 : Int) + x.fst.getD g.snd.snd.fst.toNat (0 : Int)) =
                                                    g.fst ++
                                                      ((0 : Int) :: ([] : List Int)).set (0 : Nat)
                                                        (g.snd.fst * (65536 : Int) + x.fst.getD g.snd.snd.fst.toNat (0 : Int)) ∧
                                                  True) ∧
                                                True)) ∧
                        (decide ((0 : Int) < g.snd.snd.fst) = !true →
                          ((-9223372036854775808 : Int) ≤ g.snd.fst * (65536 : Int) ∧ g.snd.fst * (65536 : Int) ≤ (9223372036854775807 : Int)) ∧
                            ((-9223372036854775808 : Int) ≤ g.snd.fst * (65536 : Int) + x.fst.getD g.snd.snd.fst.toNat (0 : Int) ∧
                                g.snd.fst * (65536 : Int) + x.fst.getD g.snd.snd.fst.toNat (0 : Int) ≤ (9223372036854775807 : Int)) ∧
                              (g.fst.length +
                                      (((0 : Int) :: ([] : List Int)).set (0 : Nat)
                                          (g.snd.fst * (65536 : Int) + x.fst.getD g.snd.snd.fst.toNat (0 : Int))).length ≤
                                    (9223372036854775807 : Nat) ∧
                                  (g.fst.length +
                                        (((0 : Int) :: ([] : List Int)).set (0 : Nat)
                                            (g.snd.fst * (65536 : Int) + x.fst.getD g.snd.snd.fst.toNat (0 : Int))).length) *
                                      (8 : Nat) ≤
                                    (140737488355328 : Nat)) ∧
                                ((-9223372036854775808 : Int) ≤ g.snd.snd.fst + (1 : Int) ∧ g.snd.snd.fst + (1 : Int) ≤ (9223372036854775807 : Int)) ∧
                                  (((↑(g.fst ++
                                                  ((0 : Int) :: ([] : List Int)).set (0 : Nat)
                                                    (g.snd.fst * (65536 : Int) + x.fst.getD g.snd.snd.fst.toNat (0 : Int))).length :
                                            Int) =
                                          g.snd.snd.fst + (1 : Int) ∧
                                        (0 : Int) ≤ g.snd.snd.fst + (1 : Int) ∧
                                          g.snd.snd.fst + (1 : Int) ≤ (↑x.fst.length : Int) ∧
                                            (List.take (g.snd.snd.fst + (1 : Int)).toNat x.fst).all inR = true ∧
                                              (W (List.take (g.snd.snd.fst + (1 : Int)).toNat x.fst)).fst = g.snd.fst ∧
                                                (W (List.take (g.snd.snd.fst + (1 : Int)).toNat x.fst)).snd.snd =
                                                    g.fst ++
                                                      ((0 : Int) :: ([] : List Int)).set (0 : Nat)
                                                        (g.snd.fst * (65536 : Int) + x.fst.getD g.snd.snd.fst.toNat (0 : Int)) ∧
                                                  (0 : Int) ≤ g.snd.fst ∧ g.snd.fst ≤ g.snd.snd.fst + (1 : Int)) ∧
                                      ((↑x.fst.length : Int) - (g.snd.snd.fst + (1 : Int))).toNat < ((↑x.fst.length : Int) - g.snd.snd.fst).toNat) ∧
                                    (x.fst = x.fst ∧
                                        True ∧
                                          g.snd.fst = g.snd.fst ∧
                                            x.fst = x.fst ∧
                                              (↑x.fst.length : Int) = (↑x.fst.length : Int) ∧
                                                g.snd.snd.fst + (1 : Int) = g.snd.snd.fst + (1 : Int) ∧ True) ∧
                                      (g.fst ++
                                              ((0 : Int) :: ([] : List Int)).set (0 : Nat)
                                                (g.snd.fst * (65536 : Int) + x.fst.getD g.snd.snd.fst.toNat (0 : Int)) =
                                            g.fst ++
                                              ((0 : Int) :: ([] : List Int)).set (0 : Nat)
                                                (g.snd.fst * (65536 : Int) + x.fst.getD g.snd.snd.fst.toNat (0 : Int)) ∧
                                          True) ∧
                                        True))) ∧
                (decide (x.fst.getD g.snd.snd.fst.toNat (0 : Int) < (0 : Int)) = !false →
                  ([] : List Int) = (ext x.fst).fst ∧ (2 : Int) = (ext x.fst).snd.fst)) ∧
          (decide (g.snd.snd.fst < (↑x.fst.length : Int)) = false → g.fst = (ext x.fst).fst ∧ (0 : Int) = (ext x.fst).snd.fst)

theorem E_wext_eq (x : HL (cExt : Ctr).as) : vc (fx_wext x) 1 24 Try.f24 (cExt) x = E_wext x := by kernel_rfl

def E_wrong (x : (Int × Int) × Unit) : Prop :=
  (decide (x.fst.fst < (1 : Int)) = false →
      (decide ((1048576 : Int) < x.fst.fst) = false →
          (decide (x.fst.snd < (1 : Int)) = false →
              (decide ((1048576 : Int) < x.fst.snd) = true → (2 : Int) = wrong x.fst.fst x.fst.snd) ∧
                (decide ((1048576 : Int) < x.fst.snd) = false → (0 : Int) = wrong x.fst.fst x.fst.snd)) ∧
            (decide (x.fst.snd < (1 : Int)) = !false → (2 : Int) = wrong x.fst.fst x.fst.snd)) ∧
        (decide ((1048576 : Int) < x.fst.fst) = !false → (2 : Int) = wrong x.fst.fst x.fst.snd)) ∧
    (decide (x.fst.fst < (1 : Int)) = !false → (2 : Int) = wrong x.fst.fst x.fst.snd)

theorem E_wrong_eq (x : HL (cWrong : Ctr).as) : vc (fx_wrong x) 1 25 Try.f25 (cWrong) x = E_wrong x := by kernel_rfl

def E_wwrong (x : (Int × Int) × Unit) : Prop :=
  (decide ((bif false then max x.fst.fst x.fst.snd else min x.fst.fst x.fst.snd) < (1 : Int)) = false →
      (decide ((1048576 : Int) < bif true then max x.fst.fst x.fst.snd else min x.fst.fst x.fst.snd) = true → (2 : Int) = wrong x.fst.fst x.fst.snd) ∧
        (decide ((1048576 : Int) < bif true then max x.fst.fst x.fst.snd else min x.fst.fst x.fst.snd) = false →
          (0 : Int) = wrong x.fst.fst x.fst.snd)) ∧
    (decide ((bif false then max x.fst.fst x.fst.snd else min x.fst.fst x.fst.snd) < (1 : Int)) = !false → (2 : Int) = wrong x.fst.fst x.fst.snd)

theorem E_wwrong_eq (x : HL (cWrong : Ctr).as) : vc (fx_wwrong x) 1 26 Try.f26 (cWrong) x = E_wwrong x := by kernel_rfl

def E_law (x : (Int × Int) × List Int × Unit) : Prop :=
  Holds (x.snd.fst.length * (8 : Nat) ≤ (140737488355328 : Nat)) ∧
    Holds (x.snd.fst.length * (8 : Nat) ≤ (140737488355328 : Nat)) ∧
      Holds True ∧
        Holds True ∧
          ((wrong x.fst.fst x.fst.snd == wrong x.fst.fst x.fst.snd) = true →
              (((ext x.snd.fst).snd.fst == (ext x.snd.fst).snd.fst) = true → Holds True ∧ decide ((ext x.snd.fst).fst = (ext x.snd.fst).fst) = true) ∧
                (((ext x.snd.fst).snd.fst == (ext x.snd.fst).snd.fst) = !true → false = true)) ∧
            ((wrong x.fst.fst x.fst.snd == wrong x.fst.fst x.fst.snd) = !true → false = true)

theorem E_law_eq (x : HL (cLaw : Ctr).as) : vc (fx_law x) 1 5 Try.f5 (cLaw) x = E_law x := by kernel_rfl

end Go.Proofs.Ytollphjlheabdaa.Clk
