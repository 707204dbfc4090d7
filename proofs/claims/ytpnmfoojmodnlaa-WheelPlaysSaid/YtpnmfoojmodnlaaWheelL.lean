/-
  Each function keeps its contract.
-/
import Derived.Test.YtpnmfoojmodnlaaWheelP5
import Derived.Test.YtpnmfoojmodnlaaWheelH0
import Derived.Test.YtpnmfoojmodnlaaWheelH1
import Derived.Test.YtpnmfoojmodnlaaWheelH2
namespace Go.Proofs.Ytpnmfoojmodnlaa.Wheel
open Go.Sx
set_option maxRecDepth 100000
attribute [local irreducible] vc vcPr

theorem kf0_ok : CtrsOkF Try.prog kf0 := trivial
theorem ps0_ok : PrcsOk Try.prog ps0 := trivial
theorem ks0_ok : CtrsOk Try.prog ks0 := trivial
theorem names_ok : namesOk Try.prog = true := by kernel_rfl
theorem mixed_ok : Try.prog.follows .mixedOrders = true := by kernel_rfl
theorem kf1_ok : CtrsOkF Try.prog kf1 := kf0_ok
theorem ks1_ok : CtrsOk Try.prog ks1 := ks0_ok
theorem ps1_ok : PrcsOk Try.prog ps1 := ⟨c_sort, ps0_ok⟩
theorem kf2_ok : CtrsOkF Try.prog kf2 := kf1_ok
theorem ks2_ok : CtrsOk Try.prog ks2 := ks1_ok
theorem ps2_ok : PrcsOk Try.prog ps2 := ⟨c_sortf, ps1_ok⟩
theorem ps3_ok : PrcsOk Try.prog ps3 := ps2_ok
theorem v_equal (x : HL (cEqual : Ctr).as) (hp : (cEqual : Ctr).pre x) (hl : LensL (cEqual : Ctr).as x) : vc (fx_equal x) 1 21 Try.f21 (cEqual) x := by
  rw [E_equal_eq]
  exact e_equal x hp hl
theorem kf3_ok : CtrsOkF Try.prog kf3 := kf2_ok
theorem c_equal : CtrOk Try.prog 21 (cEqual) :=
  ctr_of_vc (c := cEqual) (fn := Try.f21) (X := fx_equal) (n := 1) (fun _ => mkFxG_all env_ok mixed_ok names_ok ks2_ok kf2_ok ps2_ok) Try.func21 (by kernel_rfl) (by kernel_rfl) (of_decide_eq_true (by kernel_rfl)) v_equal
theorem ks3_ok : CtrsOk Try.prog ks3 := ⟨c_equal, ks2_ok⟩
theorem ps4_ok : PrcsOk Try.prog ps4 := ps3_ok
theorem v_equalf (x : HL (cEqualF : Ctr).as) (hp : (cEqualF : Ctr).pre x) (hl : LensL (cEqualF : Ctr).as x) : vc (fx_equalf x) 1 22 Try.f22 (cEqualF) x := by
  rw [E_equalf_eq]
  exact e_equalf x hp hl
theorem kf4_ok : CtrsOkF Try.prog kf4 := kf3_ok
theorem c_equalf : CtrOk Try.prog 22 (cEqualF) :=
  ctr_of_vc (c := cEqualF) (fn := Try.f22) (X := fx_equalf) (n := 1) (fun _ => mkFxG_all env_ok mixed_ok names_ok ks3_ok kf3_ok ps3_ok) Try.func22 (by kernel_rfl) (by kernel_rfl) (of_decide_eq_true (by kernel_rfl)) v_equalf
theorem ks4_ok : CtrsOk Try.prog ks4 := ⟨c_equalf, ks3_ok⟩
theorem ps5_ok : PrcsOk Try.prog ps5 := ps4_ok
theorem v_compact (x : HL (cCompact : Ctr).as) (hp : (cCompact : Ctr).pre x) (hl : LensL (cCompact : Ctr).as x) : vc (fx_compact x) 1 90 Try.f90 (cCompact) x := by
  rw [E_compact_eq]
  exact e_compact x hp hl
theorem kf5_ok : CtrsOkF Try.prog kf5 := kf4_ok
theorem c_compact : CtrOk Try.prog 90 (cCompact) :=
  ctr_of_vc (c := cCompact) (fn := Try.f90) (X := fx_compact) (n := 1) (fun _ => mkFxG_all env_ok mixed_ok names_ok ks4_ok kf4_ok ps4_ok) Try.func90 (by kernel_rfl) (by kernel_rfl) (of_decide_eq_true (by kernel_rfl)) v_compact
theorem ks5_ok : CtrsOk Try.prog ks5 := ⟨c_compact, ks4_ok⟩
theorem ps6_ok : PrcsOk Try.prog ps6 := ps5_ok
theorem v_kplay (x : HL (cPlay : Ctr).as) (hp : (cPlay : Ctr).pre x) (hl : LensL (cPlay : Ctr).as x) : vc (fx_kplay x) 1 20 Try.f20 (cPlay) x := by
  rw [E_kplay_eq]
  exact e_kplay x hp hl
theorem kf6_ok : CtrsOkF Try.prog kf6 := kf5_ok
theorem c_kplay : CtrOk Try.prog 20 (cPlay) :=
  ctr_of_vc (c := cPlay) (fn := Try.f20) (X := fx_kplay) (n := 1) (fun _ => mkFxG_all env_ok mixed_ok names_ok ks5_ok kf5_ok ps5_ok) Try.func20 (by kernel_rfl) (by kernel_rfl) (of_decide_eq_true (by kernel_rfl)) v_kplay
theorem ks6_ok : CtrsOk Try.prog ks6 := ⟨c_kplay, ks5_ok⟩
theorem ps7_ok : PrcsOk Try.prog ps7 := ps6_ok
theorem v_play (x : HL (cPlay : Ctr).as) (hp : (cPlay : Ctr).pre x) (hl : LensL (cPlay : Ctr).as x) : vc (fx_play x) 4 19 Try.f19 (cPlay) x := by
  rw [E_play_eq]
  exact e_play x hp hl
theorem kf7_ok : CtrsOkF Try.prog kf7 := kf6_ok
theorem c_play : CtrOk Try.prog 19 (cPlay) :=
  ctr_of_vc (c := cPlay) (fn := Try.f19) (X := fx_play) (n := 4) (fun _ => mkFxG_all env_ok mixed_ok names_ok ks6_ok kf6_ok ps6_ok) Try.func19 (by kernel_rfl) (by kernel_rfl) (of_decide_eq_true (by kernel_rfl)) v_play
theorem ks7_ok : CtrsOk Try.prog ks7 := ⟨c_play, ks6_ok⟩
theorem ps8_ok : PrcsOk Try.prog ps8 := ps7_ok
theorem v_law (x : HL (cLaw : Ctr).as) (hp : (cLaw : Ctr).pre x) (hl : LensL (cLaw : Ctr).as x) : vc (fx_law x) 1 5 Try.f5 (cLaw) x := by
  rw [E_law_eq]
  exact e_law x hp hl
theorem kf8_ok : CtrsOkF Try.prog kf8 := kf7_ok
theorem c_law : CtrOk Try.prog 5 (cLaw) :=
  ctr_of_vc (c := cLaw) (fn := Try.f5) (X := fx_law) (n := 1) (fun _ => mkFxG_all env_ok mixed_ok names_ok ks7_ok kf7_ok ps7_ok) Try.func5 (by kernel_rfl) (by kernel_rfl) (of_decide_eq_true (by kernel_rfl)) v_law
theorem ks8_ok : CtrsOk Try.prog ks8 := ⟨c_law, ks7_ok⟩
theorem ksAll_ok : CtrsOk Try.prog ksAll := ks8_ok
end Go.Proofs.Ytpnmfoojmodnlaa.Wheel
