/-
  Each function keeps its contract.
-/
import Derived.Test.YtpmfgdedkmddlaaRankpP1
namespace Go.Proofs.Ytpmfgdedkmddlaa.Rankp
open Go.Sx
set_option maxRecDepth 100000
attribute [local irreducible] vc

theorem ks0_ok : CtrsOk Try.prog ks0 := trivial
theorem names_ok : namesOk Try.prog = true := by kernel_rfl
theorem mixed_ok : Try.prog.follows .mixedOrders = true := by kernel_rfl
theorem v_index (x : HL (cIndex : Ctr).as) (hp : (cIndex : Ctr).pre x) (hl : LensL (cIndex : Ctr).as x) : vc (fx_index x) 1 61 Try.f61 (cIndex) x := by
  rw [E_index_eq]
  exact e_index x hp hl
theorem c_index : CtrOk Try.prog 61 (cIndex) :=
  ctr_of_vc (c := cIndex) (fn := Try.f61) (X := fx_index) (n := 1) (fun _ => mkFx_all env_ok mixed_ok names_ok ks0_ok) Try.func61 (by kernel_rfl) (by kernel_rfl) (of_decide_eq_true (by kernel_rfl)) v_index
theorem ks1_ok : CtrsOk Try.prog ks1 := ⟨c_index, ks0_ok⟩
theorem v_contains (x : HL (cContains : Ctr).as) (hp : (cContains : Ctr).pre x) (hl : LensL (cContains : Ctr).as x) : vc (fx_contains x) 1 44 Try.f44 (cContains) x := by
  rw [E_contains_eq]
  exact e_contains x hp hl
theorem c_contains : CtrOk Try.prog 44 (cContains) :=
  ctr_of_vc (c := cContains) (fn := Try.f44) (X := fx_contains) (n := 1) (fun _ => mkFx_all env_ok mixed_ok names_ok ks1_ok) Try.func44 (by kernel_rfl) (by kernel_rfl) (of_decide_eq_true (by kernel_rfl)) v_contains
theorem ks2_ok : CtrsOk Try.prog ks2 := ⟨c_contains, ks1_ok⟩
theorem v_max (x : HL (cMax : Ctr).as) (hp : (cMax : Ctr).pre x) (hl : LensL (cMax : Ctr).as x) : vc (fx_max x) 1 46 Try.f46 (cMax) x := by
  rw [E_max_eq]
  exact e_max x hp hl
theorem c_max : CtrOk Try.prog 46 (cMax) :=
  ctr_of_vc (c := cMax) (fn := Try.f46) (X := fx_max) (n := 1) (fun _ => mkFx_all env_ok mixed_ok names_ok ks2_ok) Try.func46 (by kernel_rfl) (by kernel_rfl) (of_decide_eq_true (by kernel_rfl)) v_max
theorem ks3_ok : CtrsOk Try.prog ks3 := ⟨c_max, ks2_ok⟩
theorem v_mul (x : HL (cMul : Ctr).as) (hp : (cMul : Ctr).pre x) (hl : LensL (cMul : Ctr).as x) : vc (fx_mul x) 3 47 Try.f47 (cMul) x := by
  rw [E_mul_eq]
  exact e_mul x hp hl
theorem c_mul : CtrOk Try.prog 47 (cMul) :=
  ctr_of_vc (c := cMul) (fn := Try.f47) (X := fx_mul) (n := 3) (fun _ => mkFx_all env_ok mixed_ok names_ok ks3_ok) Try.func47 (by kernel_rfl) (by kernel_rfl) (of_decide_eq_true (by kernel_rfl)) v_mul
theorem ks4_ok : CtrsOk Try.prog ks4 := ⟨c_mul, ks3_ok⟩
theorem v_rep (x : HL (cRep : Ctr).as) (hp : (cRep : Ctr).pre x) (hl : LensL (cRep : Ctr).as x) : vc (fx_rep x) 1 26 Try.f26 (cRep) x := by
  rw [E_rep_eq]
  exact e_rep x hp hl
theorem c_rep : CtrOk Try.prog 26 (cRep) :=
  ctr_of_vc (c := cRep) (fn := Try.f26) (X := fx_rep) (n := 1) (fun _ => mkFx_all env_ok mixed_ok names_ok ks4_ok) Try.func26 (by kernel_rfl) (by kernel_rfl) (of_decide_eq_true (by kernel_rfl)) v_rep
theorem ks5_ok : CtrsOk Try.prog ks5 := ⟨c_rep, ks4_ok⟩
theorem v_equale (x : HL (cEqual : Ctr).as) (hp : (cEqual : Ctr).pre x) (hl : LensL (cEqual : Ctr).as x) : vc (fx_equale x) 1 10 Try.f10 (cEqual) x := by
  rw [E_equale_eq]
  exact e_equale x hp hl
theorem c_equale : CtrOk Try.prog 10 (cEqual) :=
  ctr_of_vc (c := cEqual) (fn := Try.f10) (X := fx_equale) (n := 1) (fun _ => mkFx_all env_ok mixed_ok names_ok ks5_ok) Try.func10 (by kernel_rfl) (by kernel_rfl) (of_decide_eq_true (by kernel_rfl)) v_equale
theorem ks6_ok : CtrsOk Try.prog ks6 := ⟨c_equale, ks5_ok⟩
theorem v_equali (x : HL (cEqual : Ctr).as) (hp : (cEqual : Ctr).pre x) (hl : LensL (cEqual : Ctr).as x) : vc (fx_equali x) 1 11 Try.f11 (cEqual) x := by
  rw [E_equali_eq]
  exact e_equali x hp hl
theorem c_equali : CtrOk Try.prog 11 (cEqual) :=
  ctr_of_vc (c := cEqual) (fn := Try.f11) (X := fx_equali) (n := 1) (fun _ => mkFx_all env_ok mixed_ok names_ok ks6_ok) Try.func11 (by kernel_rfl) (by kernel_rfl) (of_decide_eq_true (by kernel_rfl)) v_equali
theorem ks7_ok : CtrsOk Try.prog ks7 := ⟨c_equali, ks6_ok⟩
theorem v_play (x : HL (cPlay : Ctr).as) (hp : (cPlay : Ctr).pre x) (hl : LensL (cPlay : Ctr).as x) : vc (fx_play x) 4 8 Try.f8 (cPlay) x := by
  rw [E_play_eq]
  exact e_play x hp hl
theorem c_play : CtrOk Try.prog 8 (cPlay) :=
  ctr_of_vc (c := cPlay) (fn := Try.f8) (X := fx_play) (n := 4) (fun _ => mkFx_all env_ok mixed_ok names_ok ks7_ok) Try.func8 (by kernel_rfl) (by kernel_rfl) (of_decide_eq_true (by kernel_rfl)) v_play
theorem ks8_ok : CtrsOk Try.prog ks8 := ⟨c_play, ks7_ok⟩
theorem v_rows (x : HL (cRows : Ctr).as) (hp : (cRows : Ctr).pre x) (hl : LensL (cRows : Ctr).as x) : vc (fx_rows x) 1 29 Try.f29 (cRows) x := by
  rw [E_rows_eq]
  exact e_rows x hp hl
theorem c_rows : CtrOk Try.prog 29 (cRows) :=
  ctr_of_vc (c := cRows) (fn := Try.f29) (X := fx_rows) (n := 1) (fun _ => mkFx_all env_ok mixed_ok names_ok ks8_ok) Try.func29 (by kernel_rfl) (by kernel_rfl) (of_decide_eq_true (by kernel_rfl)) v_rows
theorem ks9_ok : CtrsOk Try.prog ks9 := ⟨c_rows, ks8_ok⟩
theorem v_hplay (x : HL (cPlay : Ctr).as) (hp : (cPlay : Ctr).pre x) (hl : LensL (cPlay : Ctr).as x) : vc (fx_hplay x) 2 9 Try.f9 (cPlay) x := by
  rw [E_hplay_eq]
  exact e_hplay x hp hl
theorem c_hplay : CtrOk Try.prog 9 (cPlay) :=
  ctr_of_vc (c := cPlay) (fn := Try.f9) (X := fx_hplay) (n := 2) (fun _ => mkFx_all env_ok mixed_ok names_ok ks9_ok) Try.func9 (by kernel_rfl) (by kernel_rfl) (of_decide_eq_true (by kernel_rfl)) v_hplay
theorem ks10_ok : CtrsOk Try.prog ks10 := ⟨c_hplay, ks9_ok⟩
theorem v_ranks (x : HL (cLaw : Ctr).as) (hp : (cLaw : Ctr).pre x) (hl : LensL (cLaw : Ctr).as x) : vc (fx_ranks x) 1 3 Try.f3 (cLaw) x := by
  rw [E_ranks_eq]
  exact e_ranks x hp hl
theorem c_ranks : CtrOk Try.prog 3 (cLaw) :=
  ctr_of_vc (c := cLaw) (fn := Try.f3) (X := fx_ranks) (n := 1) (fun _ => mkFx_all env_ok mixed_ok names_ok ks10_ok) Try.func3 (by kernel_rfl) (by kernel_rfl) (of_decide_eq_true (by kernel_rfl)) v_ranks
theorem ks11_ok : CtrsOk Try.prog ks11 := ⟨c_ranks, ks10_ok⟩
theorem ksAll_ok : CtrsOk Try.prog ksAll := ks11_ok
end Go.Proofs.Ytpmfgdedkmddlaa.Rankp
