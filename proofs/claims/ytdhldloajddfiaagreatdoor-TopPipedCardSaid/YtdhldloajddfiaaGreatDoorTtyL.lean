/-
 Each function keeps its contract.
-/
import Derived.Test.YtdhldloajddfiaaGreatDoorTtyPJ
namespace Go.Proofs.YtdhldloajddfiaaGreatDoor.Tty
open Go.Sx
set_option maxRecDepth 100000
attribute [local irreducible] vc vcF

theorem kf0_ok : CtrsOkF Tryz.prog kf0 := trivial
theorem ks0_ok : CtrsOk Tryz.prog ks0 := trivial
theorem names_ok : namesOk Tryz.prog = true := by kernel_rfl
theorem mixed_ok : Tryz.prog.follows .mixedOrders = true := by kernel_rfl
theorem v_cloneb (x : HL (cCloneB : Ctr).as) (hp : (cCloneB : Ctr).pre x) (hl : LensL (cCloneB : Ctr).as x) : vc (fx_cloneb x) 1 19 Tryz.f19 (cCloneB) x := by
 rw [E_cloneb_eq]
 exact e_cloneb x hp hl
theorem kf1_ok : CtrsOkF Tryz.prog kf1 := kf0_ok
theorem c_cloneb : CtrOk Tryz.prog 19 (cCloneB) :=
 ctr_of_vc (c := cCloneB) (fn := Tryz.f19) (X := fx_cloneb) (n := 1) (fun _ => mkFxF_all env_ok mixed_ok names_ok ks0_ok kf0_ok) Tryz.func19 (by kernel_rfl) (by kernel_rfl) (of_decide_eq_true (by kernel_rfl)) v_cloneb
theorem ks1_ok : CtrsOk Tryz.prog ks1 := ⟨c_cloneb, ks0_ok⟩
theorem v_any (x : HL (cAny : Ctr).as) (hp : (cAny : Ctr).pre x) (hl : LensL (cAny : Ctr).as x) : vcF (fx_any x) 3 35 36 Tryz.f35 (cAny) x := by
 rw [E_any_eq]
 exact e_any x hp hl
theorem c_any : CtrOkF Tryz.prog 35 36 (cAny) :=
 ctrF_of_vc (c := cAny) (fn := Tryz.f35) (X := fx_any) (n := 3) (fun _ => mkFxF_all env_ok mixed_ok names_ok ks1_ok kf1_ok) Tryz.func35 (by kernel_rfl) (by kernel_rfl) (of_decide_eq_true (by kernel_rfl)) v_any
theorem ks2_ok : CtrsOk Tryz.prog ks2 := ks1_ok
theorem kf2_ok : CtrsOkF Tryz.prog kf2 := ⟨c_any, kf1_ok⟩
theorem v_right (x : HL (cRight : Ctr).as) (hp : (cRight : Ctr).pre x) (hl : LensL (cRight : Ctr).as x) : vc (fx_right x) 1 17 Tryz.f17 (cRight) x := by
 rw [E_right_eq]
 exact e_right x hp hl
theorem kf3_ok : CtrsOkF Tryz.prog kf3 := kf2_ok
theorem c_right : CtrOk Tryz.prog 17 (cRight) :=
 ctr_of_vc (c := cRight) (fn := Tryz.f17) (X := fx_right) (n := 1) (fun _ => mkFxF_all env_ok mixed_ok names_ok ks2_ok kf2_ok) Tryz.func17 (by kernel_rfl) (by kernel_rfl) (of_decide_eq_true (by kernel_rfl)) v_right
theorem ks3_ok : CtrsOk Tryz.prog ks3 := ⟨c_right, ks2_ok⟩
theorem v_read (x : HL (cRead : Ctr).as) (hp : (cRead : Ctr).pre x) (hl : LensL (cRead : Ctr).as x) : vc (fx_read x) 2 8 Tryz.f8 (cRead) x := by
 rw [E_read_eq]
 exact e_read x hp hl
theorem kf4_ok : CtrsOkF Tryz.prog kf4 := kf3_ok
theorem c_read : CtrOk Tryz.prog 8 (cRead) :=
 ctr_of_vc (c := cRead) (fn := Tryz.f8) (X := fx_read) (n := 2) (fun _ => mkFxF_all env_ok mixed_ok names_ok ks3_ok kf3_ok) Tryz.func8 (by kernel_rfl) (by kernel_rfl) (of_decide_eq_true (by kernel_rfl)) v_read
theorem ks4_ok : CtrsOk Tryz.prog ks4 := ⟨c_read, ks3_ok⟩
theorem v_own (x : HL (cOwn : Ctr).as) (hp : (cOwn : Ctr).pre x) (hl : LensL (cOwn : Ctr).as x) : vc (fx_own x) 1 18 Tryz.f18 (cOwn) x := by
 rw [E_own_eq]
 exact e_own x hp hl
theorem kf5_ok : CtrsOkF Tryz.prog kf5 := kf4_ok
theorem c_own : CtrOk Tryz.prog 18 (cOwn) :=
 ctr_of_vc (c := cOwn) (fn := Tryz.f18) (X := fx_own) (n := 1) (fun _ => mkFxF_all env_ok mixed_ok names_ok ks4_ok kf4_ok) Tryz.func18 (by kernel_rfl) (by kernel_rfl) (of_decide_eq_true (by kernel_rfl)) v_own
theorem ks5_ok : CtrsOk Tryz.prog ks5 := ⟨c_own, ks4_ok⟩
theorem v_cloneo (x : HL (cCloneO : Ctr).as) (hp : (cCloneO : Ctr).pre x) (hl : LensL (cCloneO : Ctr).as x) : vc (fx_cloneo x) 1 19 Tryz.f19 (cCloneO) x := by
 rw [E_cloneo_eq]
 exact e_cloneo x hp hl
theorem kf6_ok : CtrsOkF Tryz.prog kf6 := kf5_ok
theorem c_cloneo : CtrOk Tryz.prog 19 (cCloneO) :=
 ctr_of_vc (c := cCloneO) (fn := Tryz.f19) (X := fx_cloneo) (n := 1) (fun _ => mkFxF_all env_ok mixed_ok names_ok ks5_ok kf5_ok) Tryz.func19 (by kernel_rfl) (by kernel_rfl) (of_decide_eq_true (by kernel_rfl)) v_cloneo
theorem ks6_ok : CtrsOk Tryz.prog ks6 := ⟨c_cloneo, ks5_ok⟩
theorem v_clonel (x : HL (cCloneL : Ctr).as) (hp : (cCloneL : Ctr).pre x) (hl : LensL (cCloneL : Ctr).as x) : vc (fx_clonel x) 1 51 Tryz.f51 (cCloneL) x := by
 rw [E_clonel_eq]
 exact e_clonel x hp hl
theorem kf7_ok : CtrsOkF Tryz.prog kf7 := kf6_ok
theorem c_clonel : CtrOk Tryz.prog 51 (cCloneL) :=
 ctr_of_vc (c := cCloneL) (fn := Tryz.f51) (X := fx_clonel) (n := 1) (fun _ => mkFxF_all env_ok mixed_ok names_ok ks6_ok kf6_ok) Tryz.func51 (by kernel_rfl) (by kernel_rfl) (of_decide_eq_true (by kernel_rfl)) v_clonel
theorem ks7_ok : CtrsOk Tryz.prog ks7 := ⟨c_clonel, ks6_ok⟩
theorem v_cloney (x : HL (cCloneO : Ctr).as) (hp : (cCloneO : Ctr).pre x) (hl : LensL (cCloneO : Ctr).as x) : vc (fx_cloney x) 1 11 Tryz.f11 (cCloneO) x := by
 rw [E_cloney_eq]
 exact e_cloney x hp hl
theorem kf8_ok : CtrsOkF Tryz.prog kf8 := kf7_ok
theorem c_cloney : CtrOk Tryz.prog 11 (cCloneO) :=
 ctr_of_vc (c := cCloneO) (fn := Tryz.f11) (X := fx_cloney) (n := 1) (fun _ => mkFxF_all env_ok mixed_ok names_ok ks7_ok kf7_ok) Tryz.func11 (by kernel_rfl) (by kernel_rfl) (of_decide_eq_true (by kernel_rfl)) v_cloney
theorem ks8_ok : CtrsOk Tryz.prog ks8 := ⟨c_cloney, ks7_ok⟩
theorem v_word (x : HL (cWord : Ctr).as) (hp : (cWord : Ctr).pre x) (hl : LensL (cWord : Ctr).as x) : vc (fx_word x) 1 34 Tryz.f34 (cWord) x := by
 rw [E_word_eq]
 exact e_word x hp hl
theorem kf9_ok : CtrsOkF Tryz.prog kf9 := kf8_ok
theorem c_word : CtrOk Tryz.prog 34 (cWord) :=
 ctr_of_vc (c := cWord) (fn := Tryz.f34) (X := fx_word) (n := 1) (fun _ => mkFxF_all env_ok mixed_ok names_ok ks8_ok kf8_ok) Tryz.func34 (by kernel_rfl) (by kernel_rfl) (of_decide_eq_true (by kernel_rfl)) v_word
theorem ks9_ok : CtrsOk Tryz.prog ks9 := ⟨c_word, ks8_ok⟩
theorem v_key (x : HL (cKey : Ctr).as) (hp : (cKey : Ctr).pre x) (hl : LensL (cKey : Ctr).as x) : vc (fx_key x) 2 15 Tryz.f15 (cKey) x := by
 rw [E_key_eq]
 exact e_key x hp hl
theorem kf10_ok : CtrsOkF Tryz.prog kf10 := kf9_ok
theorem c_key : CtrOk Tryz.prog 15 (cKey) :=
 ctr_of_vc (c := cKey) (fn := Tryz.f15) (X := fx_key) (n := 2) (fun _ => mkFxF_all env_ok mixed_ok names_ok ks9_ok kf9_ok) Tryz.func15 (by kernel_rfl) (by kernel_rfl) (of_decide_eq_true (by kernel_rfl)) v_key
theorem ks10_ok : CtrsOk Tryz.prog ks10 := ⟨c_key, ks9_ok⟩
theorem v_type (x : HL (cType : Ctr).as) (hp : (cType : Ctr).pre x) (hl : LensL (cType : Ctr).as x) : vc (fx_type x) 1 6 Tryz.f6 (cType) x := by
 rw [E_type_eq]
 exact e_type x hp hl
theorem kf11_ok : CtrsOkF Tryz.prog kf11 := kf10_ok
theorem c_type : CtrOk Tryz.prog 6 (cType) :=
 ctr_of_vc (c := cType) (fn := Tryz.f6) (X := fx_type) (n := 1) (fun _ => mkFxF_all env_ok mixed_ok names_ok ks10_ok kf10_ok) Tryz.func6 (by kernel_rfl) (by kernel_rfl) (of_decide_eq_true (by kernel_rfl)) v_type
theorem ks11_ok : CtrsOk Tryz.prog ks11 := ⟨c_type, ks10_ok⟩
theorem ksAll_ok : CtrsOk Tryz.prog ksAll := ks11_ok
end Go.Proofs.YtdhldloajddfiaaGreatDoor.Tty
