/-
 Each function keeps its contract.
-/
import Derived.Test.YtlmddcdafggphaaGreatDoorTtyPJ
namespace Go.Proofs.YtlmddcdafggphaaGreatDoor.Tty
open Go.Sx
set_option maxRecDepth 100000
attribute [local irreducible] vc vcF

theorem kf0_ok : CtrsOkF Tryz.prog kf0 := trivial
theorem ks0_ok : CtrsOk Tryz.prog ks0 := trivial
theorem names_ok : namesOk Tryz.prog = true := by kernel_rfl
theorem mixed_ok : Tryz.prog.follows .mixedOrders = true := by kernel_rfl
theorem v_cloneb (x : HL (cCloneB : Ctr).as) (hp : (cCloneB : Ctr).pre x) (hl : LensL (cCloneB : Ctr).as x) : vc (fx_cloneb x) 1 56 Tryz.f56 (cCloneB) x := by
 rw [E_cloneb_eq]
 exact e_cloneb x hp hl
theorem kf1_ok : CtrsOkF Tryz.prog kf1 := kf0_ok
theorem c_cloneb : CtrOk Tryz.prog 56 (cCloneB) :=
 ctr_of_vc (c := cCloneB) (fn := Tryz.f56) (X := fx_cloneb) (n := 1) (fun _ => mkFxF_all env_ok mixed_ok names_ok ks0_ok kf0_ok) Tryz.func56 (by kernel_rfl) (by kernel_rfl) (of_decide_eq_true (by kernel_rfl)) v_cloneb
theorem ks1_ok : CtrsOk Tryz.prog ks1 := ⟨c_cloneb, ks0_ok⟩
theorem v_any (x : HL (cAny : Ctr).as) (hp : (cAny : Ctr).pre x) (hl : LensL (cAny : Ctr).as x) : vcF (fx_any x) 3 90 91 Tryz.f90 (cAny) x := by
 rw [E_any_eq]
 exact e_any x hp hl
theorem c_any : CtrOkF Tryz.prog 90 91 (cAny) :=
 ctrF_of_vc (c := cAny) (fn := Tryz.f90) (X := fx_any) (n := 3) (fun _ => mkFxF_all env_ok mixed_ok names_ok ks1_ok kf1_ok) Tryz.func90 (by kernel_rfl) (by kernel_rfl) (of_decide_eq_true (by kernel_rfl)) v_any
theorem ks2_ok : CtrsOk Tryz.prog ks2 := ks1_ok
theorem kf2_ok : CtrsOkF Tryz.prog kf2 := ⟨c_any, kf1_ok⟩
theorem v_right (x : HL (cRight : Ctr).as) (hp : (cRight : Ctr).pre x) (hl : LensL (cRight : Ctr).as x) : vc (fx_right x) 1 54 Tryz.f54 (cRight) x := by
 rw [E_right_eq]
 exact e_right x hp hl
theorem kf3_ok : CtrsOkF Tryz.prog kf3 := kf2_ok
theorem c_right : CtrOk Tryz.prog 54 (cRight) :=
 ctr_of_vc (c := cRight) (fn := Tryz.f54) (X := fx_right) (n := 1) (fun _ => mkFxF_all env_ok mixed_ok names_ok ks2_ok kf2_ok) Tryz.func54 (by kernel_rfl) (by kernel_rfl) (of_decide_eq_true (by kernel_rfl)) v_right
theorem ks3_ok : CtrsOk Tryz.prog ks3 := ⟨c_right, ks2_ok⟩
theorem v_qright (x : HL (cRight : Ctr).as) (hp : (cRight : Ctr).pre x) (hl : LensL (cRight : Ctr).as x) : vc (fx_qright x) 1 61 Tryz.f61 (cRight) x := by
 rw [E_qright_eq]
 exact e_qright x hp hl
theorem kf4_ok : CtrsOkF Tryz.prog kf4 := kf3_ok
theorem c_qright : CtrOk Tryz.prog 61 (cRight) :=
 ctr_of_vc (c := cRight) (fn := Tryz.f61) (X := fx_qright) (n := 1) (fun _ => mkFxF_all env_ok mixed_ok names_ok ks3_ok kf3_ok) Tryz.func61 (by kernel_rfl) (by kernel_rfl) (of_decide_eq_true (by kernel_rfl)) v_qright
theorem ks4_ok : CtrsOk Tryz.prog ks4 := ⟨c_qright, ks3_ok⟩
theorem v_read (x : HL (cRead : Ctr).as) (hp : (cRead : Ctr).pre x) (hl : LensL (cRead : Ctr).as x) : vc (fx_read x) 2 33 Tryz.f33 (cRead) x := by
 rw [E_read_eq]
 exact e_read x hp hl
theorem kf5_ok : CtrsOkF Tryz.prog kf5 := kf4_ok
theorem c_read : CtrOk Tryz.prog 33 (cRead) :=
 ctr_of_vc (c := cRead) (fn := Tryz.f33) (X := fx_read) (n := 2) (fun _ => mkFxF_all env_ok mixed_ok names_ok ks4_ok kf4_ok) Tryz.func33 (by kernel_rfl) (by kernel_rfl) (of_decide_eq_true (by kernel_rfl)) v_read
theorem ks5_ok : CtrsOk Tryz.prog ks5 := ⟨c_read, ks4_ok⟩
theorem v_own (x : HL (cOwn : Ctr).as) (hp : (cOwn : Ctr).pre x) (hl : LensL (cOwn : Ctr).as x) : vc (fx_own x) 1 55 Tryz.f55 (cOwn) x := by
 rw [E_own_eq]
 exact e_own x hp hl
theorem kf6_ok : CtrsOkF Tryz.prog kf6 := kf5_ok
theorem c_own : CtrOk Tryz.prog 55 (cOwn) :=
 ctr_of_vc (c := cOwn) (fn := Tryz.f55) (X := fx_own) (n := 1) (fun _ => mkFxF_all env_ok mixed_ok names_ok ks5_ok kf5_ok) Tryz.func55 (by kernel_rfl) (by kernel_rfl) (of_decide_eq_true (by kernel_rfl)) v_own
theorem ks6_ok : CtrsOk Tryz.prog ks6 := ⟨c_own, ks5_ok⟩
theorem v_qread (x : HL (cRead : Ctr).as) (hp : (cRead : Ctr).pre x) (hl : LensL (cRead : Ctr).as x) : vc (fx_qread x) 1 39 Tryz.f39 (cRead) x := by
 rw [E_qread_eq]
 exact e_qread x hp hl
theorem kf7_ok : CtrsOkF Tryz.prog kf7 := kf6_ok
theorem c_qread : CtrOk Tryz.prog 39 (cRead) :=
 ctr_of_vc (c := cRead) (fn := Tryz.f39) (X := fx_qread) (n := 1) (fun _ => mkFxF_all env_ok mixed_ok names_ok ks6_ok kf6_ok) Tryz.func39 (by kernel_rfl) (by kernel_rfl) (of_decide_eq_true (by kernel_rfl)) v_qread
theorem ks7_ok : CtrsOk Tryz.prog ks7 := ⟨c_qread, ks6_ok⟩
theorem v_cloneo (x : HL (cCloneO : Ctr).as) (hp : (cCloneO : Ctr).pre x) (hl : LensL (cCloneO : Ctr).as x) : vc (fx_cloneo x) 1 56 Tryz.f56 (cCloneO) x := by
 rw [E_cloneo_eq]
 exact e_cloneo x hp hl
theorem kf8_ok : CtrsOkF Tryz.prog kf8 := kf7_ok
theorem c_cloneo : CtrOk Tryz.prog 56 (cCloneO) :=
 ctr_of_vc (c := cCloneO) (fn := Tryz.f56) (X := fx_cloneo) (n := 1) (fun _ => mkFxF_all env_ok mixed_ok names_ok ks7_ok kf7_ok) Tryz.func56 (by kernel_rfl) (by kernel_rfl) (of_decide_eq_true (by kernel_rfl)) v_cloneo
theorem ks8_ok : CtrsOk Tryz.prog ks8 := ⟨c_cloneo, ks7_ok⟩
theorem v_clonel (x : HL (cCloneL : Ctr).as) (hp : (cCloneL : Ctr).pre x) (hl : LensL (cCloneL : Ctr).as x) : vc (fx_clonel x) 1 110 Tryz.f110 (cCloneL) x := by
 rw [E_clonel_eq]
 exact e_clonel x hp hl
theorem kf9_ok : CtrsOkF Tryz.prog kf9 := kf8_ok
theorem c_clonel : CtrOk Tryz.prog 110 (cCloneL) :=
 ctr_of_vc (c := cCloneL) (fn := Tryz.f110) (X := fx_clonel) (n := 1) (fun _ => mkFxF_all env_ok mixed_ok names_ok ks8_ok kf8_ok) Tryz.func110 (by kernel_rfl) (by kernel_rfl) (of_decide_eq_true (by kernel_rfl)) v_clonel
theorem ks9_ok : CtrsOk Tryz.prog ks9 := ⟨c_clonel, ks8_ok⟩
theorem v_cloney (x : HL (cCloneO : Ctr).as) (hp : (cCloneO : Ctr).pre x) (hl : LensL (cCloneO : Ctr).as x) : vc (fx_cloney x) 1 18 Tryz.f18 (cCloneO) x := by
 rw [E_cloney_eq]
 exact e_cloney x hp hl
theorem kf10_ok : CtrsOkF Tryz.prog kf10 := kf9_ok
theorem c_cloney : CtrOk Tryz.prog 18 (cCloneO) :=
 ctr_of_vc (c := cCloneO) (fn := Tryz.f18) (X := fx_cloney) (n := 1) (fun _ => mkFxF_all env_ok mixed_ok names_ok ks9_ok kf9_ok) Tryz.func18 (by kernel_rfl) (by kernel_rfl) (of_decide_eq_true (by kernel_rfl)) v_cloney
theorem ks10_ok : CtrsOk Tryz.prog ks10 := ⟨c_cloney, ks9_ok⟩
theorem v_word (x : HL (cWord : Ctr).as) (hp : (cWord : Ctr).pre x) (hl : LensL (cWord : Ctr).as x) : vc (fx_word x) 1 89 Tryz.f89 (cWord) x := by
 rw [E_word_eq]
 exact e_word x hp hl
theorem kf11_ok : CtrsOkF Tryz.prog kf11 := kf10_ok
theorem c_word : CtrOk Tryz.prog 89 (cWord) :=
 ctr_of_vc (c := cWord) (fn := Tryz.f89) (X := fx_word) (n := 1) (fun _ => mkFxF_all env_ok mixed_ok names_ok ks10_ok kf10_ok) Tryz.func89 (by kernel_rfl) (by kernel_rfl) (of_decide_eq_true (by kernel_rfl)) v_word
theorem ks11_ok : CtrsOk Tryz.prog ks11 := ⟨c_word, ks10_ok⟩
theorem v_key (x : HL (cKey : Ctr).as) (hp : (cKey : Ctr).pre x) (hl : LensL (cKey : Ctr).as x) : vc (fx_key x) 2 53 Tryz.f53 (cKey) x := by
 rw [E_key_eq]
 exact e_key x hp hl
theorem kf12_ok : CtrsOkF Tryz.prog kf12 := kf11_ok
theorem c_key : CtrOk Tryz.prog 53 (cKey) :=
 ctr_of_vc (c := cKey) (fn := Tryz.f53) (X := fx_key) (n := 2) (fun _ => mkFxF_all env_ok mixed_ok names_ok ks11_ok kf11_ok) Tryz.func53 (by kernel_rfl) (by kernel_rfl) (of_decide_eq_true (by kernel_rfl)) v_key
theorem ks12_ok : CtrsOk Tryz.prog ks12 := ⟨c_key, ks11_ok⟩
theorem v_suf (x : HL (cSuf : Ctr).as) (hp : (cSuf : Ctr).pre x) (hl : LensL (cSuf : Ctr).as x) : vc (fx_suf x) 1 96 Tryz.f96 (cSuf) x := by
 rw [E_suf_eq]
 exact e_suf x hp hl
theorem kf13_ok : CtrsOkF Tryz.prog kf13 := kf12_ok
theorem c_suf : CtrOk Tryz.prog 96 (cSuf) :=
 ctr_of_vc (c := cSuf) (fn := Tryz.f96) (X := fx_suf) (n := 1) (fun _ => mkFxF_all env_ok mixed_ok names_ok ks12_ok kf12_ok) Tryz.func96 (by kernel_rfl) (by kernel_rfl) (of_decide_eq_true (by kernel_rfl)) v_suf
theorem ks13_ok : CtrsOk Tryz.prog ks13 := ⟨c_suf, ks12_ok⟩
theorem v_last (x : HL (cLast : Ctr).as) (hp : (cLast : Ctr).pre x) (hl : LensL (cLast : Ctr).as x) : vc (fx_last x) 1 97 Tryz.f97 (cLast) x := by
 rw [E_last_eq]
 exact e_last x hp hl
theorem kf14_ok : CtrsOkF Tryz.prog kf14 := kf13_ok
theorem c_last : CtrOk Tryz.prog 97 (cLast) :=
 ctr_of_vc (c := cLast) (fn := Tryz.f97) (X := fx_last) (n := 1) (fun _ => mkFxF_all env_ok mixed_ok names_ok ks13_ok kf13_ok) Tryz.func97 (by kernel_rfl) (by kernel_rfl) (of_decide_eq_true (by kernel_rfl)) v_last
theorem ks14_ok : CtrsOk Tryz.prog ks14 := ⟨c_last, ks13_ok⟩
theorem v_qkey (x : HL (cKey : Ctr).as) (hp : (cKey : Ctr).pre x) (hl : LensL (cKey : Ctr).as x) : vc (fx_qkey x) 2 40 Tryz.f40 (cKey) x := by
 rw [E_qkey_eq]
 exact e_qkey x hp hl
theorem kf15_ok : CtrsOkF Tryz.prog kf15 := kf14_ok
theorem c_qkey : CtrOk Tryz.prog 40 (cKey) :=
 ctr_of_vc (c := cKey) (fn := Tryz.f40) (X := fx_qkey) (n := 2) (fun _ => mkFxF_all env_ok mixed_ok names_ok ks14_ok kf14_ok) Tryz.func40 (by kernel_rfl) (by kernel_rfl) (of_decide_eq_true (by kernel_rfl)) v_qkey
theorem ks15_ok : CtrsOk Tryz.prog ks15 := ⟨c_qkey, ks14_ok⟩
theorem ksAll_ok : CtrsOk Tryz.prog ksAll := ks15_ok
end Go.Proofs.YtlmddcdafggphaaGreatDoor.Tty
