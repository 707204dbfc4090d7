/-
 Each function keeps its contract.
-/
import Derived.Test.YtppgbcmeagbalaaDoorTtyP1
namespace Go.Proofs.YtppgbcmeagbalaaDoor.Tty
open Go.Sx
set_option maxRecDepth 100000
attribute [local irreducible] vc vcF

theorem kf0_ok : CtrsOkF Tryd.prog kf0 := trivial
theorem ks0_ok : CtrsOk Tryd.prog ks0 := trivial
theorem names_ok : namesOk Tryd.prog = true := by kernel_rfl
theorem mixed_ok : Tryd.prog.follows .mixedOrders = true := by kernel_rfl
theorem v_cloneb (x : HL (cCloneB : Ctr).as) (hp : (cCloneB : Ctr).pre x) (hl : LensL (cCloneB : Ctr).as x) : vc (fx_cloneb x) 1 28 Tryd.f28 (cCloneB) x := by
 rw [E_cloneb_eq]
 exact e_cloneb x hp hl
theorem kf1_ok : CtrsOkF Tryd.prog kf1 := kf0_ok
theorem c_cloneb : CtrOk Tryd.prog 28 (cCloneB) :=
 ctr_of_vc (c := cCloneB) (fn := Tryd.f28) (X := fx_cloneb) (n := 1) (fun _ => mkFxF_all env_ok mixed_ok names_ok ks0_ok kf0_ok) Tryd.func28 (by kernel_rfl) (by kernel_rfl) (of_decide_eq_true (by kernel_rfl)) v_cloneb
theorem ks1_ok : CtrsOk Tryd.prog ks1 := ⟨c_cloneb, ks0_ok⟩
theorem v_any (x : HL (cAny : Ctr).as) (hp : (cAny : Ctr).pre x) (hl : LensL (cAny : Ctr).as x) : vcF (fx_any x) 3 45 46 Tryd.f45 (cAny) x := by
 rw [E_any_eq]
 exact e_any x hp hl
theorem c_any : CtrOkF Tryd.prog 45 46 (cAny) :=
 ctrF_of_vc (c := cAny) (fn := Tryd.f45) (X := fx_any) (n := 3) (fun _ => mkFxF_all env_ok mixed_ok names_ok ks1_ok kf1_ok) Tryd.func45 (by kernel_rfl) (by kernel_rfl) (of_decide_eq_true (by kernel_rfl)) v_any
theorem ks2_ok : CtrsOk Tryd.prog ks2 := ks1_ok
theorem kf2_ok : CtrsOkF Tryd.prog kf2 := ⟨c_any, kf1_ok⟩
theorem v_right (x : HL (cRight : Ctr).as) (hp : (cRight : Ctr).pre x) (hl : LensL (cRight : Ctr).as x) : vc (fx_right x) 1 26 Tryd.f26 (cRight) x := by
 rw [E_right_eq]
 exact e_right x hp hl
theorem kf3_ok : CtrsOkF Tryd.prog kf3 := kf2_ok
theorem c_right : CtrOk Tryd.prog 26 (cRight) :=
 ctr_of_vc (c := cRight) (fn := Tryd.f26) (X := fx_right) (n := 1) (fun _ => mkFxF_all env_ok mixed_ok names_ok ks2_ok kf2_ok) Tryd.func26 (by kernel_rfl) (by kernel_rfl) (of_decide_eq_true (by kernel_rfl)) v_right
theorem ks3_ok : CtrsOk Tryd.prog ks3 := ⟨c_right, ks2_ok⟩
theorem v_qright (x : HL (cRight : Ctr).as) (hp : (cRight : Ctr).pre x) (hl : LensL (cRight : Ctr).as x) : vc (fx_qright x) 1 30 Tryd.f30 (cRight) x := by
 rw [E_qright_eq]
 exact e_qright x hp hl
theorem kf4_ok : CtrsOkF Tryd.prog kf4 := kf3_ok
theorem c_qright : CtrOk Tryd.prog 30 (cRight) :=
 ctr_of_vc (c := cRight) (fn := Tryd.f30) (X := fx_qright) (n := 1) (fun _ => mkFxF_all env_ok mixed_ok names_ok ks3_ok kf3_ok) Tryd.func30 (by kernel_rfl) (by kernel_rfl) (of_decide_eq_true (by kernel_rfl)) v_qright
theorem ks4_ok : CtrsOk Tryd.prog ks4 := ⟨c_qright, ks3_ok⟩
theorem v_read (x : HL (cRead : Ctr).as) (hp : (cRead : Ctr).pre x) (hl : LensL (cRead : Ctr).as x) : vc (fx_read x) 2 16 Tryd.f16 (cRead) x := by
 rw [E_read_eq]
 exact e_read x hp hl
theorem kf5_ok : CtrsOkF Tryd.prog kf5 := kf4_ok
theorem c_read : CtrOk Tryd.prog 16 (cRead) :=
 ctr_of_vc (c := cRead) (fn := Tryd.f16) (X := fx_read) (n := 2) (fun _ => mkFxF_all env_ok mixed_ok names_ok ks4_ok kf4_ok) Tryd.func16 (by kernel_rfl) (by kernel_rfl) (of_decide_eq_true (by kernel_rfl)) v_read
theorem ks5_ok : CtrsOk Tryd.prog ks5 := ⟨c_read, ks4_ok⟩
theorem v_own (x : HL (cOwn : Ctr).as) (hp : (cOwn : Ctr).pre x) (hl : LensL (cOwn : Ctr).as x) : vc (fx_own x) 1 27 Tryd.f27 (cOwn) x := by
 rw [E_own_eq]
 exact e_own x hp hl
theorem kf6_ok : CtrsOkF Tryd.prog kf6 := kf5_ok
theorem c_own : CtrOk Tryd.prog 27 (cOwn) :=
 ctr_of_vc (c := cOwn) (fn := Tryd.f27) (X := fx_own) (n := 1) (fun _ => mkFxF_all env_ok mixed_ok names_ok ks5_ok kf5_ok) Tryd.func27 (by kernel_rfl) (by kernel_rfl) (of_decide_eq_true (by kernel_rfl)) v_own
theorem ks6_ok : CtrsOk Tryd.prog ks6 := ⟨c_own, ks5_ok⟩
theorem v_qread (x : HL (cRead : Ctr).as) (hp : (cRead : Ctr).pre x) (hl : LensL (cRead : Ctr).as x) : vc (fx_qread x) 1 18 Tryd.f18 (cRead) x := by
 rw [E_qread_eq]
 exact e_qread x hp hl
theorem kf7_ok : CtrsOkF Tryd.prog kf7 := kf6_ok
theorem c_qread : CtrOk Tryd.prog 18 (cRead) :=
 ctr_of_vc (c := cRead) (fn := Tryd.f18) (X := fx_qread) (n := 1) (fun _ => mkFxF_all env_ok mixed_ok names_ok ks6_ok kf6_ok) Tryd.func18 (by kernel_rfl) (by kernel_rfl) (of_decide_eq_true (by kernel_rfl)) v_qread
theorem ks7_ok : CtrsOk Tryd.prog ks7 := ⟨c_qread, ks6_ok⟩
theorem v_cloneo (x : HL (cCloneO : Ctr).as) (hp : (cCloneO : Ctr).pre x) (hl : LensL (cCloneO : Ctr).as x) : vc (fx_cloneo x) 1 28 Tryd.f28 (cCloneO) x := by
 rw [E_cloneo_eq]
 exact e_cloneo x hp hl
theorem kf8_ok : CtrsOkF Tryd.prog kf8 := kf7_ok
theorem c_cloneo : CtrOk Tryd.prog 28 (cCloneO) :=
 ctr_of_vc (c := cCloneO) (fn := Tryd.f28) (X := fx_cloneo) (n := 1) (fun _ => mkFxF_all env_ok mixed_ok names_ok ks7_ok kf7_ok) Tryd.func28 (by kernel_rfl) (by kernel_rfl) (of_decide_eq_true (by kernel_rfl)) v_cloneo
theorem ks8_ok : CtrsOk Tryd.prog ks8 := ⟨c_cloneo, ks7_ok⟩
theorem v_clonel (x : HL (cCloneL : Ctr).as) (hp : (cCloneL : Ctr).pre x) (hl : LensL (cCloneL : Ctr).as x) : vc (fx_clonel x) 1 57 Tryd.f57 (cCloneL) x := by
 rw [E_clonel_eq]
 exact e_clonel x hp hl
theorem kf9_ok : CtrsOkF Tryd.prog kf9 := kf8_ok
theorem c_clonel : CtrOk Tryd.prog 57 (cCloneL) :=
 ctr_of_vc (c := cCloneL) (fn := Tryd.f57) (X := fx_clonel) (n := 1) (fun _ => mkFxF_all env_ok mixed_ok names_ok ks8_ok kf8_ok) Tryd.func57 (by kernel_rfl) (by kernel_rfl) (of_decide_eq_true (by kernel_rfl)) v_clonel
theorem ks9_ok : CtrsOk Tryd.prog ks9 := ⟨c_clonel, ks8_ok⟩
theorem v_cloney (x : HL (cCloneO : Ctr).as) (hp : (cCloneO : Ctr).pre x) (hl : LensL (cCloneO : Ctr).as x) : vc (fx_cloney x) 1 10 Tryd.f10 (cCloneO) x := by
 rw [E_cloney_eq]
 exact e_cloney x hp hl
theorem kf10_ok : CtrsOkF Tryd.prog kf10 := kf9_ok
theorem c_cloney : CtrOk Tryd.prog 10 (cCloneO) :=
 ctr_of_vc (c := cCloneO) (fn := Tryd.f10) (X := fx_cloney) (n := 1) (fun _ => mkFxF_all env_ok mixed_ok names_ok ks9_ok kf9_ok) Tryd.func10 (by kernel_rfl) (by kernel_rfl) (of_decide_eq_true (by kernel_rfl)) v_cloney
theorem ks10_ok : CtrsOk Tryd.prog ks10 := ⟨c_cloney, ks9_ok⟩
theorem v_word (x : HL (cWord : Ctr).as) (hp : (cWord : Ctr).pre x) (hl : LensL (cWord : Ctr).as x) : vc (fx_word x) 1 44 Tryd.f44 (cWord) x := by
 rw [E_word_eq]
 exact e_word x hp hl
theorem kf11_ok : CtrsOkF Tryd.prog kf11 := kf10_ok
theorem c_word : CtrOk Tryd.prog 44 (cWord) :=
 ctr_of_vc (c := cWord) (fn := Tryd.f44) (X := fx_word) (n := 1) (fun _ => mkFxF_all env_ok mixed_ok names_ok ks10_ok kf10_ok) Tryd.func44 (by kernel_rfl) (by kernel_rfl) (of_decide_eq_true (by kernel_rfl)) v_word
theorem ks11_ok : CtrsOk Tryd.prog ks11 := ⟨c_word, ks10_ok⟩
theorem v_key (x : HL (cKey : Ctr).as) (hp : (cKey : Ctr).pre x) (hl : LensL (cKey : Ctr).as x) : vc (fx_key x) 2 25 Tryd.f25 (cKey) x := by
 rw [E_key_eq]
 exact e_key x hp hl
theorem kf12_ok : CtrsOkF Tryd.prog kf12 := kf11_ok
theorem c_key : CtrOk Tryd.prog 25 (cKey) :=
 ctr_of_vc (c := cKey) (fn := Tryd.f25) (X := fx_key) (n := 2) (fun _ => mkFxF_all env_ok mixed_ok names_ok ks11_ok kf11_ok) Tryd.func25 (by kernel_rfl) (by kernel_rfl) (of_decide_eq_true (by kernel_rfl)) v_key
theorem ks12_ok : CtrsOk Tryd.prog ks12 := ⟨c_key, ks11_ok⟩
theorem v_suf (x : HL (cSuf : Ctr).as) (hp : (cSuf : Ctr).pre x) (hl : LensL (cSuf : Ctr).as x) : vc (fx_suf x) 1 49 Tryd.f49 (cSuf) x := by
 rw [E_suf_eq]
 exact e_suf x hp hl
theorem kf13_ok : CtrsOkF Tryd.prog kf13 := kf12_ok
theorem c_suf : CtrOk Tryd.prog 49 (cSuf) :=
 ctr_of_vc (c := cSuf) (fn := Tryd.f49) (X := fx_suf) (n := 1) (fun _ => mkFxF_all env_ok mixed_ok names_ok ks12_ok kf12_ok) Tryd.func49 (by kernel_rfl) (by kernel_rfl) (of_decide_eq_true (by kernel_rfl)) v_suf
theorem ks13_ok : CtrsOk Tryd.prog ks13 := ⟨c_suf, ks12_ok⟩
theorem v_last (x : HL (cLast : Ctr).as) (hp : (cLast : Ctr).pre x) (hl : LensL (cLast : Ctr).as x) : vc (fx_last x) 1 50 Tryd.f50 (cLast) x := by
 rw [E_last_eq]
 exact e_last x hp hl
theorem kf14_ok : CtrsOkF Tryd.prog kf14 := kf13_ok
theorem c_last : CtrOk Tryd.prog 50 (cLast) :=
 ctr_of_vc (c := cLast) (fn := Tryd.f50) (X := fx_last) (n := 1) (fun _ => mkFxF_all env_ok mixed_ok names_ok ks13_ok kf13_ok) Tryd.func50 (by kernel_rfl) (by kernel_rfl) (of_decide_eq_true (by kernel_rfl)) v_last
theorem ks14_ok : CtrsOk Tryd.prog ks14 := ⟨c_last, ks13_ok⟩
theorem v_qkey (x : HL (cKey : Ctr).as) (hp : (cKey : Ctr).pre x) (hl : LensL (cKey : Ctr).as x) : vc (fx_qkey x) 2 19 Tryd.f19 (cKey) x := by
 rw [E_qkey_eq]
 exact e_qkey x hp hl
theorem kf15_ok : CtrsOkF Tryd.prog kf15 := kf14_ok
theorem c_qkey : CtrOk Tryd.prog 19 (cKey) :=
 ctr_of_vc (c := cKey) (fn := Tryd.f19) (X := fx_qkey) (n := 2) (fun _ => mkFxF_all env_ok mixed_ok names_ok ks14_ok kf14_ok) Tryd.func19 (by kernel_rfl) (by kernel_rfl) (of_decide_eq_true (by kernel_rfl)) v_qkey
theorem ks15_ok : CtrsOk Tryd.prog ks15 := ⟨c_qkey, ks14_ok⟩
theorem v_same (x : HL (cSame : Ctr).as) (hp : (cSame : Ctr).pre x) (hl : LensL (cSame : Ctr).as x) : vc (fx_same x) 1 12 Tryd.f12 (cSame) x := by
 rw [E_same_eq]
 exact e_same x hp hl
theorem kf16_ok : CtrsOkF Tryd.prog kf16 := kf15_ok
theorem c_same : CtrOk Tryd.prog 12 (cSame) :=
 ctr_of_vc (c := cSame) (fn := Tryd.f12) (X := fx_same) (n := 1) (fun _ => mkFxF_all env_ok mixed_ok names_ok ks15_ok kf15_ok) Tryd.func12 (by kernel_rfl) (by kernel_rfl) (of_decide_eq_true (by kernel_rfl)) v_same
theorem ks16_ok : CtrsOk Tryd.prog ks16 := ⟨c_same, ks15_ok⟩
theorem ksAll_ok : CtrsOk Tryd.prog ksAll := ks16_ok
end Go.Proofs.YtppgbcmeagbalaaDoor.Tty
