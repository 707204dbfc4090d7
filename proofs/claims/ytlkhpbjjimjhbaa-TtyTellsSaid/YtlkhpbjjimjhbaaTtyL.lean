/-
  Each function keeps its contract.
-/
import Derived.Test.YtlkhpbjjimjhbaaTtyP1
namespace Go.Proofs.Ytlkhpbjjimjhbaa.Tty
open Go.Sx
set_option maxRecDepth 100000
attribute [local irreducible] vc vcF

theorem kf0_ok : CtrsOkF Try.prog kf0 := trivial
theorem ks0_ok : CtrsOk Try.prog ks0 := trivial
theorem names_ok : namesOk Try.prog = true := by kernel_rfl
theorem mixed_ok : Try.prog.follows .mixedOrders = true := by kernel_rfl
theorem v_cloneb (x : HL (cCloneB : Ctr).as) (hp : (cCloneB : Ctr).pre x) (hl : LensL (cCloneB : Ctr).as x) : vc (fx_cloneb x) 1 53 Try.f53 (cCloneB) x := by
  rw [E_cloneb_eq]
  exact e_cloneb x hp hl
theorem kf1_ok : CtrsOkF Try.prog kf1 := kf0_ok
theorem c_cloneb : CtrOk Try.prog 53 (cCloneB) :=
  ctr_of_vc (c := cCloneB) (fn := Try.f53) (X := fx_cloneb) (n := 1) (fun _ => mkFxF_all env_ok mixed_ok names_ok ks0_ok kf0_ok) Try.func53 (by kernel_rfl) (by kernel_rfl) (of_decide_eq_true (by kernel_rfl)) v_cloneb
theorem ks1_ok : CtrsOk Try.prog ks1 := ⟨c_cloneb, ks0_ok⟩
theorem v_any (x : HL (cAny : Ctr).as) (hp : (cAny : Ctr).pre x) (hl : LensL (cAny : Ctr).as x) : vcF (fx_any x) 3 57 58 Try.f57 (cAny) x := by
  rw [E_any_eq]
  exact e_any x hp hl
theorem c_any : CtrOkF Try.prog 57 58 (cAny) :=
  ctrF_of_vc (c := cAny) (fn := Try.f57) (X := fx_any) (n := 3) (fun _ => mkFxF_all env_ok mixed_ok names_ok ks1_ok kf1_ok) Try.func57 (by kernel_rfl) (by kernel_rfl) (of_decide_eq_true (by kernel_rfl)) v_any
theorem ks2_ok : CtrsOk Try.prog ks2 := ks1_ok
theorem kf2_ok : CtrsOkF Try.prog kf2 := ⟨c_any, kf1_ok⟩
theorem v_right (x : HL (cRight : Ctr).as) (hp : (cRight : Ctr).pre x) (hl : LensL (cRight : Ctr).as x) : vc (fx_right x) 1 23 Try.f23 (cRight) x := by
  rw [E_right_eq]
  exact e_right x hp hl
theorem kf3_ok : CtrsOkF Try.prog kf3 := kf2_ok
theorem c_right : CtrOk Try.prog 23 (cRight) :=
  ctr_of_vc (c := cRight) (fn := Try.f23) (X := fx_right) (n := 1) (fun _ => mkFxF_all env_ok mixed_ok names_ok ks2_ok kf2_ok) Try.func23 (by kernel_rfl) (by kernel_rfl) (of_decide_eq_true (by kernel_rfl)) v_right
theorem ks3_ok : CtrsOk Try.prog ks3 := ⟨c_right, ks2_ok⟩
theorem v_qright (x : HL (cRight : Ctr).as) (hp : (cRight : Ctr).pre x) (hl : LensL (cRight : Ctr).as x) : vc (fx_qright x) 1 24 Try.f24 (cRight) x := by
  rw [E_qright_eq]
  exact e_qright x hp hl
theorem kf4_ok : CtrsOkF Try.prog kf4 := kf3_ok
theorem c_qright : CtrOk Try.prog 24 (cRight) :=
  ctr_of_vc (c := cRight) (fn := Try.f24) (X := fx_qright) (n := 1) (fun _ => mkFxF_all env_ok mixed_ok names_ok ks3_ok kf3_ok) Try.func24 (by kernel_rfl) (by kernel_rfl) (of_decide_eq_true (by kernel_rfl)) v_qright
theorem ks4_ok : CtrsOk Try.prog ks4 := ⟨c_qright, ks3_ok⟩
theorem v_read (x : HL (cRead : Ctr).as) (hp : (cRead : Ctr).pre x) (hl : LensL (cRead : Ctr).as x) : vc (fx_read x) 2 21 Try.f21 (cRead) x := by
  rw [E_read_eq]
  exact e_read x hp hl
theorem kf5_ok : CtrsOkF Try.prog kf5 := kf4_ok
theorem c_read : CtrOk Try.prog 21 (cRead) :=
  ctr_of_vc (c := cRead) (fn := Try.f21) (X := fx_read) (n := 2) (fun _ => mkFxF_all env_ok mixed_ok names_ok ks4_ok kf4_ok) Try.func21 (by kernel_rfl) (by kernel_rfl) (of_decide_eq_true (by kernel_rfl)) v_read
theorem ks5_ok : CtrsOk Try.prog ks5 := ⟨c_read, ks4_ok⟩
theorem v_own (x : HL (cOwn : Ctr).as) (hp : (cOwn : Ctr).pre x) (hl : LensL (cOwn : Ctr).as x) : vc (fx_own x) 1 54 Try.f54 (cOwn) x := by
  rw [E_own_eq]
  exact e_own x hp hl
theorem kf6_ok : CtrsOkF Try.prog kf6 := kf5_ok
theorem c_own : CtrOk Try.prog 54 (cOwn) :=
  ctr_of_vc (c := cOwn) (fn := Try.f54) (X := fx_own) (n := 1) (fun _ => mkFxF_all env_ok mixed_ok names_ok ks5_ok kf5_ok) Try.func54 (by kernel_rfl) (by kernel_rfl) (of_decide_eq_true (by kernel_rfl)) v_own
theorem ks6_ok : CtrsOk Try.prog ks6 := ⟨c_own, ks5_ok⟩
theorem v_qread (x : HL (cRead : Ctr).as) (hp : (cRead : Ctr).pre x) (hl : LensL (cRead : Ctr).as x) : vc (fx_qread x) 1 22 Try.f22 (cRead) x := by
  rw [E_qread_eq]
  exact e_qread x hp hl
theorem kf7_ok : CtrsOkF Try.prog kf7 := kf6_ok
theorem c_qread : CtrOk Try.prog 22 (cRead) :=
  ctr_of_vc (c := cRead) (fn := Try.f22) (X := fx_qread) (n := 1) (fun _ => mkFxF_all env_ok mixed_ok names_ok ks6_ok kf6_ok) Try.func22 (by kernel_rfl) (by kernel_rfl) (of_decide_eq_true (by kernel_rfl)) v_qread
theorem ks7_ok : CtrsOk Try.prog ks7 := ⟨c_qread, ks6_ok⟩
theorem v_cloneo (x : HL (cCloneO : Ctr).as) (hp : (cCloneO : Ctr).pre x) (hl : LensL (cCloneO : Ctr).as x) : vc (fx_cloneo x) 1 53 Try.f53 (cCloneO) x := by
  rw [E_cloneo_eq]
  exact e_cloneo x hp hl
theorem kf8_ok : CtrsOkF Try.prog kf8 := kf7_ok
theorem c_cloneo : CtrOk Try.prog 53 (cCloneO) :=
  ctr_of_vc (c := cCloneO) (fn := Try.f53) (X := fx_cloneo) (n := 1) (fun _ => mkFxF_all env_ok mixed_ok names_ok ks7_ok kf7_ok) Try.func53 (by kernel_rfl) (by kernel_rfl) (of_decide_eq_true (by kernel_rfl)) v_cloneo
theorem ks8_ok : CtrsOk Try.prog ks8 := ⟨c_cloneo, ks7_ok⟩
theorem v_clonel (x : HL (cCloneL : Ctr).as) (hp : (cCloneL : Ctr).pre x) (hl : LensL (cCloneL : Ctr).as x) : vc (fx_clonel x) 1 90 Try.f90 (cCloneL) x := by
  rw [E_clonel_eq]
  exact e_clonel x hp hl
theorem kf9_ok : CtrsOkF Try.prog kf9 := kf8_ok
theorem c_clonel : CtrOk Try.prog 90 (cCloneL) :=
  ctr_of_vc (c := cCloneL) (fn := Try.f90) (X := fx_clonel) (n := 1) (fun _ => mkFxF_all env_ok mixed_ok names_ok ks8_ok kf8_ok) Try.func90 (by kernel_rfl) (by kernel_rfl) (of_decide_eq_true (by kernel_rfl)) v_clonel
theorem ks9_ok : CtrsOk Try.prog ks9 := ⟨c_clonel, ks8_ok⟩
theorem v_cloney (x : HL (cCloneO : Ctr).as) (hp : (cCloneO : Ctr).pre x) (hl : LensL (cCloneO : Ctr).as x) : vc (fx_cloney x) 1 91 Try.f91 (cCloneO) x := by
  rw [E_cloney_eq]
  exact e_cloney x hp hl
theorem kf10_ok : CtrsOkF Try.prog kf10 := kf9_ok
theorem c_cloney : CtrOk Try.prog 91 (cCloneO) :=
  ctr_of_vc (c := cCloneO) (fn := Try.f91) (X := fx_cloney) (n := 1) (fun _ => mkFxF_all env_ok mixed_ok names_ok ks9_ok kf9_ok) Try.func91 (by kernel_rfl) (by kernel_rfl) (of_decide_eq_true (by kernel_rfl)) v_cloney
theorem ks10_ok : CtrsOk Try.prog ks10 := ⟨c_cloney, ks9_ok⟩
theorem v_word (x : HL (cWord : Ctr).as) (hp : (cWord : Ctr).pre x) (hl : LensL (cWord : Ctr).as x) : vc (fx_word x) 1 52 Try.f52 (cWord) x := by
  rw [E_word_eq]
  exact e_word x hp hl
theorem kf11_ok : CtrsOkF Try.prog kf11 := kf10_ok
theorem c_word : CtrOk Try.prog 52 (cWord) :=
  ctr_of_vc (c := cWord) (fn := Try.f52) (X := fx_word) (n := 1) (fun _ => mkFxF_all env_ok mixed_ok names_ok ks10_ok kf10_ok) Try.func52 (by kernel_rfl) (by kernel_rfl) (of_decide_eq_true (by kernel_rfl)) v_word
theorem ks11_ok : CtrsOk Try.prog ks11 := ⟨c_word, ks10_ok⟩
theorem v_key (x : HL (cKey : Ctr).as) (hp : (cKey : Ctr).pre x) (hl : LensL (cKey : Ctr).as x) : vc (fx_key x) 2 19 Try.f19 (cKey) x := by
  rw [E_key_eq]
  exact e_key x hp hl
theorem kf12_ok : CtrsOkF Try.prog kf12 := kf11_ok
theorem c_key : CtrOk Try.prog 19 (cKey) :=
  ctr_of_vc (c := cKey) (fn := Try.f19) (X := fx_key) (n := 2) (fun _ => mkFxF_all env_ok mixed_ok names_ok ks11_ok kf11_ok) Try.func19 (by kernel_rfl) (by kernel_rfl) (of_decide_eq_true (by kernel_rfl)) v_key
theorem ks12_ok : CtrsOk Try.prog ks12 := ⟨c_key, ks11_ok⟩
theorem v_suf (x : HL (cSuf : Ctr).as) (hp : (cSuf : Ctr).pre x) (hl : LensL (cSuf : Ctr).as x) : vc (fx_suf x) 1 92 Try.f92 (cSuf) x := by
  rw [E_suf_eq]
  exact e_suf x hp hl
theorem kf13_ok : CtrsOkF Try.prog kf13 := kf12_ok
theorem c_suf : CtrOk Try.prog 92 (cSuf) :=
  ctr_of_vc (c := cSuf) (fn := Try.f92) (X := fx_suf) (n := 1) (fun _ => mkFxF_all env_ok mixed_ok names_ok ks12_ok kf12_ok) Try.func92 (by kernel_rfl) (by kernel_rfl) (of_decide_eq_true (by kernel_rfl)) v_suf
theorem ks13_ok : CtrsOk Try.prog ks13 := ⟨c_suf, ks12_ok⟩
theorem v_last (x : HL (cLast : Ctr).as) (hp : (cLast : Ctr).pre x) (hl : LensL (cLast : Ctr).as x) : vc (fx_last x) 1 93 Try.f93 (cLast) x := by
  rw [E_last_eq]
  exact e_last x hp hl
theorem kf14_ok : CtrsOkF Try.prog kf14 := kf13_ok
theorem c_last : CtrOk Try.prog 93 (cLast) :=
  ctr_of_vc (c := cLast) (fn := Try.f93) (X := fx_last) (n := 1) (fun _ => mkFxF_all env_ok mixed_ok names_ok ks13_ok kf13_ok) Try.func93 (by kernel_rfl) (by kernel_rfl) (of_decide_eq_true (by kernel_rfl)) v_last
theorem ks14_ok : CtrsOk Try.prog ks14 := ⟨c_last, ks13_ok⟩
theorem v_qkey (x : HL (cKey : Ctr).as) (hp : (cKey : Ctr).pre x) (hl : LensL (cKey : Ctr).as x) : vc (fx_qkey x) 2 20 Try.f20 (cKey) x := by
  rw [E_qkey_eq]
  exact e_qkey x hp hl
theorem kf15_ok : CtrsOkF Try.prog kf15 := kf14_ok
theorem c_qkey : CtrOk Try.prog 20 (cKey) :=
  ctr_of_vc (c := cKey) (fn := Try.f20) (X := fx_qkey) (n := 2) (fun _ => mkFxF_all env_ok mixed_ok names_ok ks14_ok kf14_ok) Try.func20 (by kernel_rfl) (by kernel_rfl) (of_decide_eq_true (by kernel_rfl)) v_qkey
theorem ks15_ok : CtrsOk Try.prog ks15 := ⟨c_qkey, ks14_ok⟩
theorem v_same (x : HL (cSame : Ctr).as) (hp : (cSame : Ctr).pre x) (hl : LensL (cSame : Ctr).as x) : vc (fx_same x) 1 12 Try.f12 (cSame) x := by
  rw [E_same_eq]
  exact e_same x hp hl
theorem kf16_ok : CtrsOkF Try.prog kf16 := kf15_ok
theorem c_same : CtrOk Try.prog 12 (cSame) :=
  ctr_of_vc (c := cSame) (fn := Try.f12) (X := fx_same) (n := 1) (fun _ => mkFxF_all env_ok mixed_ok names_ok ks15_ok kf15_ok) Try.func12 (by kernel_rfl) (by kernel_rfl) (of_decide_eq_true (by kernel_rfl)) v_same
theorem ks16_ok : CtrsOk Try.prog ks16 := ⟨c_same, ks15_ok⟩
theorem v_type (x : HL (cType : Ctr).as) (hp : (cType : Ctr).pre x) (hl : LensL (cType : Ctr).as x) : vc (fx_type x) 1 13 Try.f13 (cType) x := by
  rw [E_type_eq]
  exact e_type x hp hl
theorem kf17_ok : CtrsOkF Try.prog kf17 := kf16_ok
theorem c_type : CtrOk Try.prog 13 (cType) :=
  ctr_of_vc (c := cType) (fn := Try.f13) (X := fx_type) (n := 1) (fun _ => mkFxF_all env_ok mixed_ok names_ok ks16_ok kf16_ok) Try.func13 (by kernel_rfl) (by kernel_rfl) (of_decide_eq_true (by kernel_rfl)) v_type
theorem ks17_ok : CtrsOk Try.prog ks17 := ⟨c_type, ks16_ok⟩
theorem v_qtype (x : HL (cType : Ctr).as) (hp : (cType : Ctr).pre x) (hl : LensL (cType : Ctr).as x) : vc (fx_qtype x) 1 14 Try.f14 (cType) x := by
  rw [E_qtype_eq]
  exact e_qtype x hp hl
theorem kf18_ok : CtrsOkF Try.prog kf18 := kf17_ok
theorem c_qtype : CtrOk Try.prog 14 (cType) :=
  ctr_of_vc (c := cType) (fn := Try.f14) (X := fx_qtype) (n := 1) (fun _ => mkFxF_all env_ok mixed_ok names_ok ks17_ok kf17_ok) Try.func14 (by kernel_rfl) (by kernel_rfl) (of_decide_eq_true (by kernel_rfl)) v_qtype
theorem ks18_ok : CtrsOk Try.prog ks18 := ⟨c_qtype, ks17_ok⟩
theorem v_types (x : HL (cTypes : Ctr).as) (hp : (cTypes : Ctr).pre x) (hl : LensL (cTypes : Ctr).as x) : vc (fx_types x) 1 3 Try.f3 (cTypes) x := by
  rw [E_types_eq]
  exact e_types x hp hl
theorem kf19_ok : CtrsOkF Try.prog kf19 := kf18_ok
theorem c_types : CtrOk Try.prog 3 (cTypes) :=
  ctr_of_vc (c := cTypes) (fn := Try.f3) (X := fx_types) (n := 1) (fun _ => mkFxF_all env_ok mixed_ok names_ok ks18_ok kf18_ok) Try.func3 (by kernel_rfl) (by kernel_rfl) (of_decide_eq_true (by kernel_rfl)) v_types
theorem ks19_ok : CtrsOk Try.prog ks19 := ⟨c_types, ks18_ok⟩
theorem v_tells (x : HL (cTells : Ctr).as) (hp : (cTells : Ctr).pre x) (hl : LensL (cTells : Ctr).as x) : vc (fx_tells x) 1 5 Try.f5 (cTells) x := by
  rw [E_tells_eq]
  exact e_tells x hp hl
theorem kf20_ok : CtrsOkF Try.prog kf20 := kf19_ok
theorem c_tells : CtrOk Try.prog 5 (cTells) :=
  ctr_of_vc (c := cTells) (fn := Try.f5) (X := fx_tells) (n := 1) (fun _ => mkFxF_all env_ok mixed_ok names_ok ks19_ok kf19_ok) Try.func5 (by kernel_rfl) (by kernel_rfl) (of_decide_eq_true (by kernel_rfl)) v_tells
theorem ks20_ok : CtrsOk Try.prog ks20 := ⟨c_tells, ks19_ok⟩
theorem ksAll_ok : CtrsOk Try.prog ksAll := ks20_ok
end Go.Proofs.Ytlkhpbjjimjhbaa.Tty
