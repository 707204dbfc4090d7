/-
 Each function keeps its contract.
-/
import Derived.Test.YtlmddcdafggphaaGreatDoorBenchPJ
import Derived.Test.YtlmddcdafggphaaGreatDoorBenchHJ
namespace Go.Proofs.YtlmddcdafggphaaGreatDoor.Bench
open Go.Sx
set_option maxRecDepth 100000
attribute [local irreducible] vc

theorem ks0_ok : CtrsOk Tryz.prog ks0 := trivial
theorem names_ok : namesOk Tryz.prog = true := by kernel_rfl
theorem mixed_ok : Tryz.prog.follows .mixedOrders = true := by kernel_rfl
theorem ks1_ok : CtrsOk Tryz.prog ks1 := ⟨c_itoa, ks0_ok⟩
theorem ks2_ok : CtrsOk Tryz.prog ks2 := ⟨c_fmt, ks1_ok⟩
theorem ks3_ok : CtrsOk Tryz.prog ks3 := ⟨c_atoi, ks2_ok⟩
theorem ks4_ok : CtrsOk Tryz.prog ks4 := ⟨c_pu, ks3_ok⟩
theorem ks5_ok : CtrsOk Tryz.prog ks5 := ⟨c_cut, ks4_ok⟩
theorem v_words (x : HL (cWords : Ctr).as) (hp : (cWords : Ctr).pre x) (hl : LensL (cWords : Ctr).as x) : vc (fx_words x) 1 27 Tryz.f27 (cWords) x := by
 rw [E_words_eq]
 exact e_words x hp hl
theorem c_words : CtrOk Tryz.prog 27 (cWords) :=
 ctr_of_vc (c := cWords) (fn := Tryz.f27) (X := fx_words) (n := 1) (fun _ => mkFx_all env_ok mixed_ok names_ok ks5_ok) Tryz.func27 (by kernel_rfl) (by kernel_rfl) (of_decide_eq_true (by kernel_rfl)) v_words
theorem ks6_ok : CtrsOk Tryz.prog ks6 := ⟨c_words, ks5_ok⟩
theorem v_line (x : HL (cLine : Ctr).as) (hp : (cLine : Ctr).pre x) (hl : LensL (cLine : Ctr).as x) : vc (fx_line x) 2 29 Tryz.f29 (cLine) x := by
 rw [E_line_eq]
 exact e_line x hp hl
theorem c_line : CtrOk Tryz.prog 29 (cLine) :=
 ctr_of_vc (c := cLine) (fn := Tryz.f29) (X := fx_line) (n := 2) (fun _ => mkFx_all env_ok mixed_ok names_ok ks6_ok) Tryz.func29 (by kernel_rfl) (by kernel_rfl) (of_decide_eq_true (by kernel_rfl)) v_line
theorem ks7_ok : CtrsOk Tryz.prog ks7 := ⟨c_line, ks6_ok⟩
theorem v_read (x : HL (cRead : Ctr).as) (hp : (cRead : Ctr).pre x) (hl : LensL (cRead : Ctr).as x) : vc (fx_read x) 2 15 Tryz.f15 (cRead) x := by
 rw [E_read_eq]
 exact e_read x hp hl
theorem c_read : CtrOk Tryz.prog 15 (cRead) :=
 ctr_of_vc (c := cRead) (fn := Tryz.f15) (X := fx_read) (n := 2) (fun _ => mkFx_all env_ok mixed_ok names_ok ks7_ok) Tryz.func15 (by kernel_rfl) (by kernel_rfl) (of_decide_eq_true (by kernel_rfl)) v_read
theorem ks8_ok : CtrsOk Tryz.prog ks8 := ⟨c_read, ks7_ok⟩
theorem v_parse (x : HL (cParse : Ctr).as) (hp : (cParse : Ctr).pre x) (hl : LensL (cParse : Ctr).as x) : vc (fx_parse x) 1 7 Tryz.f7 (cParse) x := by
 rw [E_parse_eq]
 exact e_parse x hp hl
theorem c_parse : CtrOk Tryz.prog 7 (cParse) :=
 ctr_of_vc (c := cParse) (fn := Tryz.f7) (X := fx_parse) (n := 1) (fun _ => mkFx_all env_ok mixed_ok names_ok ks8_ok) Tryz.func7 (by kernel_rfl) (by kernel_rfl) (of_decide_eq_true (by kernel_rfl)) v_parse
theorem ks9_ok : CtrsOk Tryz.prog ks9 := ⟨c_parse, ks8_ok⟩
theorem v_zread (x : HL (cZread : Ctr).as) (hp : (cZread : Ctr).pre x) (hl : LensL (cZread : Ctr).as x) : vc (fx_zread x) 2 22 Tryz.f22 (cZread) x := by
 rw [E_zread_eq]
 exact e_zread x hp hl
theorem c_zread : CtrOk Tryz.prog 22 (cZread) :=
 ctr_of_vc (c := cZread) (fn := Tryz.f22) (X := fx_zread) (n := 2) (fun _ => mkFx_all env_ok mixed_ok names_ok ks9_ok) Tryz.func22 (by kernel_rfl) (by kernel_rfl) (of_decide_eq_true (by kernel_rfl)) v_zread
theorem ks10_ok : CtrsOk Tryz.prog ks10 := ⟨c_zread, ks9_ok⟩
theorem v_zparse (x : HL (cParse : Ctr).as) (hp : (cParse : Ctr).pre x) (hl : LensL (cParse : Ctr).as x) : vc (fx_zparse x) 1 11 Tryz.f11 (cParse) x := by
 rw [E_zparse_eq]
 exact e_zparse x hp hl
theorem c_zparse : CtrOk Tryz.prog 11 (cParse) :=
 ctr_of_vc (c := cParse) (fn := Tryz.f11) (X := fx_zparse) (n := 1) (fun _ => mkFx_all env_ok mixed_ok names_ok ks10_ok) Tryz.func11 (by kernel_rfl) (by kernel_rfl) (of_decide_eq_true (by kernel_rfl)) v_zparse
theorem ks11_ok : CtrsOk Tryz.prog ks11 := ⟨c_zparse, ks10_ok⟩
theorem ksAll_ok : CtrsOk Tryz.prog ksAll := ks11_ok
end Go.Proofs.YtlmddcdafggphaaGreatDoor.Bench
