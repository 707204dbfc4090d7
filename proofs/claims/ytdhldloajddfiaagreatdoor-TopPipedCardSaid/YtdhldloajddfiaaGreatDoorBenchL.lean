/-
 Each function keeps its contract.
-/
import Derived.Test.YtdhldloajddfiaaGreatDoorBenchPJ
import Derived.Test.YtdhldloajddfiaaGreatDoorBenchHJ
namespace Go.Proofs.YtdhldloajddfiaaGreatDoor.Bench
open Go.Sx
set_option maxRecDepth 100000
attribute [local irreducible] vc

theorem ks0_ok : CtrsOk Tryz.prog ks0 := trivial
theorem names_ok : namesOk Tryz.prog = true := by kernel_rfl
theorem mixed_ok : Tryz.prog.follows .mixedOrders = true := by kernel_rfl
theorem ks1_ok : CtrsOk Tryz.prog ks1 := ⟨c_itoa, ks0_ok⟩
theorem ks2_ok : CtrsOk Tryz.prog ks2 := ⟨c_atoi, ks1_ok⟩
theorem ks3_ok : CtrsOk Tryz.prog ks3 := ⟨c_cut, ks2_ok⟩
theorem v_words (x : HL (cWords : Ctr).as) (hp : (cWords : Ctr).pre x) (hl : LensL (cWords : Ctr).as x) : vc (fx_words x) 1 62 Tryz.f62 (cWords) x := by
 rw [E_words_eq]
 exact e_words x hp hl
theorem c_words : CtrOk Tryz.prog 62 (cWords) :=
 ctr_of_vc (c := cWords) (fn := Tryz.f62) (X := fx_words) (n := 1) (fun _ => mkFx_all env_ok mixed_ok names_ok ks3_ok) Tryz.func62 (by kernel_rfl) (by kernel_rfl) (of_decide_eq_true (by kernel_rfl)) v_words
theorem ks4_ok : CtrsOk Tryz.prog ks4 := ⟨c_words, ks3_ok⟩
theorem v_line (x : HL (cLine : Ctr).as) (hp : (cLine : Ctr).pre x) (hl : LensL (cLine : Ctr).as x) : vc (fx_line x) 2 64 Tryz.f64 (cLine) x := by
 rw [E_line_eq]
 exact e_line x hp hl
theorem c_line : CtrOk Tryz.prog 64 (cLine) :=
 ctr_of_vc (c := cLine) (fn := Tryz.f64) (X := fx_line) (n := 2) (fun _ => mkFx_all env_ok mixed_ok names_ok ks4_ok) Tryz.func64 (by kernel_rfl) (by kernel_rfl) (of_decide_eq_true (by kernel_rfl)) v_line
theorem ks5_ok : CtrsOk Tryz.prog ks5 := ⟨c_line, ks4_ok⟩
theorem v_read (x : HL (cRead : Ctr).as) (hp : (cRead : Ctr).pre x) (hl : LensL (cRead : Ctr).as x) : vc (fx_read x) 2 47 Tryz.f47 (cRead) x := by
 rw [E_read_eq]
 exact e_read x hp hl
theorem c_read : CtrOk Tryz.prog 47 (cRead) :=
 ctr_of_vc (c := cRead) (fn := Tryz.f47) (X := fx_read) (n := 2) (fun _ => mkFx_all env_ok mixed_ok names_ok ks5_ok) Tryz.func47 (by kernel_rfl) (by kernel_rfl) (of_decide_eq_true (by kernel_rfl)) v_read
theorem ks6_ok : CtrsOk Tryz.prog ks6 := ⟨c_read, ks5_ok⟩
theorem v_parse (x : HL (cParse : Ctr).as) (hp : (cParse : Ctr).pre x) (hl : LensL (cParse : Ctr).as x) : vc (fx_parse x) 1 30 Tryz.f30 (cParse) x := by
 rw [E_parse_eq]
 exact e_parse x hp hl
theorem c_parse : CtrOk Tryz.prog 30 (cParse) :=
 ctr_of_vc (c := cParse) (fn := Tryz.f30) (X := fx_parse) (n := 1) (fun _ => mkFx_all env_ok mixed_ok names_ok ks6_ok) Tryz.func30 (by kernel_rfl) (by kernel_rfl) (of_decide_eq_true (by kernel_rfl)) v_parse
theorem ks7_ok : CtrsOk Tryz.prog ks7 := ⟨c_parse, ks6_ok⟩
theorem ksAll_ok : CtrsOk Tryz.prog ksAll := ks7_ok
end Go.Proofs.YtdhldloajddfiaaGreatDoor.Bench
