/-
  Each function keeps its contract.
-/
import Derived.Test.YtjafnenkgmbgaaaDoorBenchP6
import Derived.Test.YtjafnenkgmbgaaaDoorBenchH0
import Derived.Test.YtjafnenkgmbgaaaDoorBenchH1
import Derived.Test.YtjafnenkgmbgaaaDoorBenchH2
import Derived.Test.YtjafnenkgmbgaaaDoorBenchH3
import Derived.Test.YtjafnenkgmbgaaaDoorBenchH4
import Derived.Test.YtjafnenkgmbgaaaDoorBenchH5
import Derived.Test.YtjafnenkgmbgaaaDoorBenchH6
import Derived.Test.YtjafnenkgmbgaaaDoorBenchH7
namespace Go.Proofs.YtjafnenkgmbgaaaDoor.Bench
open Go.Sx
set_option maxRecDepth 100000
attribute [local irreducible] vc

theorem ks0_ok : CtrsOk Tryd.prog ks0 := trivial
theorem names_ok : namesOk Tryd.prog = true := by kernel_rfl
theorem mixed_ok : Tryd.prog.follows .mixedOrders = true := by kernel_rfl
theorem ks1_ok : CtrsOk Tryd.prog ks1 := ⟨c_itoa, ks0_ok⟩
theorem ks2_ok : CtrsOk Tryd.prog ks2 := ⟨c_fmt, ks1_ok⟩
theorem ks3_ok : CtrsOk Tryd.prog ks3 := ⟨c_atoi, ks2_ok⟩
theorem ks4_ok : CtrsOk Tryd.prog ks4 := ⟨c_pu, ks3_ok⟩
theorem ks5_ok : CtrsOk Tryd.prog ks5 := ⟨c_cut, ks4_ok⟩
theorem v_equal (x : HL (cEqual : Ctr).as) (hp : (cEqual : Ctr).pre x) (hl : LensL (cEqual : Ctr).as x) : vc (fx_equal x) 1 8 Tryd.f8 (cEqual) x := by
  rw [E_equal_eq]
  exact e_equal x hp hl
theorem c_equal : CtrOk Tryd.prog 8 (cEqual) :=
  ctr_of_vc (c := cEqual) (fn := Tryd.f8) (X := fx_equal) (n := 1) (fun _ => mkFx_all env_ok mixed_ok names_ok ks5_ok) Tryd.func8 (by kernel_rfl) (by kernel_rfl) (of_decide_eq_true (by kernel_rfl)) v_equal
theorem ks6_ok : CtrsOk Tryd.prog ks6 := ⟨c_equal, ks5_ok⟩
theorem v_words (x : HL (cWords : Ctr).as) (hp : (cWords : Ctr).pre x) (hl : LensL (cWords : Ctr).as x) : vc (fx_words x) 1 18 Tryd.f18 (cWords) x := by
  rw [E_words_eq]
  exact e_words x hp hl
theorem c_words : CtrOk Tryd.prog 18 (cWords) :=
  ctr_of_vc (c := cWords) (fn := Tryd.f18) (X := fx_words) (n := 1) (fun _ => mkFx_all env_ok mixed_ok names_ok ks6_ok) Tryd.func18 (by kernel_rfl) (by kernel_rfl) (of_decide_eq_true (by kernel_rfl)) v_words
theorem ks7_ok : CtrsOk Tryd.prog ks7 := ⟨c_words, ks6_ok⟩
theorem v_line (x : HL (cLine : Ctr).as) (hp : (cLine : Ctr).pre x) (hl : LensL (cLine : Ctr).as x) : vc (fx_line x) 2 9 Tryd.f9 (cLine) x := by
  rw [E_line_eq]
  exact e_line x hp hl
theorem c_line : CtrOk Tryd.prog 9 (cLine) :=
  ctr_of_vc (c := cLine) (fn := Tryd.f9) (X := fx_line) (n := 2) (fun _ => mkFx_all env_ok mixed_ok names_ok ks7_ok) Tryd.func9 (by kernel_rfl) (by kernel_rfl) (of_decide_eq_true (by kernel_rfl)) v_line
theorem ks8_ok : CtrsOk Tryd.prog ks8 := ⟨c_line, ks7_ok⟩
theorem v_read (x : HL (cRead : Ctr).as) (hp : (cRead : Ctr).pre x) (hl : LensL (cRead : Ctr).as x) : vc (fx_read x) 2 15 Tryd.f15 (cRead) x := by
  rw [E_read_eq]
  exact e_read x hp hl
theorem c_read : CtrOk Tryd.prog 15 (cRead) :=
  ctr_of_vc (c := cRead) (fn := Tryd.f15) (X := fx_read) (n := 2) (fun _ => mkFx_all env_ok mixed_ok names_ok ks8_ok) Tryd.func15 (by kernel_rfl) (by kernel_rfl) (of_decide_eq_true (by kernel_rfl)) v_read
theorem ks9_ok : CtrsOk Tryd.prog ks9 := ⟨c_read, ks8_ok⟩
theorem v_parse (x : HL (cParse : Ctr).as) (hp : (cParse : Ctr).pre x) (hl : LensL (cParse : Ctr).as x) : vc (fx_parse x) 1 6 Tryd.f6 (cParse) x := by
  rw [E_parse_eq]
  exact e_parse x hp hl
theorem c_parse : CtrOk Tryd.prog 6 (cParse) :=
  ctr_of_vc (c := cParse) (fn := Tryd.f6) (X := fx_parse) (n := 1) (fun _ => mkFx_all env_ok mixed_ok names_ok ks9_ok) Tryd.func6 (by kernel_rfl) (by kernel_rfl) (of_decide_eq_true (by kernel_rfl)) v_parse
theorem ks10_ok : CtrsOk Tryd.prog ks10 := ⟨c_parse, ks9_ok⟩
theorem c_print : CtrOk Tryd.prog 4 (cPrint) := print_of c_line
theorem ks11_ok : CtrsOk Tryd.prog ks11 := ⟨c_print, ks10_ok⟩
theorem v_zprint (x : HL (cPrint : Ctr).as) (hp : (cPrint : Ctr).pre x) (hl : LensL (cPrint : Ctr).as x) : vc (fx_zprint x) 2 5 Tryd.f5 (cPrint) x := by
  rw [E_zprint_eq]
  exact e_zprint x hp hl
theorem c_zprint : CtrOk Tryd.prog 5 (cPrint) :=
  ctr_of_vc (c := cPrint) (fn := Tryd.f5) (X := fx_zprint) (n := 2) (fun _ => mkFx_all env_ok mixed_ok names_ok ks11_ok) Tryd.func5 (by kernel_rfl) (by kernel_rfl) (of_decide_eq_true (by kernel_rfl)) v_zprint
theorem ks12_ok : CtrsOk Tryd.prog ks12 := ⟨c_zprint, ks11_ok⟩
theorem v_zread (x : HL (cZread : Ctr).as) (hp : (cZread : Ctr).pre x) (hl : LensL (cZread : Ctr).as x) : vc (fx_zread x) 2 16 Tryd.f16 (cZread) x := by
  rw [E_zread_eq]
  exact e_zread x hp hl
theorem c_zread : CtrOk Tryd.prog 16 (cZread) :=
  ctr_of_vc (c := cZread) (fn := Tryd.f16) (X := fx_zread) (n := 2) (fun _ => mkFx_all env_ok mixed_ok names_ok ks12_ok) Tryd.func16 (by kernel_rfl) (by kernel_rfl) (of_decide_eq_true (by kernel_rfl)) v_zread
theorem ks13_ok : CtrsOk Tryd.prog ks13 := ⟨c_zread, ks12_ok⟩
theorem v_zparse (x : HL (cParse : Ctr).as) (hp : (cParse : Ctr).pre x) (hl : LensL (cParse : Ctr).as x) : vc (fx_zparse x) 1 7 Tryd.f7 (cParse) x := by
  rw [E_zparse_eq]
  exact e_zparse x hp hl
theorem c_zparse : CtrOk Tryd.prog 7 (cParse) :=
  ctr_of_vc (c := cParse) (fn := Tryd.f7) (X := fx_zparse) (n := 1) (fun _ => mkFx_all env_ok mixed_ok names_ok ks13_ok) Tryd.func7 (by kernel_rfl) (by kernel_rfl) (of_decide_eq_true (by kernel_rfl)) v_zparse
theorem ks14_ok : CtrsOk Tryd.prog ks14 := ⟨c_zparse, ks13_ok⟩
theorem v_law (x : HL (cLaw : Ctr).as) (hp : (cLaw : Ctr).pre x) (hl : LensL (cLaw : Ctr).as x) : vc (fx_law x) 1 3 Tryd.f3 (cLaw) x := by
  rw [E_law_eq]
  exact e_law x hp hl
theorem c_law : CtrOk Tryd.prog 3 (cLaw) :=
  ctr_of_vc (c := cLaw) (fn := Tryd.f3) (X := fx_law) (n := 1) (fun _ => mkFx_all env_ok mixed_ok names_ok ks14_ok) Tryd.func3 (by kernel_rfl) (by kernel_rfl) (of_decide_eq_true (by kernel_rfl)) v_law
theorem ks15_ok : CtrsOk Tryd.prog ks15 := ⟨c_law, ks14_ok⟩
theorem ksAll_ok : CtrsOk Tryd.prog ksAll := ks15_ok
end Go.Proofs.YtjafnenkgmbgaaaDoor.Bench
