/-
  bench.Print keeps its contract, where bench.line does.
-/
import Derived.Test.YtjafnenkgmbgaaaDoorBenchC
import Derived.Test.YtjafnenkgmbgaaaDoorBenchH6
import Derived.WalkKit
import Derived.BigCall
import Derived.Lib.AppendIntMem
import Derived.Lib.BufferOld
namespace Go.Proofs.YtjafnenkgmbgaaaDoor.Bench
open Go.Sx
set_option maxRecDepth 100000
set_option maxHeartbeats 4000000
set_option linter.unusedSimpArgs false
set_option linter.unusedVariables false

open Go Go.Proofs Go.RowKit Go.Shelf
def cellsK (x : KO) : List Value := [.int .i64 x.1, .int .i64 x.2.1, .int .i64 x.2.2.1, .int .u8 x.2.2.2]
def textK (l : List KO) : List Int := (l.map fun o => txtK o ++ [10]).flatten
theorem isBytes_of {l : List Int} (h : l.length ≤ 9223372036854775807) (hb : ∀ b ∈ l, 0 ≤ b ∧ b ≤ 255) : isBytes l := ⟨h, hb⟩
theorem line_call (hl : CtrOk Tryd.prog 9 cLine) (x : KO) (h0 : IR .i64 x.1) (h1 : IR .i64 x.2.1) (h2 : IR .i64 x.2.2.1) (h3 : IR .u8 x.2.2.2) (W : World) (hg : GlOk W) :
    Calls Tryd.prog 9 #[.agg #[.int .i64 x.1, .int .i64 x.2.1, .int .i64 x.2.2.1, .int .u8 x.2.2.2]] W fun e W' =>
      e = .returned (.tuple #[.string (mkStr (if okK x = true then txtK x else [])), .bool (okK x)]) ∧ Below W.heap.size W W' := by
  have hr : RdVs (fun _ => False) W cLine.as [Value.agg #[.int .i64 x.1, .int .i64 x.2.1, .int .i64 x.2.2.1, .int .u8 x.2.2.2]] (x, ()) :=
    ⟨⟨_, rfl, ⟨[.int .i64 x.1], [.int .i64 x.2.1, .int .i64 x.2.2.1, .int .u8 x.2.2.2], rfl, ⟨rfl, h0⟩, [.int .i64 x.2.1], [.int .i64 x.2.2.1, .int .u8 x.2.2.2], rfl, ⟨rfl, h1⟩, [.int .i64 x.2.2.1], [.int .u8 x.2.2.2], rfl, ⟨rfl, h2⟩, rfl, h3⟩⟩, trivial⟩
  refine (hl.2 (fun _ => False) W _ (x, ()) (fun _ h => h.elim) hg hr trivial).mono fun e W' h => ?_
  obtain ⟨v, rfl, ⟨vs, rfl, hv⟩, hb⟩ := h
  obtain ⟨l⟩ := vs
  match l, hv with
  | [], h => exact h.elim
  | [_], h => exact h.2.elim
  | [v, v'], h =>
    obtain ⟨e1, -⟩ : [v] = [Value.string (mkStr (if okK x = true then txtK x else []))] ∧ isBytes _ := h.1
    have e2 : [v'] = [Value.bool (okK x)] := h.2.1
    injection e1 with e1
    injection e2 with e2
    subst e1 e2
    exact ⟨rfl, hb⟩
  | _ :: _ :: _ :: _, h => exact h.2.2.elim
theorem txt_len {x : KO} (h : okK x = true) : (txtK x).length ≤ 28 := by
  unfold okK at h
  have h' := of_decide_eq_true h
  unfold txtK
  have h1 : (wordsK.getD (x.1 - 1).toNat []).length ≤ 7 := by
    rcases (show (x.1 - 1).toNat = 0 ∨ (x.1 - 1).toNat = 1 ∨ (x.1 - 1).toNat = 2 ∨ (x.1 - 1).toNat = 3 ∨ (x.1 - 1).toNat = 4 ∨ (x.1 - 1).toNat = 5 by omega) with h | h | h | h | h | h <;> rw [h] <;> decide
  have h2 : (dec (numK x)).length ≤ 20 := by
    unfold dec un8
    rw [List.length_map]
    exact nDigits_le (by omega)
  simp only [List.length_append, List.length_singleton]
  omega
theorem text_len : ∀ l : List KO, l.all okK = true → (textK l).length ≤ 29 * l.length
  | [], _ => by simp [textK]
  | x :: r, h => by
    rw [List.all_cons, Bool.and_eq_true] at h
    have h1 := txt_len h.1
    have h2 := text_len r h.2
    have e : textK (x :: r) = (txtK x ++ [10]) ++ textK r := rfl
    rw [e]
    simp only [List.length_append, List.length_cons, List.length_nil]
    omega
theorem text_snoc (l : List KO) (x : KO) : textK (l ++ [x]) = textK l ++ (txtK x ++ [10]) := by
  unfold textK
  rw [List.map_append, List.flatten_append]
  simp
theorem cells_text (a b : List Int) : Lib.byteCells (by8 (a ++ (b ++ [10]))) = Lib.byteCells (by8 a) ++ Lib.strCells (mkStr b ++ ⟨#[10]⟩) := by
  have e1 : by8 (a ++ (b ++ [10])) = by8 a ++ (by8 b ++ [10]) := by simp [by8]
  have e2 : (mkStr b ++ ⟨#[10]⟩ : ByteArray) = ⟨(by8 b ++ [10]).toArray⟩ := by
    apply ByteArray.ext
    rw [ByteArray.data_append]
    simp [mkStr, by8]
  rw [e1, Lib.byteCells_append, e2]
  rfl
theorem bytes_un8 (l : List UInt8) : ∀ b ∈ un8 l, 0 ≤ b ∧ b ≤ 255 := by
  intro b hb
  obtain ⟨c, -, rfl⟩ := List.mem_map.1 hb
  have := c.toNat_lt
  omega
theorem words_bytes (k : Nat) : ∀ b ∈ wordsK.getD k [], 0 ≤ b ∧ b ≤ 255 := by
  intro b hb
  rcases Nat.lt_or_ge k 6 with h | h
  · rcases (show k = 0 ∨ k = 1 ∨ k = 2 ∨ k = 3 ∨ k = 4 ∨ k = 5 by omega) with rfl | rfl | rfl | rfl | rfl | rfl <;> simp [wordsK] at hb <;> omega
  · rw [List.getD_eq_getElem?_getD, List.getElem?_eq_none (show wordsK.length ≤ k from h)] at hb
    cases hb
theorem txt_bytes (x : KO) : ∀ b ∈ txtK x, 0 ≤ b ∧ b ≤ 255 := by
  intro b hb
  unfold txtK at hb
  rcases List.mem_append.1 hb with h | h
  · exact words_bytes _ b h
  · rcases List.mem_append.1 h with h | h
    · rw [List.mem_singleton] at h; omega
    · exact bytes_un8 _ b h
theorem text_bytes (l : List KO) : ∀ b ∈ textK l, 0 ≤ b ∧ b ≤ 255 := by
  intro b hb
  unfold textK at hb
  obtain ⟨m, hm, hb⟩ := List.mem_flatten.1 hb
  obtain ⟨x, -, rfl⟩ := List.mem_map.1 hm
  rcases List.mem_append.1 hb with h | h
  · exact txt_bytes x b h
  · rw [List.mem_singleton] at h; omega
theorem print_bytes (l : List KO) (h : l.length ≤ 1048576) : isBytes (printB l).1 := by
  unfold printB
  split
  · rename_i ha
    have := text_len l ha
    exact ⟨by show (textK l).length ≤ _; omega, text_bytes l⟩
  · exact ⟨by simp, fun b hb => by cases hb⟩
theorem isB_old {T e : TypeId} {B b : Nat} {bs : List Value} {w w' : World} (h : Lib.IsBuilder T e B b bs w) (hb : Below w.heap.size w w') : Lib.IsBuilder T e B b bs w' := by
  have key : ∀ p, Lib.BuilderAt T e B b p bs w → Lib.BuilderAt T e B b p bs w' := fun p h => by
    have hlt := h.lt
    obtain ⟨hB, v, hbk, hown, hne⟩ := h
    refine ⟨hB, v, (hb.block b hlt).trans hbk, ⟨hown.1, ?_⟩, hne⟩
    rcases hown.2 with hn | ⟨g, cap, cur, hv, hbg, hg, rest⟩
    · exact .inl hn
    · exact .inr ⟨g, cap, cur, hv, hbg, (hb.block g (Lib.lt_of_heap hg)).trans hg, rest⟩
  exact h.elim (fun h => .inl (key _ h)) (fun h => .inr (key _ h))
theorem print_walk (hl : CtrOk Tryd.prog 9 cLine) (ops : List KO) (A : Option Addr) (c : Nat) (w : World) (hg : GlOk w) (hlen : ops.length ≤ 1048576) (hc : ops.length ≤ c)
    (hR : ∀ (i : Nat) x, ops[i]? = some x → IR .i64 x.1 ∧ IR .i64 x.2.1 ∧ IR .i64 x.2.2.1 ∧ IR .u8 x.2.2.2)
    (hC : 0 < ops.length → ∃ b o, A = some ⟨b, o, none⟩ ∧ b < w.heap.size ∧ ∀ (i : Nat) x, ops[i]? = some x → ∀ (j : Nat) v, (cellsK x)[j]? = some v → w.cell? ⟨b, o + (i * 4 + j), none⟩ = some v) :
    Calls Tryd.prog 4 #[.slice A ops.length c] w fun e w' => e = .returned (.tuple #[.string (mkStr (printB ops).1), .int .i64 (printB ops).2]) ∧ Below w.heap.size w w' := by
  go_enter Tryd.func4, Tryd.ntmps4
  go_wp2
  go_loopw [11] (fun vi wr => ∃ k : Nat, k ≤ ops.length ∧ vi = .int .i64 k ∧ (ops.take k).all okK = true ∧ Lib.IsBuilder 35 5 w.heap.size w.heap.size (Lib.byteCells (by8 (textK (ops.take k)))) wr ∧ Below w.heap.size w wr) (fun vi _ => ops.length - (intOf vi).toNat)
  case atStart => exact ⟨0, by omega, rfl, rfl, Lib.fresh_isBuilder 35 5 w, (Below.refl _ w).alloc (Nat.le_refl _) _⟩
  case round =>
    obtain ⟨k, hk, rfl, hall, hI, hbw⟩ := hrel
    by_cases hkn : k < ops.length
    · obtain ⟨x, hx⟩ : ∃ x, ops[k]? = some x := ⟨_, List.getElem?_eq_getElem hkn⟩
      obtain ⟨b, o, rfl, hb, hcell⟩ := hC (by omega)
      have hcl : ∀ (j : Nat) v, (cellsK x)[j]? = some v → wr.cell? ⟨b, o + (k * 4 + j), none⟩ = some v := fun j v hj => (hbw.cell (p := ⟨b, o + (k * 4 + j), none⟩) hb).trans (hcell k x hx j v hj)
      have c0 : wr.cell? ⟨b, o + k * 4, none⟩ = some (.int .i64 x.1) := by have := hcl 0 _ rfl; rwa [Nat.add_zero] at this
      have c1 : wr.cell? ⟨b, o + k * 4 + 1, none⟩ = some (.int .i64 x.2.1) := by have := hcl 1 _ rfl; rwa [← Nat.add_assoc] at this
      have c2 : wr.cell? ⟨b, o + k * 4 + 2, none⟩ = some (.int .i64 x.2.2.1) := by have := hcl 2 _ rfl; rwa [← Nat.add_assoc] at this
      have c3 : wr.cell? ⟨b, o + k * 4 + 3, none⟩ = some (.int .u8 x.2.2.2) := by have := hcl 3 _ rfl; rwa [← Nat.add_assoc] at this
      clear hcl hcell
      obtain ⟨r0, r1, r2, r3⟩ := hR k x hx
      have hg2 : ∀ o1, GlOk (wr.alloc o1) := fun o1 => (hg.below hbw).below (Below.alloc (Below.refl wr.heap.size wr) (Nat.le_refl _) o1)
      have hxa : okK x = false → printB ops = ([], 2) := fun h => by
        unfold printB
        rw [if_neg]
        intro h2
        rw [List.all_eq_true] at h2
        rw [h2 x (List.mem_of_getElem? hx)] at h
        cases h
      cases hok : okK x with
      | false =>
        have hP := hxa hok
        have hlc := fun W h => line_call hl x r0 r1 r2 r3 W h
        rw [hok] at hlc
        clear hxa
        go_wp2_with (go_at_call 9; refine (hlc _ (hg2 _)).mono ?_; rintro e w1 ⟨rfl, hb1⟩; refine Hid.out ?_)
        refine Lib.hid ?_
        have hb1' : Below w.heap.size _ w1 := hb1.mono (by have := hbw.size; simp; omega)
        have hb2 : Below w.heap.size w w1 := (hbw.alloc hbw.size _).trans hb1'
        clear hb1 hb1'
        go_wp2
        go_ret2
        rw [hP]
        exact ⟨rfl, hb2⟩
      | true =>
        have hlc := fun W h => line_call hl x r0 r1 r2 r3 W h
        rw [hok] at hlc
        clear hxa
        go_wp2_with (go_at_call 9; refine (hlc _ (hg2 _)).mono ?_; rintro e w1 ⟨rfl, hb1⟩; refine Hid.out ?_)
        refine Lib.hid ?_
        have hb1' : Below w.heap.size _ w1 := hb1.mono (by have := hbw.size; simp; omega)
        have hb2 : Below w.heap.size w w1 := (hbw.alloc hbw.size _).trans hb1'
        have hz : (mkStr (txtK x)).size ≤ 28 := by rw [mkStr_size]; exact txt_len hok
        have hz2 := text_len _ hall
        have hI1 := isB_old (isB_old hI (Below.alloc (Below.refl wr.heap.size wr) (Nat.le_refl _) _)) hb1
        have hsz1 : w.heap.size ≤ w1.heap.size := hb2.size
        clear hb1 hb1' hI hlc
        go_wp2_with (go_at_call 10; refine (write_calls w.heap.size w.heap.size _ _ _ hI1 ?_ hsz1).mono ?_)
        · rw [Lib.byteCells_length, by8_length, ByteArray.size_append]
          rw [List.length_take] at hz2
          show _ + ((mkStr (txtK x)).size + 1) ≤ _
          omega
        rintro e w3 ⟨rfl, hI3, hb3⟩
        go_wp2
        have et : ops.take (k + 1) = ops.take k ++ [x] := by rw [List.take_add_one, hx]; rfl
        refine ⟨⟨k + 1, by omega, rfl, ?_, ?_, hb2.trans hb3⟩, by simp [intOf]; omega⟩
        · rw [et, List.all_append, hall, List.all_cons, hok]
          rfl
        · rw [et, text_snoc, cells_text]
          exact .inr hI3
    · have hkk : k = ops.length := by omega
      subst hkk
      rw [List.take_length] at hall hI
      have hP : printB ops = (textK ops, 0) := by
        unfold printB
        rw [if_pos hall]
        rfl
      go_wp2_with (go_at_call 11; refine (Any.Builder_String_any bstrL bX w.heap.size w.heap.size (by8 (textK ops)) _ hI hbw.size).mono ?_)
      rintro e w3 ⟨rfl, hb3⟩
      go_wp2
      go_ret2
      rw [hP]
      exact ⟨rfl, hbw.trans hb3⟩
theorem print_of (hl : CtrOk Tryd.prog 9 cLine) : CtrOk Tryd.prog 4 cPrint := by
  refine ⟨⟨Tryd.f4, Tryd.func4, by kernel_rfl, by kernel_rfl⟩, fun S w args x hS hgl hargs hpre => ?_⟩
  obtain ⟨ops, u⟩ := x
  change List KO at ops
  obtain ⟨l⟩ := args
  match l, hargs with
  | [], h => exact h.elim
  | [v], h =>
    obtain ⟨A, c, h1, hc, hm, hA⟩ : ∃ A c, [v] = [Value.slice A ops.length c] ∧ ops.length ≤ c ∧ c ≤ maxLen ∧
      (0 < ops.length → ∃ b o, A = some ⟨b, o, none⟩ ∧ S b ∧ ∀ (i : Nat) x, ops[i]? = some x → ∃ l, (∀ (j : Nat) v, l[j]? = some v → w.cell? ⟨b, o + (i * 4 + j), none⟩ = some v) ∧ Rd S w tyKernOp l x) := h.1
    injection h1 with h1
    subst h1
    have hcells : ∀ l x, Rd S w tyKernOp l x → l = cellsK x ∧ IR .i64 x.1 ∧ IR .i64 x.2.1 ∧ IR .i64 x.2.2.1 ∧ IR .u8 x.2.2.2 := by
      intro l x h
      obtain ⟨_, _, rfl, ⟨rfl, r0⟩, _, _, rfl, ⟨rfl, r1⟩, _, _, rfl, ⟨rfl, r2⟩, rfl, r3⟩ := h
      exact ⟨rfl, r0, r1, r2, r3⟩
    have key := print_walk hl ops A c w hgl hpre hc (fun i x hx => by
      obtain ⟨b, o, -, -, h3⟩ := hA (Nat.lt_of_le_of_lt (Nat.zero_le _) (List.getElem?_eq_some_iff.1 hx).1)
      obtain ⟨l, -, h4⟩ := h3 i x hx
      exact (hcells l x h4).2) (fun hp => by
      obtain ⟨b, o, h1, h2, h3⟩ := hA hp
      refine ⟨b, o, h1, hS b h2, fun i x hx j v hj => ?_⟩
      obtain ⟨l, h5, h4⟩ := h3 i x hx
      rw [← (hcells l x h4).1] at hj
      exact h5 j v hj)
    refine key.mono fun e w' h => ?_
    obtain ⟨rfl, hb⟩ := h
    refine ⟨_, rfl, ⟨_, rfl, ?_, ?_, trivial⟩, hb⟩
    · show RdV S w .str (.string (mkStr (printB ops).1)) (printB ops).1
      exact ⟨rfl, print_bytes ops hpre⟩
    · show RdV S w I64 (.int .i64 (printB ops).2) (printB ops).2
      unfold printB
      split
      · exact rd_i64 (by omega) (by omega)
      · exact rd_i64 (by omega) (by omega)
  | _ :: _ :: _, h => exact h.2.elim

end Go.Proofs.YtjafnenkgmbgaaaDoor.Bench
