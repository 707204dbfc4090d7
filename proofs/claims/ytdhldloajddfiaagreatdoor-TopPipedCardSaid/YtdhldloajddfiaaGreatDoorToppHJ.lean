/-
  Contracts proved by hand.
-/
import Derived.Test.YtdhldloajddfiaaGreatDoorToppC
import Derived.Test.YtdhldloajddfiaaGreatDoorTellL
import Derived.WalkKit
import Derived.Lib.Strings
import Derived.Lib.Slices
import Derived.Lib.Small
import Derived.Lib.Walk
import Derived.Lib.BitFns
import Derived.Laws.AppendOwn
import Derived.Laws.AppendOwnNone
namespace Go.Proofs.YtdhldloajddfiaaGreatDoor.Topp
open Go.Sx
set_option maxRecDepth 100000
set_option maxHeartbeats 4000000
set_option linter.unusedSimpArgs false
set_option linter.unusedVariables false

open Go Go.Proofs Go.RowKit
theorem cgrow_zero (w : World) : Calls Tryz.prog 16 #[.slice none 0 0, .int .i64 0] w fun e w' => e = .returned (.slice none 0 0) ∧ w' = w := by
  go_enter Tryz.func16, Tryz.ntmps16
  go_wp2
  go_ret
  exact ⟨rfl, rfl⟩
theorem cgrow_more {n : Int} (h0 : 0 < n) (h1 : n ≤ 1048576) (w : World) : Calls Tryz.prog 16 #[.slice none 0 0, .int .i64 n] w fun e w' =>
    e = .returned (.slice (some ⟨w.heap.size, 0, none⟩) 0 (grownCap w n.toNat 0 5)) ∧ w' = w.drew.alloc (.cells (Builtin.zeroCells #[.int .u8 0] n.toNat ++ Builtin.zeroCells #[.int .u8 0] (grownCap w n.toNat 0 5 - n.toNat)) 5) := by
  have hwr : IntKind.i64.wrap n = n := wrap_in (k := .i64) ⟨by omega, by omega⟩
  have hby : Tryz.t5.bytes = 1 := by kernel_rfl
  have hcap := cap_most (n := n.toNat) (c := 0) (by omega)
  go_enter Tryz.func16, Tryz.ntmps16
  go_wp2
  all_goals first
    | (exfalso; omega)
    | (go_ret; exact ⟨rfl, rfl⟩)
theorem grow_own {n : Nat} (h1 : n ≤ 1048576) (w : World) : Calls Tryz.prog 16 #[.slice none 0 0, .int .i64 n] w fun e w' =>
    ∃ v, e = .returned v ∧ w'.ownsRow w.heap.size 5 1 v 0 [] ∧ Below w.heap.size w w' := by
  rcases Nat.eq_zero_or_pos n with rfl | h0
  · refine (cgrow_zero w).mono fun e w' he => ?_
    obtain ⟨rfl, rfl⟩ := he
    exact ⟨_, rfl, World.ownsRow_nil _ _ _ _, Below.refl _ _⟩
  · refine (cgrow_more (n := n) (by omega) (by omega) w).mono fun e w' he => ?_
    obtain ⟨rfl, rfl⟩ := he
    have hge := grownCap_ge w ((n : Int).toNat) 0 5
    refine ⟨_, rfl, ⟨rfl, .inr ⟨w.heap.size, _, _, rfl, Nat.le_refl _, heap_alloc_new w.drew _, Nat.zero_le _, grownCap_le_maxLen w ((n : Int).toNat) 0 5 (by simp only [maxLen]; omega), ?_, rfl⟩⟩, ((Below.refl w.heap.size w).drew).alloc (by simp) _⟩
    simp only [Array.size_append, size_zeroCells]
    show (n : Int).toNat * 1 + (grownCap w ((n : Int).toNat) 0 5 - (n : Int).toNat) * 1 = grownCap w ((n : Int).toNat) 0 5 * 1
    omega
theorem app_nil {w : World} (base : Nat) (t ty : TypeId) (i : TypeInfo) (ht : Tryz.prog.underlying t = some (.slice 5)) (hi : Tryz.prog.info? 5 = some i) (v : Value) (n c : Nat) (xs : List Value) (hown : w.ownsRow base 5 1 v n xs) :
    (Builtin.append_ #[t, t] ty #[v, .slice none 0 c]).run Tryz.prog w = .ok v w := by
  rcases hown.2 with ⟨rfl, rfl⟩ | ⟨g, cap, cur, rfl, _, _, hnc, _⟩
  · simp [Builtin.append_, run_underlying ht, sizeOf, typeInfo, hi, Builtin.lenOf, Builtin.firstCells]
  · simp [Builtin.append_, run_underlying ht, sizeOf, typeInfo, hi, Builtin.lenOf, Builtin.firstCells, hnc, storeCells]
theorem wp_app {w : World} {ops : Array Oper} {rest : List Oper} {o : Oper} {a : Act} {Q : Exit → Act → World → Prop} (hgd : o.guard = none) (s x : Operand) (t : TypeId)
    (ho : o.op = .call { callee := .builtin .append, args := #[s, x], argTypes := #[t, t] })
    (base : Nat) (i : TypeInfo) (ht : Tryz.prog.underlying t = some (.slice 5)) (hi : Tryz.prog.info? 5 = some i) (hz : i.zero = some (.int .u8 0))
    (hsize : i.size = 1) (hby : i.bytes = 1)
    (v : Value) (n : Nat) (xs : List Value) (hs : a.eval s = v) (hown : w.ownsRow base 5 1 v n xs)
    (A : Option Addr) (m c : Nat) (news : List Value) (hx : a.eval x = .slice A m c) (hl : news.length = m) (hA : 0 < m → ∃ b q, A = some ⟨b, q, none⟩ ∧ ∀ (j : Nat) u, news[j]? = some u → w.cell? ⟨b, q + j, none⟩ = some u)
    (h1 : ∀ u ∈ news, u.oneCell' = true) (h63 : n + m ≤ 1048576) (hbase : base ≤ w.heap.size)
    (h : ∀ v' w', w'.ownsRow base 5 1 v' (n + m) (xs ++ news) → w.grownBy w' v.ownBlock → wpList Tryz.prog ops Q rest (a.put o.dst v') w') : wpList Tryz.prog ops Q (o :: rest) a w := by
  rcases Nat.eq_zero_or_pos m with rfl | hm
  · have hn : news = [] := List.eq_nil_of_length_eq_zero hl
    subst hn
    cases A with
    | some ad => exact wpList_append_own w hgd s x t ho base 5 i (.int .u8 0) 1 1 ht hi hz hsize hby rfl (by decide) v n xs hs hown ad 0 c [] hx rfl (fun j u hj => by cases hj) h1 (by unfold maxLen; omega) (by omega) hbase (fun v' w' h2 h3 _ => h v' w' h2 h3)
    | none =>
      refine wpList_plain hgd fun K hK => ?_
      have hrun := app_nil (w := w) base t o.type i ht hi v n c xs hown
      unfold Oper.wp
      simp [execOp, ho, resolve, invoke, builtin, hs, hx, hrun, Result.andThen]
      exact hK _ _ (h v w (by rw [List.append_nil]; exact hown) ⟨rfl, rfl, rfl, Nat.le_refl _, fun _ _ _ => rfl⟩)
  · obtain ⟨b, q, rfl, hc⟩ := hA hm
    exact wpList_append_own w hgd s x t ho base 5 i (.int .u8 0) 1 1 ht hi hz hsize hby rfl (by decide) v n xs hs hown ⟨b, q, none⟩ m c news hx (by rw [hl, Nat.mul_one]) (fun j u hj => by
      have := hc j u hj
      rwa [← Addr.add_lit] at this) h1 (by unfold maxLen; omega) (by omega) hbase (fun v' w' h2 h3 _ => h v' w' h2 h3)
end Go.Proofs.YtdhldloajddfiaaGreatDoor.Topp
namespace Go.Proofs.YtdhldloajddfiaaGreatDoor.Topp
open Go.Sx
set_option maxRecDepth 100000
set_option maxHeartbeats 4000000
set_option linter.unusedSimpArgs false
set_option linter.unusedVariables false

open Go Go.Proofs Go.RowKit
def byteV (l : List Int) : List Value := l.map fun y => .int .u8 y
theorem byteV_app (a b : List Int) : byteV (a ++ b) = byteV a ++ byteV b := List.map_append
theorem sum_le (xss : List (List Int)) (k : Nat) : (xss.take k).flatten.length ≤ xss.flatten.length := by
  have h := congrArg List.length (congrArg List.flatten (List.take_append_drop k xss))
  rw [List.flatten_append, List.length_append] at h
  omega
theorem take_flat (xss : List (List Int)) {k : Nat} {x : List Int} (h : xss[k]? = some x) : (xss.take (k + 1)).flatten = (xss.take k).flatten ++ x := by
  rw [List.take_add_one, h, List.flatten_append]
  simp
theorem concat_walk (xss : List (List Int)) (A : Option Addr) (c : Nat) (w : World) (hlen : xss.flatten.length ≤ 1048576) (hc : xss.length ≤ c) (hcm : c ≤ 9223372036854775807)
    (hE : ∀ (i : Nat) x, xss[i]? = some x → ∃ b o Ax cx, A = some ⟨b, o, none⟩ ∧ b < w.heap.size ∧ w.cell? ⟨b, o + i, none⟩ = some (.slice Ax x.length cx) ∧
      (0 < x.length → ∃ b' o', Ax = some ⟨b', o', none⟩ ∧ b' < w.heap.size ∧ ∀ (j : Nat) u, (byteV x)[j]? = some u → w.cell? ⟨b', o' + j, none⟩ = some u)) :
    Calls Tryz.prog 7 #[.slice A xss.length c] w fun e w' => ∃ v, e = .returned v ∧ w'.ownsRow w.heap.size 5 1 v xss.flatten.length (byteV xss.flatten) ∧ Below w.heap.size w w' := by
  obtain ⟨i0, hi, hz0, hz1, hz2⟩ := info_parts (show (Tryz.prog.info? 5).map (fun i => (i.zero, i.size, i.bytes)) = some (some (.int .u8 0), 1, 1) by kernel_rfl)
  go_enter Tryz.func7, Tryz.ntmps7
  go_wp2
  go_loopw [3, 11] (fun v3 v11 wr => ∃ k : Nat, k ≤ xss.length ∧ v11 = .int .i64 k ∧ v3 = .int .i64 ((xss.take k).flatten.length : Nat) ∧ w = wr) (fun _ v11 _ => xss.length - (intOf v11).toNat)
  case atStart => exact ⟨0, Nat.zero_le _, rfl, rfl, rfl⟩
  case round =>
    obtain ⟨k, hk, rfl, rfl, rfl⟩ := hrel
    by_cases hkn : k < xss.length
    · obtain ⟨x, hx⟩ : ∃ x, xss[k]? = some x := ⟨_, List.getElem?_eq_getElem hkn⟩
      obtain ⟨b, o, Ax, cx, rfl, hb, c0, -⟩ := hE k x hx
      have hs1 := sum_le xss (k + 1)
      rw [take_flat xss hx, List.length_append] at hs1
      have hs2 : ((xss.take k).flatten.length : Int) + (x.length : Int) ≤ 1048576 := by omega
      have hs3 : (0 : Int) ≤ ((xss.take k).flatten.length : Int) := by omega
      have hs4 : (0 : Int) ≤ (x.length : Int) := by omega
      have hki : (k : Int) < (xss.length : Int) := by omega
      have et := take_flat xss hx
      generalize (xss.take k).flatten = F at hs1 hs2 hs3 et ⊢
      go_wp2
      refine ⟨⟨k + 1, by omega, rfl, ?_, trivial⟩, by simp [intOf]; omega⟩
      rw [et, List.length_append]
      simp
    · obtain rfl : k = xss.length := by omega
      rw [List.take_length]
      obtain ⟨NN, hNN⟩ : ∃ NN, Aside (xss.flatten.length = NN) := ⟨_, rfl⟩
      have hG := grow_own hlen w
      rw [hNN.out] at hG hlen ⊢
      go_wp2_with (go_at_call 16; refine hG.mono ?_; rintro e w1 ⟨v, rfl, hv, hb1⟩)
      clear hG
      rw [← hNN.out] at hlen
      go_loopw [6, 27] (fun v6 v27 wx => ∃ k : Nat, k ≤ xss.length ∧ v27 = .int .i64 k ∧ wx.ownsRow w.heap.size 5 1 v6 (xss.take k).flatten.length (byteV (xss.take k).flatten) ∧ Below w.heap.size w wx) (fun _ v27 _ => xss.length - (intOf v27).toNat)
      case atStart => exact ⟨0, Nat.zero_le _, rfl, hv, hb1⟩
      case round =>
        obtain ⟨k, hk, rfl, hown, hbx⟩ := hrel
        by_cases hkn : k < xss.length
        · obtain ⟨x, hx⟩ : ∃ x, xss[k]? = some x := ⟨_, List.getElem?_eq_getElem hkn⟩
          obtain ⟨b, o, Ax, cx, rfl, hb, c0, hcell⟩ := hE k x hx
          have hs1 := sum_le xss (k + 1)
          rw [take_flat xss hx, List.length_append] at hs1
          have hki : (k : Int) < (xss.length : Int) := by omega
          have et := take_flat xss hx
          have c1 : wr.cell? ⟨b, o + k, none⟩ = some (.slice Ax x.length cx) := (hbx.cell (p := ⟨b, o + k, none⟩) hb).trans c0
          have hcell' : 0 < (byteV x).length → ∃ b' o', Ax = some ⟨b', o', none⟩ ∧ ∀ (j : Nat) u, (byteV x)[j]? = some u → wr.cell? ⟨b', o' + j, none⟩ = some u := fun hp => by
            obtain ⟨b', o', h1, h2, h3⟩ := hcell (by simpa [byteV] using hp)
            exact ⟨b', o', h1, fun j u hj => (hbx.cell (p := ⟨b', o' + j, none⟩) h2).trans (h3 j u hj)⟩
          clear hcell c0
          generalize hF : (xss.take k).flatten = F at hs1 et hown ⊢
          go_wp2_with (at_builtin; refine wp_app rfl _ _ 22 rfl w.heap.size i0 Tryz.underlying22 hi hz0 hz1 hz2 _ _ _ rfl hown Ax x.length cx (byteV x) rfl ?c1 ?c2 ?c3 ?c4 ?c5 ?_)
          case c1 => simp [byteV]
          case c2 => exact fun hp => hcell' (by simpa [byteV] using hp)
          case c3 =>
            intro u hu
            obtain ⟨y, -, rfl⟩ := List.mem_map.1 hu
            rfl
          case c4 => omega
          case c5 => exact hbx.size
          intro v' w2 hown' hgrow
          go_wp2
          refine ⟨⟨k + 1, by omega, rfl, ?_, hbx.grown hgrow hbx.size (fun k hk => (hown.lt k hk).1)⟩, by simp [intOf]; omega⟩
          rw [et, byteV_app, List.length_append]
          exact hown'
        · obtain rfl : k = xss.length := by omega
          rw [List.take_length] at hown
          go_wp2
          go_ret
          exact ⟨_, rfl, hown, hbx⟩
theorem fresh_of_own {S : Nat → Prop} {B : Nat} {w : World} {v : Value} {l : List Int} (h : w.ownsRow B 5 1 v l.length (byteV l)) (hr : ∀ y ∈ l, IR .u8 y) : FreshV S B w U8 v l := by
  rcases h.2 with ⟨h1, h2⟩ | ⟨g, cap, cur, rfl, hb, hg, hnc, hcm, hcs, htake⟩
  · exact .inl ⟨h1, List.eq_nil_of_length_eq_zero h2⟩
  · refine .inr ⟨g, 0, cap, cur, 5, rfl, ⟨hb, (Array.getElem?_eq_some_iff.1 hg).1⟩, hg, hnc, hcm, ?_, fun i x hx => ?_⟩
    · show 0 + cap * 1 ≤ cur.size
      omega
    · have h1 : (byteV l)[i]? = some (.int .u8 x) := by
        unfold byteV
        rw [List.getElem?_map, hx]
        rfl
      have hil : i < l.length := (List.getElem?_eq_some_iff.1 hx).1
      rw [← htake, List.getElem?_take, if_pos (by omega)] at h1
      obtain ⟨hlt, he⟩ := List.getElem?_eq_some_iff.1 h1
      show (cur.toList.drop (0 + i * 1)).take 1 = [Value.int .u8 x] ∧ IR .u8 x
      refine ⟨?_, hr x (List.mem_of_getElem? hx)⟩
      rw [show 0 + i * 1 = i by omega, List.drop_eq_getElem_cons hlt, he]
      rfl
theorem c_concat : CtrOk Tryz.prog 7 cConcat := by
  refine ⟨⟨Tryz.f7, Tryz.func7, by kernel_rfl, by kernel_rfl⟩, fun S w args x hS hgl hargs hpre => ?_⟩
  obtain ⟨xss, u⟩ := x
  change List (List Int) at xss
  have hpre : xss.flatten.length ≤ 1048576 := hpre
  obtain ⟨l⟩ := args
  match l, hargs with
  | [], h => exact h.elim
  | [v], h =>
    obtain ⟨A, c, h1, hc, hm, hA⟩ : ∃ A c, [v] = [Value.slice A xss.length c] ∧ xss.length ≤ c ∧ c ≤ maxLen ∧
      (0 < xss.length → ∃ b o, A = some ⟨b, o, none⟩ ∧ S b ∧ ∀ (i : Nat) x, xss[i]? = some x → ∃ l, (∀ (j : Nat) v, l[j]? = some v → w.cell? ⟨b, o + (i * 1 + j), none⟩ = some v) ∧ Rd S w (.sl U8) l x) := h.1
    injection h1 with h1
    subst h1
    have hel : ∀ l x, Rd S w (.sl U8) l x → ∃ Ax cx, l = [.slice Ax x.length cx] ∧ (0 < x.length → ∃ b' o', Ax = some ⟨b', o', none⟩ ∧ S b' ∧ ∀ (j : Nat) u, (byteV x)[j]? = some u → w.cell? ⟨b', o' + j, none⟩ = some u) ∧ ∀ y ∈ x, IR .u8 y := by
      intro l x h
      obtain ⟨Ax, cx, rfl, -, -, hx⟩ : ∃ A c, l = [Value.slice A x.length c] ∧ x.length ≤ c ∧ c ≤ maxLen ∧
        (0 < x.length → ∃ b o, A = some ⟨b, o, none⟩ ∧ S b ∧ ∀ (i : Nat) y, x[i]? = some y → ∃ l, (∀ (j : Nat) v, l[j]? = some v → w.cell? ⟨b, o + (i * 1 + j), none⟩ = some v) ∧ l = [Value.int .u8 y] ∧ IR .u8 y) := h
      refine ⟨Ax, cx, rfl, fun hp => ?_, fun y hy => ?_⟩
      · obtain ⟨b, o, h1, h2, h3⟩ := hx hp
        refine ⟨b, o, h1, h2, fun j u hj => ?_⟩
        unfold byteV at hj
        rw [List.getElem?_map, Option.map_eq_some_iff] at hj
        obtain ⟨y, hy, rfl⟩ := hj
        obtain ⟨l, h4, rfl, -⟩ := h3 j y hy
        have := h4 0 _ rfl
        rwa [Nat.add_zero, Nat.mul_one] at this
      · obtain ⟨b, o, -, -, h3⟩ := hx (List.length_pos_of_mem hy)
        obtain ⟨j, hj⟩ := List.getElem?_of_mem hy
        obtain ⟨l, -, -, h4⟩ := h3 j y hj
        exact h4
    have key := concat_walk xss A c w hpre hc (by simpa [maxLen] using hm) (fun i x hx => by
      obtain ⟨b, o, h1, h2, h3⟩ := hA (Nat.lt_of_le_of_lt (Nat.zero_le _) (List.getElem?_eq_some_iff.1 hx).1)
      obtain ⟨l, h4, h5⟩ := h3 i x hx
      obtain ⟨Ax, cx, rfl, h6, -⟩ := hel l x h5
      have := h4 0 _ rfl
      rw [Nat.add_zero, Nat.mul_one] at this
      refine ⟨b, o, Ax, cx, h1, hS b h2, this, fun hp => ?_⟩
      obtain ⟨b', o', h7, h8, h9⟩ := h6 hp
      exact ⟨b', o', h7, hS b' h8, h9⟩)
    have hr : ∀ y ∈ xss.flatten, IR .u8 y := fun y hy => by
      obtain ⟨x, hx, hy⟩ := List.mem_flatten.1 hy
      obtain ⟨i, hi⟩ := List.getElem?_of_mem hx
      obtain ⟨b, o, -, -, h3⟩ := hA (Nat.lt_of_le_of_lt (Nat.zero_le _) (List.getElem?_eq_some_iff.1 hi).1)
      obtain ⟨l, -, h5⟩ := h3 i x hi
      obtain ⟨_, _, _, _, h7⟩ := hel l x h5
      exact h7 y hy
    refine key.mono fun e w' h => ?_
    obtain ⟨v, rfl, hv, hb⟩ := h
    exact ⟨v, rfl, fresh_of_own hv hr, hb⟩
  | _ :: _ :: _, h => exact h.2.elim
end Go.Proofs.YtdhldloajddfiaaGreatDoor.Topp
