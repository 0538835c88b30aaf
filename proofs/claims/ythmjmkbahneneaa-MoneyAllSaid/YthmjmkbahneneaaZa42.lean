/- MonU, struck of what this claim does not name (wip/tools/pack2.py). -/
import Derived.Test.YthmjmkbahneneaaZa41
section
namespace Go.Proofs.Ythmjmkbahneneaa.PMon
open Go.RowKit Go.Proofs.YthmjmkbahneneaaW.PrintWords Go.Proofs.YthmjmkbahneneaaW.PrintLast Go.Proofs.YthmjmkbahneneaaW.PrintMore
set_option linter.unusedVariables false
set_option linter.unusedSimpArgs false

structure TxW (w : World) (m : Array Value) (N : Nat) (kq j n : Nat) (L : List UInt8) (v : Value) (w' : World) : Prop where
  k1 : w'.heap[w.heap.size]? = some (.cells m 40 (0, 0))
  k2 : Below w.heap.size w w'
  row : By w' (w.heap.size + 1) v L
  sum : L ++ rem j n = rem 0 N
  fuel : kq + j = 40
  small : n < 10 ^ kq
  at0 : j = 0 → L = []
  at1 : j = 1 → L.length = 1
  at2 : 2 ≤ j → 3 ≤ L.length
  len : L.length ≤ j + 2
  big : n < 170141183460469231731687303715884105728

def hiN (n : Nat) : Int := ((n / 18446744073709551616 : Nat) : Int)
def loN (n : Nat) : Int := ((n % 18446744073709551616 : Nat) : Int)
theorem hi_step (n : Nat) (h : n < 170141183460469231731687303715884105728) : hiN n / 10 = hiN (n / 10) := by unfold hiN; omega
theorem lo_step (n : Nat) (h : n < 170141183460469231731687303715884105728) : (hiN n % 10 * 18446744073709551616 + loN n) / 10 = loN (n / 10) ∧ (hiN n % 10 * 18446744073709551616 + loN n) % 10 = ((n % 10 : Nat) : Int) := by unfold hiN loN; omega
theorem or_n (n : Nat) (h : n < 170141183460469231731687303715884105728) : (Go.bits .or .u64 (hiN n) (loN n) != 0) = decide (n ≠ 0) := by
  unfold hiN loN
  rw [or_zero (by omega) (by omega)]
  exact decide_eq_decide.mpr (by omega)

theorem rem_ge (j n : Nat) (h : 2 ≤ j) : rem j n = lds n := by
  match j, h with
  | j + 2, _ => rfl
theorem TxW.more {w wr : World} {m : Array Value} {N kq j n : Nat} {L : List UInt8} {v : Value} (h : TxW w m N kq j n L v wr) (hx : ¬ (n = 0 ∧ 2 ≤ j)) : 0 < kq := by
  rcases Nat.eq_zero_or_pos kq with h0 | h0
  · subst h0
    have h1 := h.small
    have h2 := h.fuel
    exact absurd ⟨by simpa using h1, by omega⟩ hx
  · exact h0
theorem TxW.next {w wr w7 : World} {m : Array Value} {N kq j n nd : Nat} {L L2 : List UInt8} {v v2 : Value} (h : TxW w m N kq j n L v wr) (hx : ¬ (n = 0 ∧ 2 ≤ j)) (e : L ++ rem j n = L2 ++ rem (j + 1) (n / 10)) (row : By w7 (w.heap.size + 1) v2 L2) (b : Below (w.heap.size + 1) (wr.drewN nd) w7)
    (l1 : j + 1 = 1 → L2.length = 1) (l2 : 2 ≤ j + 1 → 3 ≤ L2.length) (l3 : L2.length ≤ j + 3) : TxW w m N (kq - 1) (j + 1) (n / 10) L2 v2 w7 := by
  have h0 := h.more hx
  refine ⟨(b.block _ (by omega)).trans h.k1, h.k2.trans ⟨b.os, b.tape, b.output, b.size, fun k hk => b.block k (by omega)⟩, row, e.symm.trans h.sum, by have := h.fuel; omega, ?_, fun h => absurd h (by omega), l1, l2, l3, by have := h.big; omega⟩
  have hs := h.small
  obtain ⟨q, rfl⟩ : ∃ q, kq = q + 1 := ⟨kq - 1, by omega⟩
  rw [Nat.pow_succ] at hs
  show n / 10 < 10 ^ (q + 1 - 1)
  rw [Nat.add_sub_cancel]
  omega
structure TyW (w wx : World) (L : List UInt8) (v : Value) (i : Nat) (w' : World) : Prop where
  ib : Lib.IsBuilder 91 5 wx.heap.size wx.heap.size (Lib.byteCells (L.reverse.take i)) w'
  bel : Below wx.heap.size wx w'
  row : By wx (w.heap.size + 1) v L
  bw : Below w.heap.size w wx
theorem TyW.row' {w wx w' : World} {L : List UInt8} {v : Value} {i : Nat} (h : TyW w wx L v i w') : By w' (w.heap.size + 1) v L := h.row.keep fun k _ _ hk => h.bel.block k hk
theorem TyW.next {w wx w' w2 : World} {L : List UInt8} {v : Value} {i : Nat} (h : TyW w wx L v i w') (c : UInt8) (hc : L.reverse[i]? = some c) (hb : Lib.BuilderAt 91 5 wx.heap.size wx.heap.size (.pointer (some ⟨wx.heap.size, 0, none⟩)) (Lib.byteCells (L.reverse.take i) ++ [.int .u8 (c.toNat : Int)]) w2) (hb2 : Below wx.heap.size w' w2) : TyW w wx L v (i + 1) w2 := by
  refine ⟨.inr ?_, h.bel.trans hb2, h.row, h.bw⟩
  have e : L.reverse.take (i + 1) = L.reverse.take i ++ [c] := by
    rw [List.take_add_one, hc]
    rfl
  rw [e, cells_snoc]
  exact hb
theorem TyW.all {w wx w' : World} {L : List UInt8} {v : Value} (h : TyW w wx L v L.length w') : Lib.IsBuilder 91 5 wx.heap.size wx.heap.size (Lib.byteCells L.reverse) w' := by
  have := h.ib
  rwa [List.take_of_length_le (by rw [List.length_reverse]; exact Nat.le_refl _)] at this
theorem rev_at (L : List UInt8) (i p : Nat) (h : p + i + 1 = L.length) : L.reverse[i]? = some (L.getD p 0) := by
  rw [List.getElem?_reverse (by omega), show L.length - 1 - i = p by omega, List.getD_eq_getElem?_getD, List.getElem?_eq_getElem (by omega)]
  rfl

set_option maxHeartbeats 8000000 in
set_option maxRecDepth 100000 in
theorem text_calls (a : Int) (ha : Small a) (w : World) :
    Calls Try.prog 28 #[M a] w fun e w' => e = .returned (.string ⟨(text a).toArray⟩) ∧ Below w.heap.size w w' := by
  have HSm := Aside0.mk ha
  obtain ⟨N, hN⟩ : ∃ N, N = a.natAbs := ⟨_, rfl⟩
  have eM : M a = .agg #[.int .u64 (hiN N), .int .u64 (loN N), .bool (mnM a)] := by unfold M hiM loM hiN loN; rw [hN]
  rw [eM]
  obtain ⟨s, hs⟩ : ∃ s, s = mnM a := ⟨_, rfl⟩
  rw [← hs]
  have HN := Aside0.mk (And.intro hN hs)
  clear hN hs eM
  obtain ⟨K1, K2⟩ := one_new w #[.int .u64 (hiN N), .int .u64 (loN N), .bool s] 40
  go_enter Try.func28, Try.ntmps28
  go_upto_region 1 with (fail)
  obtain ⟨w3, hw3⟩ : ∃ w3, w3 = w.alloc (.cells #[.int .u64 (hiN N), .int .u64 (loN N), .bool s] 40) := ⟨_, rfl⟩
  rw [← hw3] at K1 K2 ⊢
  have a0 : w3.cell? ⟨w.heap.size, 0, none⟩ = some (.int .u64 (hiN N)) := (blk_cell K1 0).trans rfl
  have a1 : w3.cell? ⟨w.heap.size, 1, none⟩ = some (.int .u64 (loN N)) := (blk_cell K1 1).trans rfl
  have HK := Aside0.mk (And.intro K1 K2)
  clear hw3 K1 K2
  go_quiet (fail)
  have TX : Aside0 (TxW w #[.int .u64 (hiN N), .int .u64 (loN N), .bool s] N 40 0 N [] (.slice none 0 0) w3) := ⟨⟨HK.out.1, HK.out.2, By.nil _ _, rfl, rfl, by rw [HN.out.1]; have := HSm.out; unfold Small at this; omega, fun _ => rfl, fun h => absurd h (by decide), fun h => absurd h (by omega), by decide, by rw [HN.out.1]; exact HSm.out⟩⟩
  obtain ⟨w4, hw4⟩ : ∃ w4, w4 = w3.drewN nq := ⟨_, rfl⟩
  have TX4 : Aside0 (TxW w #[.int .u64 (hiN N), .int .u64 (loN N), .bool s] N 40 0 N [] (.slice none 0 0) w4) := ⟨by
    have h := TX.out
    rw [hw4]
    exact ⟨h.k1, pw_below_drewN h.k2 _, By.nil _ _, h.sum, h.fuel, h.small, h.at0, h.at1, h.at2, h.len, h.big⟩⟩
  rw [← hw4]
  clear hw4 a0 a1 TX HK
  go_wp2
  go_loopg [3, 4, 5, 6] 40 (fun kq v3 v4 v5 v6 w' => ∃ (j n m : Nat) (L : List UInt8) (A : Option Addr) (c : Nat), v3 = .int .u64 (hiN n) ∧ v4 = .int .u64 (loN n) ∧ v5 = .slice A m c ∧ Aside0 (L.length = m) ∧ Aside0 (TxW w #[.int .u64 (hiN N), .int .u64 (loN N), .bool s] N kq j n L (.slice A m c) w'))
  case atStart => exact ⟨0, N, 0, [], none, 0, rfl, rfl, rfl, ⟨rfl⟩, TX4⟩
  case round =>
    clear TX4
    obtain ⟨j, n, m, L, A, c, rfl, rfl, rfl, HL, TX⟩ := hrel
    have q1 := hi_step n TX.out.big
    have q2 := lo_step n TX.out.big
    obtain ⟨H, hH⟩ : ∃ H, H = hiN n := ⟨_, rfl⟩
    obtain ⟨Lw, hLw⟩ : ∃ Lw, Lw = loN n := ⟨_, rfl⟩
    obtain ⟨H', hH'⟩ : ∃ H', H' = hiN (n / 10) := ⟨_, rfl⟩
    obtain ⟨L', hL'⟩ : ∃ L', L' = loN (n / 10) := ⟨_, rfl⟩
    have o1 := or_n n TX.out.big
    have o2 := or_n (n / 10) (by have := TX.out.big; omega)
    have q5 : 0 ≤ H := by rw [hH]; unfold hiN; omega
    have q8 : IntKind.u64.wrap H' = H' := IntWalk.u64_in _ (by rw [hH']; unfold hiN; have := TX.out.big; omega)
    have q11 : 0 ≤ Lw ∧ Lw < 18446744073709551616 := by rw [hLw]; unfold loN; omega
    rw [← hH, ← hLw, ← hL'] at q2
    rw [← hH, ← hH'] at q1
    rw [← hH, ← hLw] at o1 ⊢
    rw [← hH', ← hL'] at o2
    have H1 := Aside0.mk hH'
    have H2 := Aside0.mk hL'
    have HB0 : Aside0 (w.heap.size + 1 ≤ wr.heap.size) := ⟨blk_lt TX.out.k1⟩
    clear hH hLw hH' hL'
    by_cases hx : n = 0 ∧ 2 ≤ j
    · have ho : (Go.bits .or .u64 H Lw != 0) = false := o1.trans (decide_eq_false (by omega))
      have hm : ¬ (m : Int) < 3 := by have := TX.out.at2 hx.2; have := HL.out; omega
      have HX := Aside0.mk hx
      clear hx o1 o2 q1 q2 q5 q8 q11
      obtain ⟨hn0, hj2⟩ := HX.out
      have hL : L = rem 0 N := by
        have h1 := TX.out.sum
        rwa [rem_ge j n hj2, hn0, lds_zero, List.append_nil] at h1
      have c2 : wr.cell? ⟨w.heap.size, 2, none⟩ = some (.bool s) := (blk_cell TX.out.k1 2).trans rfl
      have HNN := Aside0.mk HN.out
      have HLL := Aside0.mk hL
      have HMB : Aside0 (m ≤ 42) := ⟨by have := TX.out.len; have := TX.out.fuel; have := HL.out; omega⟩
      clear hn0 hj2 hL
      cases s with
      | false =>
        go_wp2
        have HMX : Aside0 (m ≤ 50) := ⟨by have := HMB.out; omega⟩
        have hba : back a = L := by unfold back; rw [if_neg (by have := HNN.out.2; unfold mnM at this; exact of_decide_eq_false this.symm), List.append_nil, HLL.out, HNN.out.1]
        have HBA := Aside0.mk hba
        clear hba
        obtain ⟨wx, hwx⟩ : ∃ wx, wx = wr := ⟨_, rfl⟩
        have TY : Aside0 (TyW w wx (back a) (.slice A m c) 0 (wx.alloc (.cells #[.pointer none, .slice none 0 0] 91))) := ⟨by
          refine ⟨?_, (Below.refl _ _).alloc (Nat.le_refl _) _, ?_, ?_⟩
          · have := Lib.fresh_isBuilder 91 5 wx
            rwa [List.take_zero]
          · rw [hwx]; rw [HBA.out]; exact TX.out.row
          · rw [hwx]; exact TX.out.k2⟩
        have HLX : Aside0 ((back a).length = m) := ⟨by rw [HBA.out]; exact HL.out⟩
        rw [← hwx]
        clear hwx
        go_loopg [8, 58] (m) (fun kq v8 v58 w' => ∃ i : Nat, v58 = .int .i64 (i : Int) ∧ Aside0 (kq + i = m) ∧ Aside0 (TyW w wx (back a) (.slice A m c) i w'))
        case atStart => exact ⟨0, rfl, ⟨rfl⟩, TY⟩
        case round =>
          clear TY
          obtain ⟨i, rfl, HI, TY⟩ := hrel
          by_cases hi : i < m
          · obtain ⟨p, hp⟩ : ∃ p : Nat, p + i + 1 = m := ⟨m - 1 - i, by omega⟩
            obtain ⟨c0, cap0, hv0, hcell⟩ := TY.out.row'.at_ p (by rw [HLX.out]; omega)
            rw [HLX.out] at hv0
            injection hv0 with hA0 _ hc0
            subst hA0 hc0
            have hiI : (i : Int) < ((m : Nat) : Int) := by omega
            have HM := Aside0.mk HMX.out
            have t1 : IntKind.i64.wrap (((m : Nat) : Int) - 1) = ((m : Nat) : Int) - 1 := IntWalk.i64_in _ (by have := HMX.out; omega)
            have t2 : ((m : Nat) : Int) - 1 - (i : Int) = (p : Int) := by omega
            have t3 : IntKind.i64.wrap (p : Int) = (p : Int) := IntWalk.i64_in _ (by have := HMX.out; omega)
            have t4 : (p : Int) < ((m : Nat) : Int) := by omega
            have t5 : IntKind.i64.wrap ((i : Int) + 1) = (((i + 1 : Nat)) : Int) := by rw [IntWalk.i64_in _ (by have := HMX.out; omega)]; rfl
            have HREV := Aside0.mk (rev_at (back a) i p (by rw [HLX.out]; exact hp))
            have HLN : Aside0 ((Lib.byteCells ((back a).reverse.take i)).length + 1 ≤ 140737488355328) := ⟨by rw [Lib.byteCells_length, List.length_take]; have := HMX.out; omega⟩
            obtain ⟨ch, hch⟩ : ∃ ch, ch = (back a).getD p 0 := ⟨_, rfl⟩
            rw [← hch] at hcell HREV
            have HP := Aside0.mk (And.intro hp hi)
            clear hch hp hi
            go_wp2_with (first
              | ((with_reducible refine gate_callee (f := 57) rfl ?_); (try (refine gate_guard (by rfl) ?_; dsimp only)); refine goesL_ (some 69) rfl rfl Try.func57 (by kernel_rfl) rfl #[.pointer (some ⟨wx.heap.size, 0, none⟩), .int .u8 (ch.toNat : Int)] rfl (by (try simp only [List.map_toArray, List.map_cons, List.map_nil]); first | done | rfl) ?_; (with_reducible refine (writeByte wx.heap.size wx.heap.size _ (ch.toNat : Int) _ TY.out.ib HLN.out TY.out.bel.size).mono ?_); rintro e w9 ⟨rfl, hb9, hc9⟩; refine ⟨_, rfl, ?_⟩; have TZ := Aside0.mk (TY.out.next ch HREV.out hb9 hc9); clear hb9 hc9))
            go_roundg (gk - 1)
            all_goals first
              | exact ⟨i + 1, rfl, ⟨by have := HI.out; have := HP.out.2; omega⟩, TZ⟩
              | (have := HI.out; have := HP.out.2; omega)
          · have hi2 : i ≤ m := by have := HI.out; omega
            have hei : m = i := by omega
            subst hei
            have TZ : Aside0 (TyW w wx (back a) (.slice A m c) (back a).length wr) := ⟨by rw [HLX.out]; exact TY.out⟩
            clear TY hi hi2
            go_wp2_with (first
              | ((with_reducible refine gate_callee (f := 58) rfl ?_); (try (refine gate_guard (by rfl) ?_; dsimp only)); refine goesL_ (some 71) rfl rfl Try.func58 (by kernel_rfl) rfl #[.pointer (some ⟨wx.heap.size, 0, none⟩)] rfl (by (try simp only [List.map_toArray, List.map_cons, List.map_nil]); first | done | rfl) ?_; (with_reducible refine (Try.Builder_String_any wx.heap.size wx.heap.size (back a).reverse _ TZ.out.all TZ.out.bel.size).mono ?_); rintro e w9 ⟨rfl, hb9⟩; refine ⟨_, rfl, ?_⟩; have B9 := Aside0.mk hb9; clear hb9))
            go_ret
            exact ⟨rfl, TZ.out.bw.trans ⟨(TZ.out.bel.trans B9.out).os, (TZ.out.bel.trans B9.out).tape, (TZ.out.bel.trans B9.out).output, (TZ.out.bel.trans B9.out).size, fun k hk => (TZ.out.bel.trans B9.out).block k (by have := TZ.out.bw.size; omega)⟩⟩
      | true =>
        have he13 : (L ++ [45]).length = m + 1 := by rw [List.length_append, HL.out]; rfl
        obtain ⟨m1, hm1⟩ : ∃ m1, m1 = m + 1 := ⟨_, rfl⟩
        rw [← hm1] at he13
        have HM1 := Aside0.mk hm1
        clear hm1
        have HLEN : Aside0 (L.length + 1 ≤ 1000) := ⟨by have := HMB.out; have := HL.out; omega⟩
        go_wp2_with (first
          | ((with_reducible refine gate_builtin (b := .append) rfl ?_); refine app1 rfl (.tmp 53) (.tmp 54) rfl rfl _ (45) rfl rfl TX.out.row HB0.out HLEN.out ?_; intro v13 w13 hr13 hb13; obtain ⟨A13, c13, hv13⟩ := hr13.form; rw [he13] at hv13; subst hv13; have R13 := Aside0.mk hr13; have B13 := Aside0.mk hb13; clear hr13 hb13))
        have HMX : Aside0 (m1 ≤ 50) := ⟨by have := HMB.out; have := HM1.out; omega⟩
        have hba : back a = L ++ [45] := by unfold back; rw [if_pos (by have := HNN.out.2; unfold mnM at this; exact of_decide_eq_true this.symm), HLL.out, HNN.out.1]
        have HBA := Aside0.mk hba
        clear hba
        obtain ⟨wx, hwx⟩ : ∃ wx, wx = w13 := ⟨_, rfl⟩
        have TY : Aside0 (TyW w wx (back a) (.slice A13 m1 c13) 0 (wx.alloc (.cells #[.pointer none, .slice none 0 0] 91))) := ⟨by
          refine ⟨?_, (Below.refl _ _).alloc (Nat.le_refl _) _, ?_, ?_⟩
          · have := Lib.fresh_isBuilder 91 5 wx
            rwa [List.take_zero]
          · rw [hwx]; rw [HBA.out]; exact R13.out
          · rw [hwx]; exact TX.out.k2.trans ⟨B13.out.os, B13.out.tape, B13.out.output, B13.out.size, fun k hk => B13.out.block k (by omega)⟩⟩
        have HLX : Aside0 ((back a).length = m1) := ⟨by rw [HBA.out]; exact he13⟩
        rw [← hwx]
        clear hwx
        go_loopg [8, 58] (m1) (fun kq v8 v58 w' => ∃ i : Nat, v58 = .int .i64 (i : Int) ∧ Aside0 (kq + i = m1) ∧ Aside0 (TyW w wx (back a) (.slice A13 m1 c13) i w'))
        case atStart => exact ⟨0, rfl, ⟨rfl⟩, TY⟩
        case round =>
          clear TY
          obtain ⟨i, rfl, HI, TY⟩ := hrel
          by_cases hi : i < m1
          · obtain ⟨p, hp⟩ : ∃ p : Nat, p + i + 1 = m1 := ⟨m1 - 1 - i, by omega⟩
            obtain ⟨c0, cap0, hv0, hcell⟩ := TY.out.row'.at_ p (by rw [HLX.out]; omega)
            rw [HLX.out] at hv0
            injection hv0 with hA0 _ hc0
            subst hA0 hc0
            have hiI : (i : Int) < ((m1 : Nat) : Int) := by omega
            have HM := Aside0.mk HMX.out
            have t1 : IntKind.i64.wrap (((m1 : Nat) : Int) - 1) = ((m1 : Nat) : Int) - 1 := IntWalk.i64_in _ (by have := HMX.out; omega)
            have t2 : ((m1 : Nat) : Int) - 1 - (i : Int) = (p : Int) := by omega
            have t3 : IntKind.i64.wrap (p : Int) = (p : Int) := IntWalk.i64_in _ (by have := HMX.out; omega)
            have t4 : (p : Int) < ((m1 : Nat) : Int) := by omega
            have t5 : IntKind.i64.wrap ((i : Int) + 1) = (((i + 1 : Nat)) : Int) := by rw [IntWalk.i64_in _ (by have := HMX.out; omega)]; rfl
            have HREV := Aside0.mk (rev_at (back a) i p (by rw [HLX.out]; exact hp))
            have HLN : Aside0 ((Lib.byteCells ((back a).reverse.take i)).length + 1 ≤ 140737488355328) := ⟨by rw [Lib.byteCells_length, List.length_take]; have := HMX.out; omega⟩
            obtain ⟨ch, hch⟩ : ∃ ch, ch = (back a).getD p 0 := ⟨_, rfl⟩
            rw [← hch] at hcell HREV
            have HP := Aside0.mk (And.intro hp hi)
            clear hch hp hi
            go_wp2_with (first
              | ((with_reducible refine gate_callee (f := 57) rfl ?_); (try (refine gate_guard (by rfl) ?_; dsimp only)); refine goesL_ (some 69) rfl rfl Try.func57 (by kernel_rfl) rfl #[.pointer (some ⟨wx.heap.size, 0, none⟩), .int .u8 (ch.toNat : Int)] rfl (by (try simp only [List.map_toArray, List.map_cons, List.map_nil]); first | done | rfl) ?_; (with_reducible refine (writeByte wx.heap.size wx.heap.size _ (ch.toNat : Int) _ TY.out.ib HLN.out TY.out.bel.size).mono ?_); rintro e w9 ⟨rfl, hb9, hc9⟩; refine ⟨_, rfl, ?_⟩; have TZ := Aside0.mk (TY.out.next ch HREV.out hb9 hc9); clear hb9 hc9))
            go_roundg (gk - 1)
            all_goals first
              | exact ⟨i + 1, rfl, ⟨by have := HI.out; have := HP.out.2; omega⟩, TZ⟩
              | (have := HI.out; have := HP.out.2; omega)
          · have hi2 : i ≤ m1 := by have := HI.out; omega
            have hei : m1 = i := by omega
            subst hei
            have TZ : Aside0 (TyW w wx (back a) (.slice A13 m1 c13) (back a).length wr) := ⟨by rw [HLX.out]; exact TY.out⟩
            clear TY hi hi2
            go_wp2_with (first
              | ((with_reducible refine gate_callee (f := 58) rfl ?_); (try (refine gate_guard (by rfl) ?_; dsimp only)); refine goesL_ (some 71) rfl rfl Try.func58 (by kernel_rfl) rfl #[.pointer (some ⟨wx.heap.size, 0, none⟩)] rfl (by (try simp only [List.map_toArray, List.map_cons, List.map_nil]); first | done | rfl) ?_; (with_reducible refine (Try.Builder_String_any wx.heap.size wx.heap.size (back a).reverse _ TZ.out.all TZ.out.bel.size).mono ?_); rintro e w9 ⟨rfl, hb9⟩; refine ⟨_, rfl, ?_⟩; have B9 := Aside0.mk hb9; clear hb9))
            go_ret
            exact ⟨rfl, TZ.out.bw.trans ⟨(TZ.out.bel.trans B9.out).os, (TZ.out.bel.trans B9.out).tape, (TZ.out.bel.trans B9.out).output, (TZ.out.bel.trans B9.out).size, fun k hk => (TZ.out.bel.trans B9.out).block k (by have := TZ.out.bw.size; omega)⟩⟩
    · obtain ⟨r, hr⟩ : ∃ r, r = H % 10 := ⟨_, rfl⟩
      have hr1 : 0 ≤ r ∧ r < 10 := by omega
      rw [← hr] at q2
      obtain ⟨k, hk⟩ := MonDiv.div64_val r Lw 10 hr1.1 hr1.2 (by decide) q11.1 q11.2
      have hk := hk k (Nat.le_refl _)
      rw [q2.1, q2.2] at hk
      have q6 : H.tdiv 10 = H' := by rw [Int.tdiv_eq_ediv_of_nonneg q5, q1]
      have q7 : H.tmod 10 = r := by rw [Int.tmod_eq_emod_of_nonneg q5, hr]
      obtain ⟨d, hd⟩ : ∃ d : Int, d = ((n % 10 : Nat) : Int) := ⟨_, rfl⟩
      rw [← hd] at hk
      have HD := Aside0.mk hk
      have q9 : IntKind.u64.wrap (48 + d) = 48 + d := IntWalk.u64_in _ (by omega)
      have q10 : IntKind.u8.wrap (48 + d) = 48 + d := IntWalk.u8_in _ (by omega)
      have HDD : Aside0 (48 + d = ((dg n).toNat : Int)) := ⟨by rw [dg_nat, hd]; omega⟩
      have HX := Aside0.mk hx
      clear q1 q2 hk hr hd q5 hx q11 hr1
      by_cases h0 : j = 0
      · subst h0
        have hL : L = [] := TX.out.at0 rfl
        subst hL
        have hm : m = 0 := HL.out.symm
        subst hm
        have HLEN : Aside0 (([] : List UInt8).length + 1 ≤ 1000) := ⟨by decide⟩
        have he7 : (([] : List UInt8) ++ [dg n]).length = 1 := rfl
        by_cases hn : n = 0
        · have ho : (Go.bits .or .u64 H Lw != 0) = false := o1.trans (decide_eq_false (by omega))
          have HN0 := Aside0.mk hn
          clear hn o1 o2
          go_wp2_with (first
            | ((with_reducible refine gate_callee (f := 46) rfl ?_); (try (refine gate_guard (by rfl) ?_; dsimp only)); refine goesL_ (some 29) rfl rfl Try.func46 (by kernel_rfl) rfl #[.int .u64 r, .int .u64 Lw, .int .u64 10] rfl (by (try simp only [List.map_toArray, List.map_cons, List.map_nil]); first | done | rfl) ?_; (with_reducible refine (bits_Div64.calls _ r Lw 10 _ _ _ HD.out).mono ?_); rintro e w' ⟨rfl, ⟨nd, rfl⟩⟩; refine ⟨_, rfl, ?_⟩; skip)
            | ((with_reducible refine gate_builtin (b := .append) rfl ?_); refine app1 rfl (.tmp 32) (.tmp 36) rfl rfl _ (dg n) HDD.out rfl (TX.out.row.keep (fun _ _ _ _ => rfl)) HB0.out HLEN.out ?_; intro v7 w7 hr7 hb7; obtain ⟨A7, c7, hv7⟩ := hr7.form; rw [he7] at hv7; subst hv7; have R7 := Aside0.mk hr7; have B7 := Aside0.mk hb7; have Z7 := Aside0.mk (Nat.le_trans HB0.out hb7.size); clear hr7 hb7))
          go_roundg (gk - 1)
          all_goals first
            | exact ⟨1, n / 10, 1, _, A7, c7, by rw [H1.out], by rw [H2.out], rfl, ⟨he7⟩, ⟨TX.out.next HX.out (rfl) R7.out B7.out (by intro h; first | exact he7 | (have := HJ2.out.1; omega) | omega) (by intro h; rw [he7]; first | omega | exact HM3.out) (by rw [he7]; first | omega | exact HM4.out)⟩⟩
            | (have := TX.out.more HX.out; omega)
        · have ho : (Go.bits .or .u64 H Lw != 0) = true := o1.trans (decide_eq_true (by omega))
          have HN0 := Aside0.mk hn
          clear hn o1 o2
          go_wp2_with (first
            | ((with_reducible refine gate_callee (f := 46) rfl ?_); (try (refine gate_guard (by rfl) ?_; dsimp only)); refine goesL_ (some 29) rfl rfl Try.func46 (by kernel_rfl) rfl #[.int .u64 r, .int .u64 Lw, .int .u64 10] rfl (by (try simp only [List.map_toArray, List.map_cons, List.map_nil]); first | done | rfl) ?_; (with_reducible refine (bits_Div64.calls _ r Lw 10 _ _ _ HD.out).mono ?_); rintro e w' ⟨rfl, ⟨nd, rfl⟩⟩; refine ⟨_, rfl, ?_⟩; skip)
            | ((with_reducible refine gate_builtin (b := .append) rfl ?_); refine app1 rfl (.tmp 32) (.tmp 36) rfl rfl _ (dg n) HDD.out rfl (TX.out.row.keep (fun _ _ _ _ => rfl)) HB0.out HLEN.out ?_; intro v7 w7 hr7 hb7; obtain ⟨A7, c7, hv7⟩ := hr7.form; rw [he7] at hv7; subst hv7; have R7 := Aside0.mk hr7; have B7 := Aside0.mk hb7; have Z7 := Aside0.mk (Nat.le_trans HB0.out hb7.size); clear hr7 hb7))
          go_roundg (gk - 1)
          all_goals first
            | exact ⟨1, n / 10, 1, _, A7, c7, by rw [H1.out], by rw [H2.out], rfl, ⟨he7⟩, ⟨TX.out.next HX.out (rfl) R7.out B7.out (by intro h; first | exact he7 | (have := HJ2.out.1; omega) | omega) (by intro h; rw [he7]; first | omega | exact HM3.out) (by rw [he7]; first | omega | exact HM4.out)⟩⟩
            | (have := TX.out.more HX.out; omega)
      · by_cases h1 : j = 1
        · subst h1
          have hL : L.length = 1 := TX.out.at1 rfl
          have hm : m = 1 := by rw [← HL.out, hL]
          subst hm
          have HLEN : Aside0 (L.length + 1 ≤ 1000) := ⟨by omega⟩
          have HLEN9 : Aside0 ((L ++ [dg n]).length + 1 ≤ 1000) := ⟨by rw [List.length_append, hL]; show 1 + 1 + 1 ≤ 1000; decide⟩
          have HLEN11 : Aside0 (((L ++ [dg n]) ++ [46]).length + 1 ≤ 1000) := ⟨by rw [List.length_append, List.length_append, hL]; show 1 + 1 + 1 + 1 ≤ 1000; decide⟩
          have he7 : (L ++ [dg n]).length = 2 := by rw [List.length_append, hL]; rfl
          have he9 : ((L ++ [dg n]) ++ [46]).length = 3 := by rw [List.length_append, he7]; rfl
          have he11 : (((L ++ [dg n]) ++ [46]) ++ [48]).length = 4 := by rw [List.length_append, he9]; rfl
          clear hL
          by_cases hn : n = 0
          · have ho : (Go.bits .or .u64 H Lw != 0) = false := o1.trans (decide_eq_false (by omega))
            have ho2 : (Go.bits .or .u64 H' L' == 0) = true := by have h3 := o2.trans (decide_eq_false (by omega)); rw [bne] at h3; cases h4 : (Go.bits .or .u64 H' L' == 0) <;> rw [h4] at h3 <;> first | rfl | cases h3
            have HN1 : Aside0 (n / 10 = 0) := ⟨by omega⟩
            clear hn o1 o2
            go_wp2_with (first
              | ((with_reducible refine gate_callee (f := 46) rfl ?_); (try (refine gate_guard (by rfl) ?_; dsimp only)); refine goesL_ (some 29) rfl rfl Try.func46 (by kernel_rfl) rfl #[.int .u64 r, .int .u64 Lw, .int .u64 10] rfl (by (try simp only [List.map_toArray, List.map_cons, List.map_nil]); first | done | rfl) ?_; (with_reducible refine (bits_Div64.calls _ r Lw 10 _ _ _ HD.out).mono ?_); rintro e w' ⟨rfl, ⟨nd, rfl⟩⟩; refine ⟨_, rfl, ?_⟩; skip)
              | ((with_reducible refine gate_builtin (b := .append) rfl ?_); refine app1 rfl (.tmp 32) (.tmp 36) rfl rfl _ (dg n) HDD.out rfl (TX.out.row.keep (fun _ _ _ _ => rfl)) HB0.out HLEN.out ?_; intro v7 w7 hr7 hb7; obtain ⟨A7, c7, hv7⟩ := hr7.form; rw [he7] at hv7; subst hv7; have R7 := Aside0.mk hr7; have B7 := Aside0.mk hb7; have Z7 := Aside0.mk (Nat.le_trans HB0.out hb7.size); clear hr7 hb7)
              | ((with_reducible refine gate_builtin (b := .append) rfl ?_); refine app1 rfl (.tmp 41) (.tmp 42) rfl rfl _ (46) rfl rfl R7.out Z7.out HLEN9.out ?_; intro v9 w9 hr9 hb9; obtain ⟨A9, c9, hv9⟩ := hr9.form; rw [he9] at hv9; subst hv9; have R9 := Aside0.mk hr9; have B9 := Aside0.mk hb9; have Z9 := Aside0.mk (Nat.le_trans Z7.out hb9.size); clear hr9 hb9)
              | ((with_reducible refine gate_builtin (b := .append) rfl ?_); refine app1 rfl (.tmp 48) (.tmp 49) rfl rfl _ (48) rfl rfl R9.out Z9.out HLEN11.out ?_; intro v11 w11 hr11 hb11; obtain ⟨A11, c11, hv11⟩ := hr11.form; rw [he11] at hv11; subst hv11; have R11 := Aside0.mk hr11; have B11 := Aside0.mk hb11; have Z11 := Aside0.mk (Nat.le_trans Z9.out hb11.size); clear hr11 hb11))
            go_roundg (gk - 1)
            all_goals first
              | exact ⟨2, n / 10, 4, _, A11, c11, by rw [H1.out], by rw [H2.out], rfl, ⟨he11⟩, ⟨TX.out.next HX.out (by rw [show rem 1 n = dg n :: 46 :: tl (n / 10) from rfl, show rem (1 + 1) (n / 10) = lds (n / 10) from rfl, tl, if_pos HN1.out, HN1.out, lds_zero]; simp) R11.out ((B7.out.trans B9.out).trans B11.out) (by intro h; first | exact he11 | omega) (by intro h; rw [he11]; first | omega | exact HM3.out) (by rw [he11]; first | omega | exact HM4.out)⟩⟩
              | (have := TX.out.more HX.out; omega)
          · by_cases hn1 : n / 10 = 0
            · have ho : (Go.bits .or .u64 H Lw != 0) = true := o1.trans (decide_eq_true (by omega))
              have ho2 : (Go.bits .or .u64 H' L' == 0) = true := by have h3 := o2.trans (decide_eq_false (by omega)); rw [bne] at h3; cases h4 : (Go.bits .or .u64 H' L' == 0) <;> rw [h4] at h3 <;> first | rfl | cases h3
              have HN1 := Aside0.mk hn1
              clear hn hn1 o1 o2
              go_wp2_with (first
                | ((with_reducible refine gate_callee (f := 46) rfl ?_); (try (refine gate_guard (by rfl) ?_; dsimp only)); refine goesL_ (some 29) rfl rfl Try.func46 (by kernel_rfl) rfl #[.int .u64 r, .int .u64 Lw, .int .u64 10] rfl (by (try simp only [List.map_toArray, List.map_cons, List.map_nil]); first | done | rfl) ?_; (with_reducible refine (bits_Div64.calls _ r Lw 10 _ _ _ HD.out).mono ?_); rintro e w' ⟨rfl, ⟨nd, rfl⟩⟩; refine ⟨_, rfl, ?_⟩; skip)
                | ((with_reducible refine gate_builtin (b := .append) rfl ?_); refine app1 rfl (.tmp 32) (.tmp 36) rfl rfl _ (dg n) HDD.out rfl (TX.out.row.keep (fun _ _ _ _ => rfl)) HB0.out HLEN.out ?_; intro v7 w7 hr7 hb7; obtain ⟨A7, c7, hv7⟩ := hr7.form; rw [he7] at hv7; subst hv7; have R7 := Aside0.mk hr7; have B7 := Aside0.mk hb7; have Z7 := Aside0.mk (Nat.le_trans HB0.out hb7.size); clear hr7 hb7)
                | ((with_reducible refine gate_builtin (b := .append) rfl ?_); refine app1 rfl (.tmp 41) (.tmp 42) rfl rfl _ (46) rfl rfl R7.out Z7.out HLEN9.out ?_; intro v9 w9 hr9 hb9; obtain ⟨A9, c9, hv9⟩ := hr9.form; rw [he9] at hv9; subst hv9; have R9 := Aside0.mk hr9; have B9 := Aside0.mk hb9; have Z9 := Aside0.mk (Nat.le_trans Z7.out hb9.size); clear hr9 hb9)
                | ((with_reducible refine gate_builtin (b := .append) rfl ?_); refine app1 rfl (.tmp 48) (.tmp 49) rfl rfl _ (48) rfl rfl R9.out Z9.out HLEN11.out ?_; intro v11 w11 hr11 hb11; obtain ⟨A11, c11, hv11⟩ := hr11.form; rw [he11] at hv11; subst hv11; have R11 := Aside0.mk hr11; have B11 := Aside0.mk hb11; have Z11 := Aside0.mk (Nat.le_trans Z9.out hb11.size); clear hr11 hb11))
              go_roundg (gk - 1)
              all_goals first
                | exact ⟨2, n / 10, 4, _, A11, c11, by rw [H1.out], by rw [H2.out], rfl, ⟨he11⟩, ⟨TX.out.next HX.out (by rw [show rem 1 n = dg n :: 46 :: tl (n / 10) from rfl, show rem (1 + 1) (n / 10) = lds (n / 10) from rfl, tl, if_pos HN1.out, HN1.out, lds_zero]; simp) R11.out ((B7.out.trans B9.out).trans B11.out) (by intro h; first | exact he11 | omega) (by intro h; rw [he11]; first | omega | exact HM3.out) (by rw [he11]; first | omega | exact HM4.out)⟩⟩
                | (have := TX.out.more HX.out; omega)
            · have ho : (Go.bits .or .u64 H Lw != 0) = true := o1.trans (decide_eq_true (by omega))
              have ho2 : (Go.bits .or .u64 H' L' == 0) = false := by have h3 := o2.trans (decide_eq_true (by omega)); rw [bne] at h3; cases h4 : (Go.bits .or .u64 H' L' == 0) <;> rw [h4] at h3 <;> first | rfl | cases h3
              have HN1 := Aside0.mk hn1
              clear hn hn1 o1 o2
              go_wp2_with (first
                | ((with_reducible refine gate_callee (f := 46) rfl ?_); (try (refine gate_guard (by rfl) ?_; dsimp only)); refine goesL_ (some 29) rfl rfl Try.func46 (by kernel_rfl) rfl #[.int .u64 r, .int .u64 Lw, .int .u64 10] rfl (by (try simp only [List.map_toArray, List.map_cons, List.map_nil]); first | done | rfl) ?_; (with_reducible refine (bits_Div64.calls _ r Lw 10 _ _ _ HD.out).mono ?_); rintro e w' ⟨rfl, ⟨nd, rfl⟩⟩; refine ⟨_, rfl, ?_⟩; skip)
                | ((with_reducible refine gate_builtin (b := .append) rfl ?_); refine app1 rfl (.tmp 32) (.tmp 36) rfl rfl _ (dg n) HDD.out rfl (TX.out.row.keep (fun _ _ _ _ => rfl)) HB0.out HLEN.out ?_; intro v7 w7 hr7 hb7; obtain ⟨A7, c7, hv7⟩ := hr7.form; rw [he7] at hv7; subst hv7; have R7 := Aside0.mk hr7; have B7 := Aside0.mk hb7; have Z7 := Aside0.mk (Nat.le_trans HB0.out hb7.size); clear hr7 hb7)
                | ((with_reducible refine gate_builtin (b := .append) rfl ?_); refine app1 rfl (.tmp 41) (.tmp 42) rfl rfl _ (46) rfl rfl R7.out Z7.out HLEN9.out ?_; intro v9 w9 hr9 hb9; obtain ⟨A9, c9, hv9⟩ := hr9.form; rw [he9] at hv9; subst hv9; have R9 := Aside0.mk hr9; have B9 := Aside0.mk hb9; have Z9 := Aside0.mk (Nat.le_trans Z7.out hb9.size); clear hr9 hb9))
              go_roundg (gk - 1)
              all_goals first
                | exact ⟨2, n / 10, 3, _, A9, c9, by rw [H1.out], by rw [H2.out], rfl, ⟨he9⟩, ⟨TX.out.next HX.out (by rw [show rem 1 n = dg n :: 46 :: tl (n / 10) from rfl, show rem (1 + 1) (n / 10) = lds (n / 10) from rfl, tl, if_neg HN1.out]; simp) R9.out (B7.out.trans B9.out) (by intro h; first | exact he9 | omega) (by intro h; rw [he9]; first | omega | exact HM3.out) (by rw [he9]; first | omega | exact HM4.out)⟩⟩
                | (have := TX.out.more HX.out; omega)
        · have hj2 : 2 ≤ j := by omega
          have hn : n ≠ 0 := fun e => HX.out ⟨e, hj2⟩
          have HLEN : Aside0 (L.length + 1 ≤ 1000) := ⟨by have := TX.out.len; have := TX.out.fuel; omega⟩
          have he7 : (L ++ [dg n]).length = m + 1 := by rw [List.length_append, HL.out]; rfl
          have HM3 : Aside0 (3 ≤ m + 1) := ⟨by have := TX.out.at2 hj2; have := HL.out; omega⟩
          have HM4 : Aside0 (m + 1 ≤ j + 3) := ⟨by have := TX.out.len; have := HL.out; omega⟩
          have hm2 : ¬ ((m + 1 : Nat) : Int) = 2 := by have := TX.out.at2 hj2; have := HL.out; omega
          have hm2' : (((m + 1 : Nat) : Int) == 2) = false := beq_eq_false_iff_ne.mpr hm2
          have ho : (Go.bits .or .u64 H Lw != 0) = true := o1.trans (decide_eq_true (by omega))
          have HJ2 := Aside0.mk (And.intro hj2 hn)
          clear hn o1 o2 h0 h1 hj2
          go_wp2_with (first
            | ((with_reducible refine gate_callee (f := 46) rfl ?_); (try (refine gate_guard (by rfl) ?_; dsimp only)); refine goesL_ (some 29) rfl rfl Try.func46 (by kernel_rfl) rfl #[.int .u64 r, .int .u64 Lw, .int .u64 10] rfl (by (try simp only [List.map_toArray, List.map_cons, List.map_nil]); first | done | rfl) ?_; (with_reducible refine (bits_Div64.calls _ r Lw 10 _ _ _ HD.out).mono ?_); rintro e w' ⟨rfl, ⟨nd, rfl⟩⟩; refine ⟨_, rfl, ?_⟩; skip)
            | ((with_reducible refine gate_builtin (b := .append) rfl ?_); refine app1 rfl (.tmp 32) (.tmp 36) rfl rfl _ (dg n) HDD.out rfl (TX.out.row.keep (fun _ _ _ _ => rfl)) HB0.out HLEN.out ?_; intro v7 w7 hr7 hb7; obtain ⟨A7, c7, hv7⟩ := hr7.form; rw [he7] at hv7; subst hv7; have R7 := Aside0.mk hr7; have B7 := Aside0.mk hb7; have Z7 := Aside0.mk (Nat.le_trans HB0.out hb7.size); clear hr7 hb7))
          go_roundg (gk - 1)
          all_goals first
            | exact ⟨j + 1, n / 10, m + 1, _, A7, c7, by rw [H1.out], by rw [H2.out], rfl, ⟨he7⟩, ⟨TX.out.next HX.out (by rw [rem_ge j n HJ2.out.1, rem_ge (j + 1) _ (by have := HJ2.out.1; omega), lds_pos n HJ2.out.2]; simp) R7.out B7.out (by intro h; first | exact he7 | (have := HJ2.out.1; omega) | omega) (by intro h; rw [he7]; first | omega | exact HM3.out) (by rw [he7]; first | omega | exact HM4.out)⟩⟩
            | (have := TX.out.more HX.out; omega)
end Go.Proofs.Ythmjmkbahneneaa.PMon
end
