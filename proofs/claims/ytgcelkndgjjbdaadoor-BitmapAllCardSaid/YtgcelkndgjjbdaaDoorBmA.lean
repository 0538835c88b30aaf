/- The map behind a pointer: its block; Top, Low, Middle, Has. -/
import Derived.Test.YtgcelkndgjjbdaaDoorPBmx1
import Derived.Test.YtgcelkndgjjbdaaDoorBmP
import Derived.Test.YtgcelkndgjjbdaaDoorWGuard
import Derived.RegionTactic
import Derived.ChangeAlike
import Derived.Laws.BitsAllLaws
namespace Go.Proofs.YtgcelkndgjjbdaaDoor.PBm
open Go.RowKit Go.Proofs.YtgcelkndgjjbdaaDoorW.PrintWords Go.Proofs.YtgcelkndgjjbdaaDoorW.PrintLast Go.Proofs.YtgcelkndgjjbdaaDoorW.PrintMore
set_option linter.unusedVariables false
set_option linter.unusedSimpArgs false

/-- What a call keeps: the streams, and every elder block but those of S. -/
structure Fr (S : Nat → Prop) (w w' : World) : Prop where
  os : w'.os = w.os
  tape : w'.tape = w.tape
  output : w'.output = w.output
  size : w.heap.size ≤ w'.heap.size
  block : ∀ k, k < w.heap.size → ¬ S k → w'.heap[k]? = w.heap[k]?

namespace Fr
variable {S S' S2 : Nat → Prop} {w w' w2 : World}
theorem refl (S : Nat → Prop) (w : World) : Fr S w w := ⟨rfl, rfl, rfl, Nat.le_refl _, fun _ _ _ => rfl⟩
theorem trans (h : Fr S w w') (k : Fr S2 w' w2) (hs : ∀ i, S2 i → S i ∨ w.heap.size ≤ i) : Fr S w w2 :=
  ⟨k.os.trans h.os, k.tape.trans h.tape, k.output.trans h.output, Nat.le_trans h.size k.size, fun i hi hn =>
    (k.block i (Nat.lt_of_lt_of_le hi h.size) (fun h2 => (hs i h2).elim hn (fun h3 => by omega))).trans (h.block i hi hn)⟩
theorem mono (h : Fr S w w') (hs : ∀ i, S i → S' i ∨ w.heap.size ≤ i) : Fr S' w w' :=
  ⟨h.os, h.tape, h.output, h.size, fun i hi hn => h.block i hi (fun h2 => (hs i h2).elim hn (fun h3 => by omega))⟩
theorem alloc (h : Fr S w w') (o : Obj) : Fr S w (w'.alloc o) :=
  h.trans (S2 := fun _ => False) ⟨rfl, rfl, rfl, by simp, fun i hi _ => Below.heap_alloc _ _ _ hi⟩ (fun _ h => h.elim)
theorem setCell (h : Fr S w w') {p : Addr} (hp : S p.block ∨ w.heap.size ≤ p.block) (u : Value) : Fr S w (w'.setCell p u) :=
  h.trans (S2 := fun i => i = p.block) ⟨rfl, rfl, rfl, by simp [World.setCell], fun i _ hn => Below.heap_setCell w' p u i hn⟩ (fun i hi => by rw [hi]; exact hp)
theorem drew (h : Fr S w w') : Fr S w w'.drew := ⟨h.os, h.tape, h.output, h.size, h.block⟩
theorem drewN (h : Fr S w w') (m : Nat) : Fr S w (w'.drewN m) := ⟨h.os, h.tape, h.output, h.size, h.block⟩
theorem below (h : Fr S w w') (k : Below w'.heap.size w' w2) : Fr S w w2 :=
  h.trans (S2 := fun _ => False) ⟨k.os, k.tape, k.output, k.size, fun i hi _ => k.block i hi⟩ (fun _ h => h.elim)
theorem grown (h : Fr S w w') {row : Option Nat} (k : w'.grownBy w2 row) (hr : ∀ i, row = some i → S i ∨ w.heap.size ≤ i) : Fr S w w2 :=
  h.trans (S2 := fun i => row = some i) ⟨k.os, k.tape, k.output, k.size, fun i hi hn => k.block i hi (fun e => hn e.symm)⟩ hr
theorem toBelow (h : Fr S w w') (hs : ∀ i, S i → w.heap.size ≤ i) : Below w.heap.size w w' :=
  ⟨h.os, h.tape, h.output, h.size, fun i hi => h.block i hi (fun h2 => by have := hs i h2; omega)⟩
theorem blk (h : Fr S w w') {g : Nat} {o : Obj} (hb : w.heap[g]? = some o) (hn : ¬ S g) : w'.heap[g]? = some o :=
  (h.block g (blk_lt hb) hn).trans hb
end Fr

/-! ## The map's cells -/
def cw (S : St) (k : Nat) : Nat := if k = 0 then topW S else if k < 65 then midW S (k - 1) else lowW S (k - 65)
def cv (S : St) (k : Nat) : Value := .int .u64 (cw S k : Nat)
def cells (S : St) : Array Value := Array.ofFn (n := 4161) fun k => cv S k.val

theorem cells_size (S : St) : (cells S).size = 4161 := Array.size_ofFn
theorem cells_at (S : St) (k : Nat) (hk : k < 4161) : (cells S)[k]? = some (cv S k) := by
  unfold cells
  rw [Array.getElem?_ofFn, dif_pos hk]

theorem cw_lt (S : St) (k : Nat) : cw S k < 18446744073709551616 := by
  unfold cw
  split
  · exact topW_lt S
  · split
    · exact midW_lt S _
    · exact lowW_lt S _

theorem cells_ext {S T : St} (h : ∀ t, t < 262144 → S t = T t) : cells S = cells T := by
  have e : (fun k : Fin 4161 => cv S k.val) = fun k => cv T k.val := by
    funext k
    unfold cv cw
    split
    · rw [top_ext h]
    · split
      · rw [mid_ext h _ (by omega)]
      · rw [low_ext h _ (by have := k.isLt; omega)]
  unfold cells
  rw [e]

theorem cells_inj {S T : St} (h : cells S = cells T) (t : Nat) (ht : t < 262144) : S t = T t := by
  refine low_inj (fun i hi => ?_) t ht
  have h1 := cells_at S (65 + i) (by omega)
  have h2 := cells_at T (65 + i) (by omega)
  rw [h, h2] at h1
  simp only [cv, cw, Option.some.injEq, Value.int.injEq, true_and] at h1
  rw [if_neg (by omega), if_neg (by omega), if_neg (by omega), if_neg (by omega), show 65 + i - 65 = i by omega] at h1
  omega

/-- The map at block g holds S. -/
def Bm (W : World) (g : Nat) (S : St) : Prop := W.heap[g]? = some (.cells (cells S) 37 (0, 0))

namespace Bm
variable {W W' : World} {g : Nat} {S T : St}
theorem lt (h : Bm W g S) : g < W.heap.size := blk_lt h
theorem keep (h : Bm W g S) (hg : W'.heap[g]? = W.heap[g]?) : Bm W' g S := hg.trans h
theorem fr {X : Nat → Prop} (h : Bm W g S) (k : Fr X W W') (hg : ¬ X g) : Bm W' g S := h.keep (k.block g h.lt hg)
theorem below {B : Nat} (h : Bm W g S) (k : Below B W W') (hg : g < B) : Bm W' g S := h.keep (k.block g hg)
theorem ext (h : Bm W g S) (e : ∀ t, t < 262144 → S t = T t) : Bm W g T := by unfold Bm; rw [← cells_ext e]; exact h
theorem cell (h : Bm W g S) (k : Nat) (hk : k < 4161) : W.cell? ⟨g, k, none⟩ = some (cv S k) := (blk_cell h k).trans (cells_at S k hk)
theorem frozen (h : Bm W g S) (k : Nat) : W.frozen? ⟨g, k, none⟩ = false := blk_frozen h k
theorem top (h : Bm W g S) : W.cell? ⟨g, 0, none⟩ = some (.int .u64 (topW S : Nat)) := h.cell 0 (by decide)
theorem mid (h : Bm W g S) (j : Nat) (hj : j < 64) : W.cell? ⟨g, 1 + j, none⟩ = some (.int .u64 (midW S j : Nat)) := by
  rw [h.cell (1 + j) (by omega)]
  unfold cv cw
  rw [if_neg (by omega), if_pos (by omega), show 1 + j - 1 = j by omega]
theorem low (h : Bm W g S) (i : Nat) (hi : i < 4096) : W.cell? ⟨g, 65 + i, none⟩ = some (.int .u64 (lowW S i : Nat)) := by
  rw [h.cell (65 + i) (by omega)]
  unfold cv cw
  rw [if_neg (by omega), if_neg (by omega), show 65 + i - 65 = i by omega]
end Bm

set_option maxHeartbeats 8000000 in
set_option maxRecDepth 100000 in
theorem top_calls {W : World} {g : Nat} {S : St} (h : Bm W g S) :
    Calls Tryd.prog 24 #[.pointer (some ⟨g, 0, none⟩)] W fun e w' => e = .returned (.int .u64 (topW S : Nat)) ∧ w' = W := by
  have hc0 := h.top
  clear h
  go_enter Tryd.func24, Tryd.ntmps24
  go_wp2
  go_ret
  exact ⟨rfl, rfl⟩

set_option maxHeartbeats 8000000 in
set_option maxRecDepth 100000 in
theorem low_in {W : World} {g : Nat} {S : St} (h : Bm W g S) (i : Nat) (hi : i < 4096) :
    Calls Tryd.prog 25 #[.pointer (some ⟨g, 0, none⟩), .int .i64 (i : Int)] W fun e w' => e = .returned (.int .u64 (lowW S i : Nat)) ∧ w' = W := by
  have hc0 := h.low i hi
  clear h
  go_enter Tryd.func25, Tryd.ntmps25
  go_wp2
  go_ret
  exact ⟨rfl, rfl⟩

set_option maxHeartbeats 8000000 in
set_option maxRecDepth 100000 in
theorem low_out (W : World) (p : Value) (i : Int) (hi : i < 0 ∨ 4096 ≤ i) :
    Calls Tryd.prog 25 #[p, .int .i64 i] W fun e w' => e = .returned (.int .u64 0) ∧ w' = W := by
  by_cases h1 : i < 0
  · clear hi
    go_enter Tryd.func25, Tryd.ntmps25
    go_wp2
    go_ret
    exact ⟨rfl, rfl⟩
  · have h2 : 4096 ≤ i := by omega
    clear hi
    go_enter Tryd.func25, Tryd.ntmps25
    go_wp2
    go_ret
    exact ⟨rfl, rfl⟩

set_option maxHeartbeats 8000000 in
set_option maxRecDepth 100000 in
theorem mid_in {W : World} {g : Nat} {S : St} (h : Bm W g S) (i : Nat) (hi : i < 64) :
    Calls Tryd.prog 41 #[.pointer (some ⟨g, 0, none⟩), .int .i64 (i : Int)] W fun e w' => e = .returned (.int .u64 (midW S i : Nat)) ∧ w' = W := by
  have hc0 := h.mid i hi
  clear h
  go_enter Tryd.func41, Tryd.ntmps41
  go_wp2
  go_ret
  exact ⟨rfl, rfl⟩

set_option maxHeartbeats 8000000 in
set_option maxRecDepth 100000 in
theorem mid_out (W : World) (p : Value) (i : Int) (hi : i < 0 ∨ 64 ≤ i) :
    Calls Tryd.prog 41 #[p, .int .i64 i] W fun e w' => e = .returned (.int .u64 0) ∧ w' = W := by
  by_cases h1 : i < 0
  · clear hi
    go_enter Tryd.func41, Tryd.ntmps41
    go_wp2
    go_ret
    exact ⟨rfl, rfl⟩
  · have h2 : 64 ≤ i := by omega
    clear hi
    go_enter Tryd.func41, Tryd.ntmps41
    go_wp2
    go_ret
    exact ⟨rfl, rfl⟩

theorem div_pow (x k : Nat) : (x : Int) / 2 ^ k = ((x / 2 ^ k : Nat) : Int) := by
  rw [Int.natCast_ediv]
  simp
theorem and_one (x k : Nat) (hx : x < 18446744073709551616) : Go.bits .and .u64 ((x : Int) / 2 ^ k) 1 = ((x / 2 ^ k % 2 : Nat) : Int) := by
  rw [div_pow]
  have h := u64_and_nat (x / 2 ^ k) 1 (Nat.lt_of_le_of_lt (Nat.div_le_self _ _) hx) (by decide)
  rw [nat_mask1] at h
  exact h

/-- Is a number a tick; is it there? -/
def tickB (t : Int) : Bool := decide (0 ≤ t ∧ t < 262144)
def hasB (S : St) (t : Int) : Bool := tickB t && S t.toNat

set_option maxHeartbeats 8000000 in
set_option maxRecDepth 100000 in
theorem tick_calls (t : Int) (W : World) :
    Calls Tryd.prog 33 #[.int .i64 t] W fun e w' => e = .returned (.bool (tickB t)) ∧ w' = W := by
  by_cases h0 : 0 ≤ t
  · go_enter Tryd.func33, Tryd.ntmps33
    go_wp2
    go_ret
    refine ⟨?_, rfl⟩
    show Ending.returned (Value.bool (decide (t < 262144))) = _
    unfold tickB
    simp [h0]
  · go_enter Tryd.func33, Tryd.ntmps33
    go_wp2
    go_ret
    refine ⟨?_, rfl⟩
    show Ending.returned (Value.bool false) = _
    unfold tickB
    rw [decide_eq_false (fun h => by have := h.1; omega)]

set_option maxHeartbeats 8000000 in
set_option maxRecDepth 100000 in
theorem has_out (S : St) (W : World) (p : Value) (t : Int) (ht : tickB t = false) :
    Calls Tryd.prog 13 #[p, .int .i64 t] W fun e w' => e = .returned (.bool (hasB S t)) ∧ w' = W := by
  have HT := Aside0.mk ht
  have e : hasB S t = false := by unfold hasB; rw [ht]; rfl
  rw [e]
  clear e ht
  go_enter Tryd.func13, Tryd.ntmps13
  go_wp2_with (first | ((with_reducible refine gate_callee (f := 33) rfl ?_); refine goesL_ (some 6) rfl rfl Tryd.func33 (by kernel_rfl) rfl #[.int .i64 t] rfl (by (try simp only [List.map_toArray, List.map_cons, List.map_nil]); first | done | rfl) ?_; (with_reducible refine (tick_calls t _).mono ?_); rintro e w4 ⟨rfl, h4⟩; subst w4; rw [HT.out]; refine ⟨_, rfl, ?_⟩))
  go_ret
  exact ⟨rfl, rfl⟩

set_option maxHeartbeats 8000000 in
set_option maxRecDepth 100000 in
theorem has_in {W : World} {g : Nat} {S : St} (h : Bm W g S) (t : Nat) (ht : t < 262144) :
    Calls Tryd.prog 13 #[.pointer (some ⟨g, 0, none⟩), .int .i64 (t : Int)] W fun e w' => e = .returned (.bool (S t)) ∧ w' = W := by
  have hc0 := h.low (t / 64) (by omega)
  have HL := Aside0.mk (low_at S t)
  have HT : Aside0 (tickB (t : Int) = true) := ⟨by unfold tickB; simp; omega⟩
  clear h
  go_enter Tryd.func13, Tryd.ntmps13
  go_wp2_with (first | ((with_reducible refine gate_callee (f := 33) rfl ?_); refine goesL_ (some 6) rfl rfl Tryd.func33 (by kernel_rfl) rfl #[.int .i64 t] rfl (by (try simp only [List.map_toArray, List.map_cons, List.map_nil]); first | done | rfl) ?_; (with_reducible refine (tick_calls t _).mono ?_); rintro e w4 ⟨rfl, h4⟩; subst w4; rw [HT.out]; refine ⟨_, rfl, ?_⟩))
  go_ret
  refine ⟨?_, rfl⟩
  show Ending.returned (Value.bool (Go.bits .and .u64 (((lowW S (t / 64) : Nat) : Int) / 2 ^ (t % 64)) 1 == 1)) = _
  rw [and_one _ _ (lowW_lt S _), HL.out]
  cases S t <;> rfl

set_option maxHeartbeats 8000000 in
set_option maxRecDepth 100000 in
theorem set_no (S : St) {W : World} {g : Nat} (h : Bm W g S) (t : Int) (ht : tickB t = false ∨ hasB S t = true) :
    Calls Tryd.prog 15 #[.pointer (some ⟨g, 0, none⟩), .int .i64 t] W fun e w' => e = .returned (.bool false) ∧ w' = W := by
  cases h1 : tickB t with
  | false =>
    have HT := Aside0.mk h1
    clear ht h h1
    go_enter Tryd.func15, Tryd.ntmps15
    go_wp2_with (first | ((with_reducible refine gate_callee (f := 33) rfl ?_); refine goesL_ (some 7) rfl rfl Tryd.func33 (by kernel_rfl) rfl #[.int .i64 t] rfl (by (try simp only [List.map_toArray, List.map_cons, List.map_nil]); first | done | rfl) ?_; (with_reducible refine (tick_calls t _).mono ?_); rintro e w4 ⟨rfl, h4⟩; subst w4; rw [HT.out]; refine ⟨_, rfl, ?_⟩))
    go_ret
    exact ⟨rfl, rfl⟩
  | true =>
    have h2 : hasB S t = true := by rcases ht with h2 | h2; (rw [h1] at h2; cases h2); exact h2
    have h3 : 0 ≤ t ∧ t < 262144 := of_decide_eq_true h1
    obtain ⟨n, rfl⟩ : ∃ n : Nat, t = n := ⟨t.toNat, by omega⟩
    have hn : n < 262144 := by omega
    unfold hasB at h2
    rw [h1, Bool.true_and, Int.toNat_natCast] at h2
    have HX := has_in h n hn
    rw [h2] at HX
    have HT := Aside0.mk h1
    have H := Aside0.mk HX
    clear ht h h1 h2 HX h3
    go_enter Tryd.func15, Tryd.ntmps15
    go_wp2_with (first | ((with_reducible refine gate_callee (f := 33) rfl ?_); refine goesL_ (some 7) rfl rfl Tryd.func33 (by kernel_rfl) rfl #[.int .i64 n] rfl (by (try simp only [List.map_toArray, List.map_cons, List.map_nil]); first | done | rfl) ?_; (with_reducible refine (tick_calls n _).mono ?_); rintro e w4 ⟨rfl, h4⟩; subst w4; rw [HT.out]; refine ⟨_, rfl, ?_⟩) | ((with_reducible refine gate_callee (f := 13) rfl ?_); (try (refine gate_guard (by rfl) ?_; dsimp only)); refine goesL_ (some 12) rfl rfl Tryd.func13 (by kernel_rfl) rfl #[.pointer (some ⟨g, 0, none⟩), .int .i64 n] rfl (by (try simp only [List.map_toArray, List.map_cons, List.map_nil]); first | done | rfl) ?_; (with_reducible refine (H.out).mono ?_); rintro e w4 ⟨rfl, h4⟩; subst w4; refine ⟨_, rfl, ?_⟩))
    go_ret
    exact ⟨rfl, rfl⟩

theorem cells_up (S : St) (t : Nat) (v : Bool) (ht : t < 262144) : (((cells S).setIfInBounds (65 + t / 64) (Value.int IntKind.u64 (lowW (up S t v) (t / 64) : Nat))).setIfInBounds (1 + t / 64 / 64) (Value.int IntKind.u64 (midW (up S t v) (t / 64 / 64) : Nat))).setIfInBounds 0 (Value.int IntKind.u64 (topW (up S t v) : Nat)) = cells (up S t v) := by
  apply Array.ext_getElem?
  intro k
  by_cases hk : k < 4161
  · rw [cells_at _ k hk]
    by_cases h0 : k = 0
    · subst h0
      rw [Array.getElem?_setIfInBounds_self_of_lt (by simp [cells_size])]
      rfl
    · rw [Array.getElem?_setIfInBounds_ne (by omega)]
      unfold cv cw
      rw [if_neg h0]
      by_cases h1 : k < 65
      · rw [if_pos h1]
        by_cases h2 : k = 1 + t / 64 / 64
        · subst h2
          rw [Array.getElem?_setIfInBounds_self_of_lt (by simp [cells_size]; omega), show 1 + t / 64 / 64 - 1 = t / 64 / 64 by omega]
        · rw [Array.getElem?_setIfInBounds_ne (by omega), Array.getElem?_setIfInBounds_ne (by omega), cells_at _ k hk, midW_up_ne _ _ _ _ (by omega)]
          unfold cv cw
          rw [if_neg h0, if_pos h1]
      · rw [if_neg h1, Array.getElem?_setIfInBounds_ne (by omega)]
        by_cases h2 : k = 65 + t / 64
        · subst h2
          rw [Array.getElem?_setIfInBounds_self_of_lt (by simp [cells_size]; omega), show 65 + t / 64 - 65 = t / 64 by omega]
        · rw [Array.getElem?_setIfInBounds_ne (by omega), cells_at _ k hk, lowW_up_ne _ _ _ _ (by omega)]
          unfold cv cw
          rw [if_neg h0, if_neg h1]
  · rw [Array.getElem?_eq_none (by simp [cells_size]; omega), Array.getElem?_eq_none (by simp [cells_size]; omega)]

theorem or_pow (x : Nat) (k : Nat) (hx : x < 18446744073709551616) (hk : k < 64) : Go.bits .or .u64 (x : Int) (IntKind.u64.wrap (2 ^ k)) = ((x ||| 2 ^ k : Nat) : Int) := by
  have hp : 2 ^ k < 18446744073709551616 := Nat.pow_lt_pow_right (by decide : 1 < 2) hk
  have e : IntKind.u64.wrap (2 ^ k) = ((2 ^ k : Nat) : Int) := by
    have : ((2 : Int) ^ k) = ((2 ^ k : Nat) : Int) := by simp
    rw [this]
    generalize 2 ^ k = p at hp
    rw [IntKind.wrap_u64]
    omega
  rw [e]
  exact u64_or_nat x (2 ^ k) hx hp

set_option maxHeartbeats 8000000 in
set_option maxRecDepth 100000 in
theorem set_yes (S : St) {W : World} {g : Nat} (h : Bm W g S) (t : Nat) (ht : t < 262144) (hs : S t = false) :
    Calls Tryd.prog 15 #[.pointer (some ⟨g, 0, none⟩), .int .i64 t] W fun e w' => e = .returned (.bool true) ∧ Bm w' g (up S t true) ∧ Fr (fun k => k = g) W w' := by
  have HX := has_in h t ht
  rw [hs] at HX
  have HT : Aside0 (tickB (t : Int) = true) := ⟨by unfold tickB; simp; omega⟩
  have H := Aside0.mk HX
  have hc0 := h.low (t / 64) (by omega)
  have hf0 := h.frozen (65 + t / 64)
  have HM := Aside0.mk h
  clear HX h hs
  go_enter Tryd.func15, Tryd.ntmps15
  go_wp2_with (first | ((with_reducible refine gate_callee (f := 33) rfl ?_); refine goesL_ (some 7) rfl rfl Tryd.func33 (by kernel_rfl) rfl #[.int .i64 t] rfl (by (try simp only [List.map_toArray, List.map_cons, List.map_nil]); first | done | rfl) ?_; (with_reducible refine (tick_calls t _).mono ?_); rintro e w4 ⟨rfl, h4⟩; subst w4; rw [HT.out]; refine ⟨_, rfl, ?_⟩) | ((with_reducible refine gate_callee (f := 13) rfl ?_); (try (refine gate_guard (by rfl) ?_; dsimp only)); refine goesL_ (some 12) rfl rfl Tryd.func13 (by kernel_rfl) rfl #[.pointer (some ⟨g, 0, none⟩), .int .i64 t] rfl (by (try simp only [List.map_toArray, List.map_cons, List.map_nil]); first | done | rfl) ?_; (with_reducible refine (H.out).mono ?_); rintro e w4 ⟨rfl, h4⟩; subst w4; refine ⟨_, rfl, ?_⟩))
  go_region
  rw [or_pow _ _ (lowW_lt S _) (Nat.mod_lt _ (by decide)), ← lowW_set]
  obtain ⟨w1, hw1⟩ : ∃ w1, w1 = (W.setCell { block := g, off := 65 + t / 64 } (Value.int IntKind.u64 (lowW (up S t true) (t / 64) : Nat))).drew := ⟨_, rfl⟩
  have B1 : w1.heap[g]? = some (.cells ((cells S).setIfInBounds (65 + t / 64) (Value.int IntKind.u64 (lowW (up S t true) (t / 64) : Nat))) 37 (0, 0)) := by rw [hw1]; exact blk_set HM.out _ _
  have F1 : Fr (fun k => k = g) W w1 := by rw [hw1]; exact ((Fr.refl (fun k => k = g) W).setCell (p := ⟨g, 65 + t / 64, none⟩) (.inl rfl) _).drew
  have hc1 : w1.cell? ⟨g, 1 + t / 64 / 64, none⟩ = some (.int .u64 (midW S (t / 64 / 64) : Nat)) := by
    rw [blk_cell B1, Array.getElem?_setIfInBounds_ne (by omega), ← blk_cell HM.out]
    exact HM.out.mid _ (by omega)
  have hf1 := blk_frozen B1 (1 + t / 64 / 64)
  have HB1 := Aside0.mk B1
  have HF1 := Aside0.mk F1
  rw [← hw1]
  clear B1 F1 hw1 hc0 hf0
  go_wp2
  go_region
  rw [or_pow _ _ (midW_lt S _) (Nat.mod_lt _ (by decide)), ← midW_set]
  obtain ⟨w2, hw2⟩ : ∃ w2, w2 = (w1.setCell { block := g, off := 1 + t / 64 / 64 } (Value.int IntKind.u64 (midW (up S t true) (t / 64 / 64) : Nat))).drew := ⟨_, rfl⟩
  have B2 : w2.heap[g]? = some (.cells (((cells S).setIfInBounds (65 + t / 64) (Value.int IntKind.u64 (lowW (up S t true) (t / 64) : Nat))).setIfInBounds (1 + t / 64 / 64) (Value.int IntKind.u64 (midW (up S t true) (t / 64 / 64) : Nat))) 37 (0, 0)) := by rw [hw2]; exact blk_set HB1.out _ _
  have F2 : Fr (fun k => k = g) W w2 := by rw [hw2]; exact (HF1.out.setCell (p := ⟨g, 1 + t / 64 / 64, none⟩) (.inl rfl) _).drew
  have hc2 : w2.cell? ⟨g, 0, none⟩ = some (.int .u64 (topW S : Nat)) := by
    rw [blk_cell B2, Array.getElem?_setIfInBounds_ne (by omega), Array.getElem?_setIfInBounds_ne (by omega), ← blk_cell HM.out]
    exact HM.out.top
  have hf2 := blk_frozen B2 0
  have HB2 := Aside0.mk B2
  have HF2 := Aside0.mk F2
  rw [← hw2]
  clear B2 F2 hw2 hc1 hf1
  go_wp2
  go_region
  rw [or_pow _ _ (topW_lt S) (by omega), ← topW_set _ _ ht]
  go_wp2
  go_ret
  refine ⟨rfl, ?_, ?_⟩
  · have h3 := blk_set HB2.out 0 (Value.int IntKind.u64 (topW (up S t true) : Nat))
    rw [cells_up S t true ht] at h3
    exact h3
  · exact (HF2.out.setCell (p := ⟨g, 0, none⟩) (.inl rfl) _).drew
end Go.Proofs.YtgcelkndgjjbdaaDoor.PBm
