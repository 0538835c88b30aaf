/- MonSt, struck of what this claim does not name (wip/tools/pack2.py). -/
import Derived.Test.YthmjmkbahneneaaZa50
import Derived.Test.YthmjmkbahneneaaZa32
import Derived.Deep.DeepCutAuto
section
namespace Go.Proofs.Ythmjmkbahneneaa.PMon
open Go.RowKit Go.Proofs.Ythmjmkbahneneaa.PBig Go.Proofs.YthmjmkbahneneaaW.PrintWords Go.Proofs.YthmjmkbahneneaaW.PrintLast Go.Proofs.YthmjmkbahneneaaW.PrintMore
set_option linter.unusedVariables false
set_option linter.unusedSimpArgs false

theorem at_any (a : Int) : ∃ t : Nat, t < 4 ∧ bourselaw01_at.f a = some (t : Int) := by
  unfold bourselaw01_at.f
  have h1 : Int.tmod a 4 < 4 := Int.tmod_lt_of_pos a (by decide)
  have h2 : -4 < Int.tmod a 4 := Int.lt_tmod_of_pos a (by decide)
  by_cases c : Int.tmod a 4 < 0
  · rw [if_pos c]
    exact ⟨(Int.tmod a 4 + 4).toNat, by omega, by rw [w64 _ (by omega) (by omega), Int.toNat_of_nonneg (by omega)]⟩
  · rw [if_neg c]
    exact ⟨(Int.tmod a 4).toNat, by omega, by rw [Int.toNat_of_nonneg (by omega)]⟩
theorem at_calls (a : Int) (t : Nat) (h : bourselaw01_at.f a = some (t : Int)) (W : World) : Calls Try.prog 39 #[.int .i64 a] W fun e w' => e = .returned (.int .i64 (t : Int)) ∧ Below W.heap.size W w' := by
  refine (bourselaw01_at.calls a _ W h).mono ?_
  rintro e w' ⟨rfl, n, rfl⟩
  exact ⟨rfl, pw_below_drewN (Below.refl _ _) n⟩
theorem cents_any (a : Int) (h0 : -9223372036854775808 ≤ a) (h1 : a ≤ 9223372036854775807) (W : World) : Calls Try.prog 33 #[.int .i64 a] W fun e w' => e = .returned (M a) ∧ Below W.heap.size W w' := by
  have h : num_Cents.f a = some (hiM a, loM a, mnM a) := by
    unfold num_Cents.f hiM loM mnM
    by_cases c : a < 0
    · rw [if_pos c, decide_eq_true c, IntKind.wrap_u64, IntKind.wrap_u64]
      congr 2
      · omega
      · congr 1; omega
    · rw [if_neg c, decide_eq_false c, IntKind.wrap_u64]
      congr 2
      · omega
      · congr 1; omega
  exact num_Cents.calls a _ _ _ W h
theorem times_any (p q : Int) (h0 : 0 ≤ p) (h1 : p < 4294967296) (k0 : 0 ≤ q) (k1 : q < 18446744073709551616) (W : World) : Calls Try.prog 64 #[.int .u32 p, .int .u64 q] W fun e w' => e = .returned (M (p * q)) ∧ Below W.heap.size W w' := by
  obtain ⟨P, rfl⟩ : ∃ P : Nat, p = (P : Int) := ⟨p.toNat, by omega⟩
  obtain ⟨Q, rfl⟩ : ∃ Q : Nat, q = (Q : Int) := ⟨q.toNat, by omega⟩
  have eP : ((P : Int) * (Q : Int)) = ((P * Q : Nat) : Int) := by push_cast; rfl
  have h : num_Times.f (P : Int) (Q : Int) = some (hiM ((P : Int) * (Q : Int)), loM ((P : Int) * (Q : Int)), mnM ((P : Int) * (Q : Int))) := by
    unfold num_Times.f
    have e : IntKind.u64.wrap (P : Int) = (P : Int) := by rw [IntKind.wrap_u64]; omega
    rw [e, MonA.mul64_val _ _ (by omega) (by omega) (by omega) (by omega), eP]
    unfold hiM loM mnM
    rw [Int.natAbs_natCast, decide_eq_false (by omega)]
    rfl
  exact num_Times.calls (P : Int) (Q : Int) _ _ _ W h
theorem small_times (p q : Int) (h0 : 0 ≤ p) (h1 : p < 4294967296) (k0 : 0 ≤ q) (k1 : q < 18446744073709551616) : Small (p * q) := by
  obtain ⟨P, rfl⟩ : ∃ P : Nat, p = (P : Int) := ⟨p.toNat, by omega⟩
  obtain ⟨Q, rfl⟩ : ∃ Q : Nat, q = (Q : Int) := ⟨q.toNat, by omega⟩
  have eP : ((P : Int) * (Q : Int)) = ((P * Q : Nat) : Int) := by push_cast; rfl
  rw [eP]
  unfold Small
  rw [Int.natAbs_natCast]
  exact Nat.lt_of_le_of_lt (Nat.mul_le_mul (show P ≤ 4294967296 by omega) (show Q ≤ 18446744073709551616 by omega)) (by decide)
def MW (w : World) (g : Nat) (v : Nat → Int) : Prop := ∃ cs : Array Value, w.heap[g]? = some (.cells cs 65 (0, 0)) ∧ cs.size = 20 ∧ ∀ i, i < 4 → cs[i * 3]? = some (.int .u64 (hiM (v i))) ∧ cs[i * 3 + 1]? = some (.int .u64 (loM (v i))) ∧ cs[i * 3 + 2]? = some (.bool (mnM (v i))) ∧
  ∃ A c, cs[12 + i * 2]? = some (.bool (mnM (v i))) ∧ cs[12 + i * 2 + 1]? = some (.slice A (D (v i).natAbs).length c) ∧ Rm w (.agg #[.bool (mnM (v i)), .slice A (D (v i).natAbs).length c]) (v i)
theorem MW.below {w w' : World} {g : Nat} {v : Nat → Int} (h : MW w g v) (hb : Below w.heap.size w w') : MW w' g v := by
  obtain ⟨cs, h1, h2, h3⟩ := h
  refine ⟨cs, (hb.block _ (blk_lt h1)).trans h1, h2, fun i hi => ?_⟩
  obtain ⟨a, b, c, A, d, e, f, k⟩ := h3 i hi
  exact ⟨a, b, c, A, d, e, f, k.below hb⟩
theorem MW.cells {w : World} {g : Nat} {v : Nat → Int} (h : MW w g v) (i : Nat) (hi : i < 4) : w.cell? ⟨g, i * 3, none⟩ = some (.int .u64 (hiM (v i))) ∧ w.cell? ⟨g, i * 3 + 1, none⟩ = some (.int .u64 (loM (v i))) ∧ w.cell? ⟨g, i * 3 + 2, none⟩ = some (.bool (mnM (v i))) ∧
    ∃ A c, w.cell? ⟨g, 12 + i * 2, none⟩ = some (.bool (mnM (v i))) ∧ w.cell? ⟨g, 12 + i * 2 + 1, none⟩ = some (.slice A (D (v i).natAbs).length c) ∧ Rm w (.agg #[.bool (mnM (v i)), .slice A (D (v i).natAbs).length c]) (v i) := by
  obtain ⟨cs, h1, h2, h3⟩ := h
  obtain ⟨a, b, c, A, d, e, f, k⟩ := h3 i hi
  exact ⟨(blk_cell h1 _).trans a, (blk_cell h1 _).trans b, (blk_cell h1 _).trans c, A, d, (blk_cell h1 _).trans e, (blk_cell h1 _).trans f, k⟩
theorem MW.frozen {w : World} {g : Nat} {v : Nat → Int} (h : MW w g v) (j : Nat) : w.frozen? ⟨g, j, none⟩ = false := by
  obtain ⟨cs, h1, _⟩ := h
  exact blk_frozen h1 j
def upd (v : Nat → Int) (t : Nat) (y : Int) : Nat → Int := fun i => if i = t then y else v i
theorem MW.of {w w' : World} {g t : Nat} {v : Nat → Int} (h : MW w g v) (ht : t < 4) (y : Int) (A : Option Addr) (c : Nat) (hk : ∀ V u, Rm w V u → Rm w' V u) (hr : Rm w (.agg #[.bool (mnM y), .slice A (D y.natAbs).length c]) y) (cs cs' : Array Value) (h1 : w.heap[g]? = some (.cells cs 65 (0, 0))) (h1' : w'.heap[g]? = some (.cells cs' 65 (0, 0)))
    (hz : cs'.size = cs.size) (h0 : cs'[t * 3]? = some (.int .u64 (hiM y))) (h2 : cs'[t * 3 + 1]? = some (.int .u64 (loM y))) (h3 : cs'[t * 3 + 2]? = some (.bool (mnM y))) (h4 : cs'[12 + t * 2]? = some (.bool (mnM y))) (h5 : cs'[12 + t * 2 + 1]? = some (.slice A (D y.natAbs).length c))
    (hf : ∀ j, j ≠ t * 3 → j ≠ t * 3 + 1 → j ≠ t * 3 + 2 → j ≠ 12 + t * 2 → j ≠ 12 + t * 2 + 1 → cs'[j]? = cs[j]?) : MW w' g (upd v t y) := by
  obtain ⟨cs0, g1, g2, g3⟩ := h
  rw [h1] at g1
  injection g1 with g1
  injection g1 with g1 _
  subst g1
  refine ⟨cs', h1', hz.trans g2, fun i hi => ?_⟩
  unfold upd
  by_cases e : i = t
  · subst e
    rw [if_pos rfl]
    exact ⟨h0, h2, h3, A, c, h4, h5, hk _ _ hr⟩
  · rw [if_neg e]
    obtain ⟨a, b, c', A', d, e1, f, k⟩ := g3 i hi
    rw [← hf (i * 3) (by omega) (by omega) (by omega) (by omega) (by omega)] at a
    rw [← hf (i * 3 + 1) (by omega) (by omega) (by omega) (by omega) (by omega)] at b
    rw [← hf (i * 3 + 2) (by omega) (by omega) (by omega) (by omega) (by omega)] at c'
    rw [← hf (12 + i * 2) (by omega) (by omega) (by omega) (by omega) (by omega)] at e1
    rw [← hf (12 + i * 2 + 1) (by omega) (by omega) (by omega) (by omega) (by omega)] at f
    exact ⟨a, b, c', A', d, e1, f, hk _ _ k⟩
theorem gset (cs : Array Value) (i j : Nat) (x : Value) : (cs.setIfInBounds i x)[j]? = if i = j then (if j < cs.size then some x else none) else cs[j]? := by
  rw [Array.getElem?_setIfInBounds]
  by_cases h : i = j
  · subst h; simp
  · rw [if_neg h, if_neg h]
theorem MW.put1 {w : World} {g t : Nat} {v : Nat → Int} (h : MW w g v) (ht : t < 4) (y : Int) (A : Option Addr) (c : Nat) (hr : Rm w (.agg #[.bool (mnM y), .slice A (D y.natAbs).length c]) y) :
    MW (((((w.setCell ⟨g, t * 3, none⟩ (.int .u64 (hiM y))).setCell ⟨g, t * 3 + 1, none⟩ (.int .u64 (loM y))).setCell ⟨g, t * 3 + 2, none⟩ (.bool (mnM y))).setCell ⟨g, 12 + t * 2, none⟩ (.bool (mnM y))).setCell ⟨g, 12 + t * 2 + 1, none⟩ (.slice A (D y.natAbs).length c)) g (upd v t y) := by
  have h' := h
  obtain ⟨cs, h1, h2, _⟩ := h'
  refine MW.of h ht y A c (fun V u hk0 => (Rm.set (Rm.set (Rm.set (Rm.set (Rm.set hk0 h1 (show (65 : Nat) ≠ 67 by decide) (t * 3) (.int .u64 (hiM y))) (blk_set h1 (t * 3) (.int .u64 (hiM y))) (show (65 : Nat) ≠ 67 by decide) (t * 3 + 1) (.int .u64 (loM y))) (blk_set (blk_set h1 (t * 3) (.int .u64 (hiM y))) (t * 3 + 1) (.int .u64 (loM y))) (show (65 : Nat) ≠ 67 by decide) (t * 3 + 2) (.bool (mnM y))) (blk_set (blk_set (blk_set h1 (t * 3) (.int .u64 (hiM y))) (t * 3 + 1) (.int .u64 (loM y))) (t * 3 + 2) (.bool (mnM y))) (show (65 : Nat) ≠ 67 by decide) (12 + t * 2) (.bool (mnM y))) (blk_set (blk_set (blk_set (blk_set h1 (t * 3) (.int .u64 (hiM y))) (t * 3 + 1) (.int .u64 (loM y))) (t * 3 + 2) (.bool (mnM y))) (12 + t * 2) (.bool (mnM y))) (show (65 : Nat) ≠ 67 by decide) (12 + t * 2 + 1) (.slice A (D y.natAbs).length c))) hr cs _ h1 (blk_set (blk_set (blk_set (blk_set (blk_set h1 (t * 3) (.int .u64 (hiM y))) (t * 3 + 1) (.int .u64 (loM y))) (t * 3 + 2) (.bool (mnM y))) (12 + t * 2) (.bool (mnM y))) (12 + t * 2 + 1) (.slice A (D y.natAbs).length c)) (by simp) ?_ ?_ ?_ ?_ ?_ (fun j j0 j1 j2 j3 j4 => by rw [gset, if_neg (Ne.symm j4), gset, if_neg (Ne.symm j3), gset, if_neg (Ne.symm j2), gset, if_neg (Ne.symm j1), gset, if_neg (Ne.symm j0)])
  all_goals obtain rfl | rfl | rfl | rfl : t = 0 ∨ t = 1 ∨ t = 2 ∨ t = 3 := by omega
  all_goals (simp [gset, h2]; done)
theorem MW.put2 {w : World} {g t : Nat} {v : Nat → Int} (h : MW w g v) (ht : t < 4) (y : Int) (A : Option Addr) (c : Nat) (hr : Rm w (.agg #[.bool (mnM y), .slice A (D y.natAbs).length c]) y) :
    MW (((((w.setCell ⟨g, 12 + t * 2, none⟩ (.bool (mnM y))).setCell ⟨g, 12 + t * 2 + 1, none⟩ (.slice A (D y.natAbs).length c)).setCell ⟨g, t * 3, none⟩ (.int .u64 (hiM y))).setCell ⟨g, t * 3 + 1, none⟩ (.int .u64 (loM y))).setCell ⟨g, t * 3 + 2, none⟩ (.bool (mnM y))) g (upd v t y) := by
  have h' := h
  obtain ⟨cs, h1, h2, _⟩ := h'
  refine MW.of h ht y A c (fun V u hk0 => (Rm.set (Rm.set (Rm.set (Rm.set (Rm.set hk0 h1 (show (65 : Nat) ≠ 67 by decide) (12 + t * 2) (.bool (mnM y))) (blk_set h1 (12 + t * 2) (.bool (mnM y))) (show (65 : Nat) ≠ 67 by decide) (12 + t * 2 + 1) (.slice A (D y.natAbs).length c)) (blk_set (blk_set h1 (12 + t * 2) (.bool (mnM y))) (12 + t * 2 + 1) (.slice A (D y.natAbs).length c)) (show (65 : Nat) ≠ 67 by decide) (t * 3) (.int .u64 (hiM y))) (blk_set (blk_set (blk_set h1 (12 + t * 2) (.bool (mnM y))) (12 + t * 2 + 1) (.slice A (D y.natAbs).length c)) (t * 3) (.int .u64 (hiM y))) (show (65 : Nat) ≠ 67 by decide) (t * 3 + 1) (.int .u64 (loM y))) (blk_set (blk_set (blk_set (blk_set h1 (12 + t * 2) (.bool (mnM y))) (12 + t * 2 + 1) (.slice A (D y.natAbs).length c)) (t * 3) (.int .u64 (hiM y))) (t * 3 + 1) (.int .u64 (loM y))) (show (65 : Nat) ≠ 67 by decide) (t * 3 + 2) (.bool (mnM y)))) hr cs _ h1 (blk_set (blk_set (blk_set (blk_set (blk_set h1 (12 + t * 2) (.bool (mnM y))) (12 + t * 2 + 1) (.slice A (D y.natAbs).length c)) (t * 3) (.int .u64 (hiM y))) (t * 3 + 1) (.int .u64 (loM y))) (t * 3 + 2) (.bool (mnM y))) (by simp) ?_ ?_ ?_ ?_ ?_ (fun j j0 j1 j2 j3 j4 => by rw [gset, if_neg (Ne.symm j2), gset, if_neg (Ne.symm j1), gset, if_neg (Ne.symm j0), gset, if_neg (Ne.symm j4), gset, if_neg (Ne.symm j3)])
  all_goals obtain rfl | rfl | rfl | rfl : t = 0 ∨ t = 1 ∨ t = 2 ∨ t = 3 := by omega
  all_goals (simp [gset, h2]; done)

theorem bx_ne {w : World} {g1 g2 : Nat} {c1 c2 : Array Value} {t1 t2 : TypeId} (h1 : w.heap[g1]? = some (.cells c1 t1 (0, 0))) (h2 : w.heap[g2]? = some (.cells c2 t2 (0, 0))) (ht : t1 ≠ t2) : g1 ≠ g2 := by
  rintro rfl
  rw [h1] at h2
  injection h2 with h2
  injection h2 with _ h2
  exact ht h2
theorem below5 {w W : World} {g : Nat} (h : Below g w W) (j0 j1 j2 j3 j4 : Nat) (a b c d e : Value) : Below g w (((((W.setCell ⟨g, j0, none⟩ a).setCell ⟨g, j1, none⟩ b).setCell ⟨g, j2, none⟩ c).setCell ⟨g, j3, none⟩ d).setCell ⟨g, j4, none⟩ e) :=
  ((((h.setCell (p := ⟨g, j0, none⟩) (Nat.le_refl g) a).setCell (p := ⟨g, j1, none⟩) (Nat.le_refl g) b).setCell (p := ⟨g, j2, none⟩) (Nat.le_refl g) c).setCell (p := ⟨g, j3, none⟩) (Nat.le_refl g) d).setCell (p := ⟨g, j4, none⟩) (Nat.le_refl g) e
theorem kept5 {w W : World} {S : Nat → Prop} {g : Nat} (h : Kept w W S) (hg : S g) (j0 j1 j2 j3 j4 : Nat) (a b c d e : Value) : Kept w (((((W.setCell ⟨g, j0, none⟩ a).setCell ⟨g, j1, none⟩ b).setCell ⟨g, j2, none⟩ c).setCell ⟨g, j3, none⟩ d).setCell ⟨g, j4, none⟩ e) S :=
  ((((h.setCell (p := ⟨g, j0, none⟩) (.inl hg) a).setCell (p := ⟨g, j1, none⟩) (.inl hg) b).setCell (p := ⟨g, j2, none⟩) (.inl hg) c).setCell (p := ⟨g, j3, none⟩) (.inl hg) d).setCell (p := ⟨g, j4, none⟩) (.inl hg) e
def SB (w : World) (gO gX gY : Nat) (O : Array Value) (w' : World) : Prop := ∃ x0 x1 x2 y0 y1, Bx w w' [(gX, #[x0, x1, x2], 40), (gY, #[y0, y1], 46), (gO, O, 69)]
section
variable {w w' w2 : World} {gO gX gY : Nat} {O : Array Value}
theorem SB.below (h : SB w gO gX gY O w') (hb : Below w'.heap.size w' w2) : SB w gO gX gY O w2 := by
  obtain ⟨x0, x1, x2, y0, y1, h⟩ := h
  exact ⟨x0, x1, x2, y0, y1, h.below hb⟩
theorem SB.drew (h : SB w gO gX gY O w') : SB w gO gX gY O w'.drew := by
  obtain ⟨x0, x1, x2, y0, y1, h⟩ := h
  exact ⟨x0, x1, x2, y0, y1, h.drew⟩
theorem SB.ne (h : SB w gO gX gY O w') : gX ≠ gY ∧ gX ≠ gO ∧ gY ≠ gO := by
  obtain ⟨x0, x1, x2, y0, y1, h⟩ := h
  have a := h.get (gX, #[x0, x1, x2], 40) (by simp)
  have b := h.get (gY, #[y0, y1], 46) (by simp)
  have c := h.get (gO, O, 69) (by simp)
  exact ⟨bx_ne a b (show (40 : Nat) ≠ 46 by decide), bx_ne a c (show (40 : Nat) ≠ 69 by decide), bx_ne b c (show (46 : Nat) ≠ 69 by decide)⟩
theorem SB.setX {x0 x1 x2 y0 y1 : Value} (h : Bx w w' [(gX, #[x0, x1, x2], 40), (gY, #[y0, y1], 46), (gO, O, 69)]) (a b c : Value) :
    Bx w (((w'.setCell ⟨gX, 0, none⟩ a).setCell ⟨gX, 1, none⟩ b).setCell ⟨gX, 2, none⟩ c) [(gX, #[a, b, c], 40), (gY, #[y0, y1], 46), (gO, O, 69)] := by
  obtain ⟨n1, n2, n3⟩ := SB.ne ⟨_, _, _, _, _, h⟩
  have hn : ∀ p ∈ ([(gY, #[y0, y1], 46), (gO, O, 69)] : List (Nat × Array Value × TypeId)), p.1 ≠ gX := by
    intro p hp
    simp only [List.mem_cons, List.not_mem_nil, or_false] at hp
    rcases hp with rfl | rfl
    · exact fun e => n1 e.symm
    · exact fun e => n2 e.symm
  exact ((h.set hn 0 a).set hn 1 b).set hn 2 c
theorem SB.setY {x0 x1 x2 y0 y1 : Value} (h : Bx w w' [(gX, #[x0, x1, x2], 40), (gY, #[y0, y1], 46), (gO, O, 69)]) (a b : Value) :
    Bx w ((w'.setCell ⟨gY, 0, none⟩ a).setCell ⟨gY, 1, none⟩ b) [(gX, #[x0, x1, x2], 40), (gY, #[a, b], 46), (gO, O, 69)] := by
  obtain ⟨n1, n2, n3⟩ := SB.ne ⟨_, _, _, _, _, h⟩
  have hn : ∀ p ∈ ([(gX, #[x0, x1, x2], 40), (gO, O, 69)] : List (Nat × Array Value × TypeId)), p.1 ≠ gY := by
    intro p hp
    simp only [List.mem_cons, List.not_mem_nil, or_false] at hp
    rcases hp with rfl | rfl
    · exact n1
    · exact fun e => n3 e.symm
  have h2 : Bx w w' ((gY, #[y0, y1], 46) :: [(gX, #[x0, x1, x2], 40), (gO, O, 69)]) := h.sub (fun p hp => by simp only [List.mem_cons, List.not_mem_nil, or_false] at hp ⊢; rcases hp with h | h | h <;> simp [h])
  exact ((h2.set hn 0 a).set hn 1 b).sub (fun p hp => by simp only [List.mem_cons, List.not_mem_nil, or_false] at hp ⊢; rcases hp with rfl | rfl | rfl <;> simp)
theorem SB.setsX (h : SB w gO gX gY O w') (a b c : Value) : SB w gO gX gY O (((w'.setCell ⟨gX, 0, none⟩ a).setCell ⟨gX, 1, none⟩ b).setCell ⟨gX, 2, none⟩ c) := by
  obtain ⟨x0, x1, x2, y0, y1, h⟩ := h
  exact ⟨_, _, _, _, _, SB.setX h a b c⟩
theorem SB.setsY (h : SB w gO gX gY O w') (a b : Value) : SB w gO gX gY O ((w'.setCell ⟨gY, 0, none⟩ a).setCell ⟨gY, 1, none⟩ b) := by
  obtain ⟨x0, x1, x2, y0, y1, h⟩ := h
  exact ⟨_, _, _, _, _, SB.setY h a b⟩
theorem Rm.setX (h : SB w gO gX gY O w') {V : Value} {u : Int} (hr : Rm w' V u) (a b c : Value) : Rm (((w'.setCell ⟨gX, 0, none⟩ a).setCell ⟨gX, 1, none⟩ b).setCell ⟨gX, 2, none⟩ c) V u := by
  obtain ⟨x0, x1, x2, y0, y1, h⟩ := h
  have k := h.get (gX, #[x0, x1, x2], 40) (by simp)
  exact ((hr.set k (show (40 : Nat) ≠ 67 by decide) 0 a).set (blk_set k 0 a) (show (40 : Nat) ≠ 67 by decide) 1 b).set (blk_set (blk_set k 0 a) 1 b) (show (40 : Nat) ≠ 67 by decide) 2 c
theorem Rm.setY (h : SB w gO gX gY O w') {V : Value} {u : Int} (hr : Rm w' V u) (a b : Value) : Rm ((w'.setCell ⟨gY, 0, none⟩ a).setCell ⟨gY, 1, none⟩ b) V u := by
  obtain ⟨x0, x1, x2, y0, y1, h⟩ := h
  have k := h.get (gY, #[y0, y1], 46) (by simp)
  exact (hr.set k (show (46 : Nat) ≠ 67 by decide) 0 a).set (blk_set k 0 a) (show (46 : Nat) ≠ 67 by decide) 1 b
def RelS (w : World) (gO gX gY : Nat) (O : Array Value) (v10 v11 : Value) (wc : World) : Prop := ∃ (y k : Int) (A : Option Addr) (c : Nat), v10 = .int .i64 k ∧ v11 = .int .i64 k ∧ Small y ∧ Bx w wc [(gX, #[.int .u64 (hiM y), .int .u64 (loM y), .bool (mnM y)], 40), (gY, #[.bool (mnM y), .slice A (D y.natAbs).length c], 46), (gO, O, 69)] ∧ Rm wc (.agg #[.bool (mnM y), .slice A (D y.natAbs).length c]) y
theorem RelS.xy {y k : Int} {A : Option Addr} {c : Nat} (h : SB w gO gX gY O w') (hs : Small y) (hr : Rm w' (.agg #[.bool (mnM y), .slice A (D y.natAbs).length c]) y) :
    RelS w gO gX gY O (.int .i64 k) (.int .i64 k) (((((w'.setCell ⟨gX, 0, none⟩ (.int .u64 (hiM y))).setCell ⟨gX, 1, none⟩ (.int .u64 (loM y))).setCell ⟨gX, 2, none⟩ (.bool (mnM y))).setCell ⟨gY, 0, none⟩ (.bool (mnM y))).setCell ⟨gY, 1, none⟩ (.slice A (D y.natAbs).length c)) := by
  have h' := h
  obtain ⟨x0, x1, x2, y0, y1, h1⟩ := h'
  exact ⟨y, k, A, c, rfl, rfl, hs, SB.setY (SB.setX h1 _ _ _) _ _, Rm.setY (h.setsX _ _ _) (Rm.setX h hr _ _ _) _ _⟩
theorem RelS.yx {y k : Int} {A : Option Addr} {c : Nat} (h : SB w gO gX gY O w') (hs : Small y) (hr : Rm w' (.agg #[.bool (mnM y), .slice A (D y.natAbs).length c]) y) :
    RelS w gO gX gY O (.int .i64 k) (.int .i64 k) (((((w'.setCell ⟨gY, 0, none⟩ (.bool (mnM y))).setCell ⟨gY, 1, none⟩ (.slice A (D y.natAbs).length c)).setCell ⟨gX, 0, none⟩ (.int .u64 (hiM y))).setCell ⟨gX, 1, none⟩ (.int .u64 (loM y))).setCell ⟨gX, 2, none⟩ (.bool (mnM y))) := by
  have h' := h
  obtain ⟨x0, x1, x2, y0, y1, h1⟩ := h'
  exact ⟨y, k, A, c, rfl, rfl, hs, SB.setX (SB.setY h1 _ _) _ _ _, Rm.setX (h.setsY _ _) (Rm.setY h hr _ _) _ _ _⟩
end
theorem cell_sets3 {w : World} {g k j : Nat} {x y z v : Value} (h : w.cell? ⟨k, j, none⟩ = some v) (hk : k ≠ g) : (((w.setCell ⟨g, 0, none⟩ x).setCell ⟨g, 1, none⟩ y).setCell ⟨g, 2, none⟩ z).cell? ⟨k, j, none⟩ = some v := cell_sets h hk
theorem small_i64 (a : Int) (h : -9223372036854775808 ≤ a ∧ a ≤ 9223372036854775807) : Small a := by unfold Small; omega

set_option maxHeartbeats 64000000 in
set_option maxRecDepth 100000 in
theorem step_walk (g : Nat) (kd i1 i2 i3 cn x0 x1 px py rd : Int) (S : ByteArray) (t a b : Nat) (v : Nat → Int) (w : World) (ht : t < 4) (ha : a < 4) (hb : b < 4) (hv : ∀ i, Small (v i))
    (hcn : -9223372036854775808 ≤ cn ∧ cn ≤ 9223372036854775807) (hx0 : 0 ≤ x0 ∧ x0 < 18446744073709551616) (hx1 : 0 ≤ x1 ∧ x1 < 18446744073709551616) (hpx : 0 ≤ px ∧ px < 4294967296) (hpy : 0 ≤ py ∧ py < 4294967296) (hS : S.data.toList.length ≤ 9223372036854775807)
    (HM : MW w g v) (H1 : Aside0 (∀ W, Calls Try.prog 39 #[.int .i64 i1] W fun e w' => e = .returned (.int .i64 (t : Int)) ∧ Below W.heap.size W w')) (H2 : Aside0 (∀ W, Calls Try.prog 39 #[.int .i64 i2] W fun e w' => e = .returned (.int .i64 (a : Int)) ∧ Below W.heap.size W w')) (H3 : Aside0 (∀ W, Calls Try.prog 39 #[.int .i64 i3] W fun e w' => e = .returned (.int .i64 (b : Int)) ∧ Below W.heap.size W w')) :
    Calls Try.prog 38 #[.pointer (some ⟨g, 0, none⟩), .agg #[.int .i64 kd, .int .i64 i1, .int .i64 i2, .int .i64 i3, .int .i64 cn, .int .u64 x0, .int .u64 x1, .string S, .int .u32 px, .int .u32 py, .int .i64 rd]] w fun e w' => e = .returned (.bool true) ∧ (∃ y, Small y ∧ MW w' g (upd v t y)) ∧ Kept w w' (fun k => k = g) ∧ Below g w w' := by
  have hgw : g < w.heap.size := by obtain ⟨cs, h1, _⟩ := HM; exact blk_lt h1
  have HMA := Aside0.mk HM
  obtain ⟨p0, p1, p2, A0, c0, p3, p4, HRA⟩ := HM.cells a ha
  have HC := Aside0.mk (And.intro p0 (And.intro p1 (And.intro p2 (And.intro p3 p4))))
  have HRA := Aside0.mk HRA
  clear p0 p1 p2 p3 p4
  obtain ⟨p0, p1, p2, B0, d0, p3, p4, HRB⟩ := HM.cells b hb
  have HCB := Aside0.mk (And.intro p0 (And.intro p1 (And.intro p2 (And.intro p3 p4))))
  have HRB := Aside0.mk HRB
  clear p0 p1 p2 p3 p4 HM
  have HT := Aside0.mk (And.intro ht (And.intro ha hb))
  have HV := Aside0.mk hv
  have HI := Aside0.mk (And.intro hcn (And.intro hx0 (And.intro hx1 (And.intro hpx (And.intro hpy hS)))))
  clear ht ha hb hv hcn hx0 hx1 hpx hpy hS
  go_enter Try.func38, Try.ntmps38
  go_upto_region 1 with (fail)
  obtain ⟨W1, hW⟩ : ∃ W, W = (w.alloc (.cells #[.int .i64 kd, .int .i64 i1, .int .i64 i2, .int .i64 i3, .int .i64 cn, .int .u64 x0, .int .u64 x1, .string S, .int .u32 px, .int .u32 py, .int .i64 rd] 69)) := ⟨_, rfl⟩
  obtain ⟨gO, hgO⟩ : ∃ g, g = w.heap.size := ⟨_, rfl⟩
  have HBW1 : Aside0 (Bx w W1 [(gO, #[.int .i64 kd, .int .i64 i1, .int .i64 i2, .int .i64 i3, .int .i64 cn, .int .u64 x0, .int .u64 x1, .string S, .int .u32 px, .int .u32 py, .int .i64 rd], 69)]) := ⟨by rw [hW, hgO]; exact Bx.allocs1 _ _ _⟩
  rw [← hW, ← hgO]
  clear hW hgO
  obtain ⟨N, fw, hf0, hfs, hfc⟩ := calm_class (fun W => Bx w W [(gO, #[.int .i64 kd, .int .i64 i1, .int .i64 i2, .int .i64 i3, .int .i64 cn, .int .u64 x0, .int .u64 x1, .string S, .int .u32 px, .int .u32 py, .int .i64 rd], 69)]) W1 HBW1.out.drew (fun W w' h hb => h.below hb)
  have hne : Nonempty N := ⟨hf0.choose⟩
  have HFC := Aside0.mk hfc
  have HFS := Aside0.mk hfs
  have qgO0 : ∀ n, (fw n).cell? ⟨gO, 0, none⟩ = some (.int .i64 kd) := fun n => (blk_cell (Bx.get (hfs n) (gO, #[.int .i64 kd, .int .i64 i1, .int .i64 i2, .int .i64 i3, .int .i64 cn, .int .u64 x0, .int .u64 x1, .string S, .int .u32 px, .int .u32 py, .int .i64 rd], 69) (by simp)) 0).trans rfl
  have qgO1 : ∀ n, (fw n).cell? ⟨gO, 1, none⟩ = some (.int .i64 i1) := fun n => (blk_cell (Bx.get (hfs n) (gO, #[.int .i64 kd, .int .i64 i1, .int .i64 i2, .int .i64 i3, .int .i64 cn, .int .u64 x0, .int .u64 x1, .string S, .int .u32 px, .int .u32 py, .int .i64 rd], 69) (by simp)) 1).trans rfl
  have qgO2 : ∀ n, (fw n).cell? ⟨gO, 2, none⟩ = some (.int .i64 i2) := fun n => (blk_cell (Bx.get (hfs n) (gO, #[.int .i64 kd, .int .i64 i1, .int .i64 i2, .int .i64 i3, .int .i64 cn, .int .u64 x0, .int .u64 x1, .string S, .int .u32 px, .int .u32 py, .int .i64 rd], 69) (by simp)) 2).trans rfl
  have qgO3 : ∀ n, (fw n).cell? ⟨gO, 3, none⟩ = some (.int .i64 i3) := fun n => (blk_cell (Bx.get (hfs n) (gO, #[.int .i64 kd, .int .i64 i1, .int .i64 i2, .int .i64 i3, .int .i64 cn, .int .u64 x0, .int .u64 x1, .string S, .int .u32 px, .int .u32 py, .int .i64 rd], 69) (by simp)) 3).trans rfl
  have qgO4 : ∀ n, (fw n).cell? ⟨gO, 4, none⟩ = some (.int .i64 cn) := fun n => (blk_cell (Bx.get (hfs n) (gO, #[.int .i64 kd, .int .i64 i1, .int .i64 i2, .int .i64 i3, .int .i64 cn, .int .u64 x0, .int .u64 x1, .string S, .int .u32 px, .int .u32 py, .int .i64 rd], 69) (by simp)) 4).trans rfl
  have qgO5 : ∀ n, (fw n).cell? ⟨gO, 5, none⟩ = some (.int .u64 x0) := fun n => (blk_cell (Bx.get (hfs n) (gO, #[.int .i64 kd, .int .i64 i1, .int .i64 i2, .int .i64 i3, .int .i64 cn, .int .u64 x0, .int .u64 x1, .string S, .int .u32 px, .int .u32 py, .int .i64 rd], 69) (by simp)) 5).trans rfl
  have qgO6 : ∀ n, (fw n).cell? ⟨gO, 6, none⟩ = some (.int .u64 x1) := fun n => (blk_cell (Bx.get (hfs n) (gO, #[.int .i64 kd, .int .i64 i1, .int .i64 i2, .int .i64 i3, .int .i64 cn, .int .u64 x0, .int .u64 x1, .string S, .int .u32 px, .int .u32 py, .int .i64 rd], 69) (by simp)) 6).trans rfl
  have qgO7 : ∀ n, (fw n).cell? ⟨gO, 7, none⟩ = some (.string S) := fun n => (blk_cell (Bx.get (hfs n) (gO, #[.int .i64 kd, .int .i64 i1, .int .i64 i2, .int .i64 i3, .int .i64 cn, .int .u64 x0, .int .u64 x1, .string S, .int .u32 px, .int .u32 py, .int .i64 rd], 69) (by simp)) 7).trans rfl
  have qgO8 : ∀ n, (fw n).cell? ⟨gO, 8, none⟩ = some (.int .u32 px) := fun n => (blk_cell (Bx.get (hfs n) (gO, #[.int .i64 kd, .int .i64 i1, .int .i64 i2, .int .i64 i3, .int .i64 cn, .int .u64 x0, .int .u64 x1, .string S, .int .u32 px, .int .u32 py, .int .i64 rd], 69) (by simp)) 8).trans rfl
  have qgO9 : ∀ n, (fw n).cell? ⟨gO, 9, none⟩ = some (.int .u32 py) := fun n => (blk_cell (Bx.get (hfs n) (gO, #[.int .i64 kd, .int .i64 i1, .int .i64 i2, .int .i64 i3, .int .i64 cn, .int .u64 x0, .int .u64 x1, .string S, .int .u32 px, .int .u32 py, .int .i64 rd], 69) (by simp)) 9).trans rfl
  have qgO10 : ∀ n, (fw n).cell? ⟨gO, 10, none⟩ = some (.int .i64 rd) := fun n => (blk_cell (Bx.get (hfs n) (gO, #[.int .i64 kd, .int .i64 i1, .int .i64 i2, .int .i64 i3, .int .i64 cn, .int .u64 x0, .int .u64 x1, .string S, .int .u32 px, .int .u32 py, .int .i64 rd], 69) (by simp)) 10).trans rfl
  clear hfs hfc
  refine wp_region_calm fw (by kernel_rfl) (by kernel_rfl) hf0 ?_
  repeat (go_big_quiet_step ((first
    | (go_at_call 39; with_reducible exact Calls.calm HFC (H1.out _))
    | (go_at_call 39; with_reducible exact Calls.calm HFC (H2.out _))
    | (go_at_call 39; with_reducible exact Calls.calm HFC (H3.out _)))))
  refine wpQuiet_nil ?_
  intro _ hw'
  obtain ⟨nq, hw''⟩ := hw'
  subst hw''
  have HBW2 : Aside0 (Bx w (fw nq) [(gO, #[.int .i64 kd, .int .i64 i1, .int .i64 i2, .int .i64 i3, .int .i64 cn, .int .u64 x0, .int .u64 x1, .string S, .int .u32 px, .int .u32 py, .int .i64 rd], 69)]) := ⟨HFS.out nq⟩
  obtain ⟨W2, hW⟩ : ∃ W, W = fw nq := ⟨_, rfl⟩
  rw [← hW] at HBW2 ⊢
  clear hW
  clear HFC HFS hf0 hne qgO0 qgO1 qgO2 qgO3 qgO4 qgO5 qgO6 qgO7 qgO8 qgO9 qgO10
  have haI : (a : Int) < 4 := by have := HT.out.2.1; omega
  have ha0 : (0 : Int) ≤ (a : Int) := by omega
  have q0 : W2.cell? ⟨g, a * 3, none⟩ = some (.int .u64 (hiM (v a))) := (HBW2.out.bel.cell (p := ⟨g, a * 3, none⟩) hgw).trans HC.out.1
  have q1 : W2.cell? ⟨g, a * 3 + 1, none⟩ = some (.int .u64 (loM (v a))) := (HBW2.out.bel.cell (p := ⟨g, a * 3 + 1, none⟩) hgw).trans HC.out.2.1
  have q2 : W2.cell? ⟨g, a * 3 + 2, none⟩ = some (.bool (mnM (v a))) := (HBW2.out.bel.cell (p := ⟨g, a * 3 + 2, none⟩) hgw).trans HC.out.2.2.1
  have q3 : W2.cell? ⟨g, 12 + a * 2, none⟩ = some (.bool (mnM (v a))) := (HBW2.out.bel.cell (p := ⟨g, 12 + a * 2, none⟩) hgw).trans HC.out.2.2.2.1
  have q4 : W2.cell? ⟨g, 12 + a * 2 + 1, none⟩ = some (.slice A0 (D (v a).natAbs).length c0) := (HBW2.out.bel.cell (p := ⟨g, 12 + a * 2 + 1, none⟩) hgw).trans HC.out.2.2.2.2
  have hgW : g < W2.heap.size := Nat.lt_of_lt_of_le hgw HBW2.out.bel.size
  go_upto_region 2 with (fail)
  go_cut [8, 9] from 21 to 32 (fun v8 v9 wc => ∃ gX gY : Nat, v8 = .pointer (some ⟨gX, 0, none⟩) ∧ v9 = .pointer (some ⟨gY, 0, none⟩) ∧ Bx w wc [(gX, #[.int .u64 (hiM (v a)), .int .u64 (loM (v a)), .bool (mnM (v a))], 40), (gY, #[.bool (mnM (v a)), .slice A0 (D (v a).natAbs).length c0], 46), (gO, #[.int .i64 kd, .int .i64 i1, .int .i64 i2, .int .i64 i3, .int .i64 cn, .int .u64 x0, .int .u64 x1, .string S, .int .u32 px, .int .u32 py, .int .i64 rd], 69)])
  case first =>
    go_region
    all_goals (go_wp2_with (fail); go_meet)
    all_goals (refine ⟨_, _, rfl, rfl, ?_⟩)
    all_goals first
      | exact ((HBW2.out.alloc #[.int .u64 (hiM (v a)), .int .u64 (loM (v a)), .bool (mnM (v a))] 40).alloc #[.bool (mnM (v a)), .slice A0 (D (v a).natAbs).length c0] 46).drew.sub (fun p hp => by simp only [World.size_alloc, List.mem_append, List.mem_cons, List.not_mem_nil, or_false] at hp ⊢; rcases hp with h | h | h <;> simp [h])
      | exact ((HBW2.out.alloc #[.bool (mnM (v a)), .slice A0 (D (v a).natAbs).length c0] 46).alloc #[.int .u64 (hiM (v a)), .int .u64 (loM (v a)), .bool (mnM (v a))] 40).drew.sub (fun p hp => by simp only [World.size_alloc, List.mem_append, List.mem_cons, List.not_mem_nil, or_false] at hp ⊢; rcases hp with h | h | h <;> simp [h])
  case rest =>
    clear q0 q1 q2 q3 q4 hgW
    obtain ⟨gX, gY, rfl, rfl, hbx⟩ := hcut
    obtain ⟨W3, hW⟩ : ∃ W, W = wc := ⟨_, rfl⟩
    have HB3 : Aside0 (Bx w W3 [(gX, #[.int .u64 (hiM (v a)), .int .u64 (loM (v a)), .bool (mnM (v a))], 40), (gY, #[.bool (mnM (v a)), .slice A0 (D (v a).natAbs).length c0], 46), (gO, #[.int .i64 kd, .int .i64 i1, .int .i64 i2, .int .i64 i3, .int .i64 cn, .int .u64 x0, .int .u64 x1, .string S, .int .u32 px, .int .u32 py, .int .i64 rd], 69)]) := ⟨by rw [hW]; exact hbx⟩
    have HRA3 : Aside0 (Rm W3 (.agg #[.bool (mnM (v a)), .slice A0 (D (v a).natAbs).length c0]) (v a)) := ⟨HRA.out.below HB3.out.bel⟩
    rw [← hW]
    clear hW hbx HBW2
    have qO0 : W3.cell? ⟨gO, 0, none⟩ = some (.int .i64 kd) := (blk_cell (Bx.get HB3.out (gO, #[.int .i64 kd, .int .i64 i1, .int .i64 i2, .int .i64 i3, .int .i64 cn, .int .u64 x0, .int .u64 x1, .string S, .int .u32 px, .int .u32 py, .int .i64 rd], 69) (by simp)) 0).trans rfl
    go_upto_block 0 with (fail)
    clear qO0
    go_cut [10, 11] from 35 to 162 (fun v10 v11 wc => RelS w gO gX gY #[.int .i64 kd, .int .i64 i1, .int .i64 i2, .int .i64 i3, .int .i64 cn, .int .u64 x0, .int .u64 x1, .string S, .int .u32 px, .int .u32 py, .int .i64 rd] v10 v11 wc)
    case first =>
      have HNE := Aside0.mk (SB.ne ⟨_, _, _, _, _, HB3.out⟩)
      have n1 : gX ≠ gY := HNE.out.1
      have n1' : gY ≠ gX := fun e => n1 e.symm
      have n2 : gO ≠ gX := fun e => HNE.out.2.1 e.symm
      have n3 : gO ≠ gY := fun e => HNE.out.2.2 e.symm
      by_cases k0 : kd = 0
      · have t0 : (kd == 0) = true := beq_iff_eq.mpr k0
        clear k0
        have hk : Aside0 True := ⟨trivial⟩
        obtain ⟨y, hy⟩ : ∃ y : Int, y = cn := ⟨_, rfl⟩
        have hsm : Aside0 (Small y) := ⟨by rw [hy]; exact small_i64 cn HI.out.1⟩
        have C1 : Aside0 (∀ W, Calls Try.prog 33 #[.int .i64 cn] W fun e w' => e = .returned (.agg #[.int .u64 (hiM y), .int .u64 (loM y), .bool (mnM y)]) ∧ Below W.heap.size W w') := ⟨fun W => by rw [hy]; exact cents_any cn HI.out.1.1 HI.out.1.2 W⟩
        have C2 : Aside0 (∀ W, Calls Try.prog 63 #[.int .i64 cn] W (RmR W y)) := ⟨fun W => by rw [hy]; exact rcents_any cn HI.out.1.1 HI.out.1.2 W⟩
        clear hy
        have qO4 : W3.cell? ⟨gO, 4, none⟩ = some (.int .i64 cn) := (blk_cell (Bx.get HB3.out (gO, #[.int .i64 kd, .int .i64 i1, .int .i64 i2, .int .i64 i3, .int .i64 cn, .int .u64 x0, .int .u64 x1, .string S, .int .u32 px, .int .u32 py, .int .i64 rd], 69) (by simp)) 4).trans rfl
        have HS3 : SB w gO gX gY #[.int .i64 kd, .int .i64 i1, .int .i64 i2, .int .i64 i3, .int .i64 cn, .int .u64 x0, .int .u64 x1, .string S, .int .u32 px, .int .u32 py, .int .i64 rd] W3 := ⟨_, _, _, _, _, HB3.out⟩
        go_upto_region 6 with (fail)
        go_region_held3 (fun w' => w'.cell? ⟨gO, 4, none⟩ = some (.int .i64 cn) ∧ SB w gO gX gY #[.int .i64 kd, .int .i64 i1, .int .i64 i2, .int .i64 i3, .int .i64 cn, .int .u64 x0, .int .u64 x1, .string S, .int .u32 px, .int .u32 py, .int .i64 rd] w') ((go_split_ands; refine ⟨?_, ?_⟩ <;> first | (with_reducible assumption) | (with_reducible exact SB.setsX (by with_reducible assumption) _ _ _) | (with_reducible exact SB.setsY (by with_reducible assumption) _ _) | (with_reducible exact SB.setsX (SB.setsY (by with_reducible assumption) _ _) _ _ _) | (with_reducible exact SB.setsY (SB.setsX (by with_reducible assumption) _ _ _) _ _) | (with_reducible exact SB.drew (by with_reducible assumption)) | (with_reducible exact SB.below (by with_reducible assumption) (by with_reducible assumption)) | (with_reducible exact (pw_cell_below (by with_reducible assumption) (by with_reducible assumption))) | (with_reducible exact cell_sets3 (by with_reducible assumption) n2) | (with_reducible exact cell_sets2 (by with_reducible assumption) n3) | (with_reducible exact cell_sets2 (cell_sets3 (by with_reducible assumption) n2) n3) | (with_reducible exact cell_sets3 (cell_sets2 (by with_reducible assumption) n3) n2) | go_keep))
          (first
            | (go_at_call 33; (with_reducible refine (C1.out _).mono ?_); rintro e w33 ⟨rfl, hb⟩; (have hsb : SB w gO gX gY #[.int .i64 kd, .int .i64 i1, .int .i64 i2, .int .i64 i3, .int .i64 cn, .int .u64 x0, .int .u64 x1, .string S, .int .u32 px, .int .u32 py, .int .i64 rd] w33 := SB.below (by go_split_ands; with_reducible assumption) hb); have HSB := Aside0.mk hsb; obtain ⟨x0_, x1_, x2_, y0_, y1_, hbx⟩ := hsb; have hX := Bx.get hbx (gX, #[x0_, x1_, x2_], 40) (by simp); have hY := Bx.get hbx (gY, #[y0_, y1_], 46) (by simp); clear hbx; have e0 : w33.cell? ⟨gX, 0, none⟩ = some x0_ := (blk_cell hX 0).trans rfl; have e1 : w33.cell? ⟨gX, 1, none⟩ = some x1_ := (blk_cell hX 1).trans rfl; have e2 : w33.cell? ⟨gX, 2, none⟩ = some x2_ := (blk_cell hX 2).trans rfl; have e3 : w33.cell? ⟨gY, 0, none⟩ = some y0_ := (blk_cell hY 0).trans rfl; have e4 : w33.cell? ⟨gY, 1, none⟩ = some y1_ := (blk_cell hY 1).trans rfl; have f0 := blk_frozen hX 0; have f1 := blk_frozen hX 1; have f2 := blk_frozen hX 2; have f3 := blk_frozen hY 0; have f4 := blk_frozen hY 1; clear hX hY)
            | (go_at_call 63; (with_reducible refine (C2.out _).mono ?_); rintro e w63 ⟨X, rfl, hr, hb⟩; obtain ⟨u, rfl, hr⟩ := hr; obtain ⟨A5, c5, e5⟩ := Kd.R_slice hr; subst e5; have HR5 : Aside0 (Rm w63 (.agg #[.bool (mnM y), .slice A5 (D y.natAbs).length c5]) y) := ⟨⟨_, rfl, hr⟩⟩; clear hr; (have hsb : SB w gO gX gY #[.int .i64 kd, .int .i64 i1, .int .i64 i2, .int .i64 i3, .int .i64 cn, .int .u64 x0, .int .u64 x1, .string S, .int .u32 px, .int .u32 py, .int .i64 rd] w63 := SB.below (by go_split_ands; with_reducible assumption) hb); have HSB := Aside0.mk hsb; obtain ⟨x0_, x1_, x2_, y0_, y1_, hbx⟩ := hsb; have hX := Bx.get hbx (gX, #[x0_, x1_, x2_], 40) (by simp); have hY := Bx.get hbx (gY, #[y0_, y1_], 46) (by simp); clear hbx; have e0 : w63.cell? ⟨gX, 0, none⟩ = some x0_ := (blk_cell hX 0).trans rfl; have e1 : w63.cell? ⟨gX, 1, none⟩ = some x1_ := (blk_cell hX 1).trans rfl; have e2 : w63.cell? ⟨gX, 2, none⟩ = some x2_ := (blk_cell hX 2).trans rfl; have e3 : w63.cell? ⟨gY, 0, none⟩ = some y0_ := (blk_cell hY 0).trans rfl; have e4 : w63.cell? ⟨gY, 1, none⟩ = some y1_ := (blk_cell hY 1).trans rfl; have f0 := blk_frozen hX 0; have f1 := blk_frozen hX 1; have f2 := blk_frozen hX 2; have f3 := blk_frozen hY 0; have f4 := blk_frozen hY 1; clear hX hY))
        all_goals (go_wp2_with (fail); go_meet)
        all_goals first
          | exact RelS.xy HSB.out hsm.out HR5.out
          | exact RelS.yx HSB.out hsm.out HR5.out
          | exact RelS.xy HSB.out hsm.out (HR5.out.below (by with_reducible assumption))
          | exact RelS.yx HSB.out hsm.out (HR5.out.below (by with_reducible assumption))
      by_cases k1 : kd = 1
      · have t1 : (kd == 1) = true := beq_iff_eq.mpr k1
        have t0 : (kd == 0) = false := beq_eq_false_iff_ne.mpr (by omega)
        clear k0 k1
        have wq : 0 ≤ IntKind.u64.wrap cn ∧ IntKind.u64.wrap cn < 18446744073709551616 := by rw [IntKind.wrap_u64]; omega
        have WQ := Aside0.mk wq
        clear wq
        have hk : Aside0 True := ⟨trivial⟩
        obtain ⟨y, hy⟩ : ∃ y : Int, y = px * (IntKind.u64.wrap cn) := ⟨_, rfl⟩
        have hsm : Aside0 (Small y) := ⟨by rw [hy]; exact small_times px _ HI.out.2.2.2.1.1 HI.out.2.2.2.1.2 WQ.out.1 WQ.out.2⟩
        have C1 : Aside0 (∀ W, Calls Try.prog 64 #[.int .u32 px, .int .u64 (IntKind.u64.wrap cn)] W fun e w' => e = .returned (.agg #[.int .u64 (hiM y), .int .u64 (loM y), .bool (mnM y)]) ∧ Below W.heap.size W w') := ⟨fun W => by rw [hy]; exact times_any px _ HI.out.2.2.2.1.1 HI.out.2.2.2.1.2 WQ.out.1 WQ.out.2 W⟩
        have C2 : Aside0 (∀ W, Calls Try.prog 65 #[.int .u32 px, .int .u64 (IntKind.u64.wrap cn)] W (RmR W y)) := ⟨fun W => by rw [hy]; exact rtimes_any px _ HI.out.2.2.2.1.1 HI.out.2.2.2.1.2 WQ.out.1 WQ.out.2 W⟩
        clear hy
        have qO8 : W3.cell? ⟨gO, 8, none⟩ = some (.int .u32 px) := (blk_cell (Bx.get HB3.out (gO, #[.int .i64 kd, .int .i64 i1, .int .i64 i2, .int .i64 i3, .int .i64 cn, .int .u64 x0, .int .u64 x1, .string S, .int .u32 px, .int .u32 py, .int .i64 rd], 69) (by simp)) 8).trans rfl
        have qO4 : W3.cell? ⟨gO, 4, none⟩ = some (.int .i64 cn) := (blk_cell (Bx.get HB3.out (gO, #[.int .i64 kd, .int .i64 i1, .int .i64 i2, .int .i64 i3, .int .i64 cn, .int .u64 x0, .int .u64 x1, .string S, .int .u32 px, .int .u32 py, .int .i64 rd], 69) (by simp)) 4).trans rfl
        have HS3 : SB w gO gX gY #[.int .i64 kd, .int .i64 i1, .int .i64 i2, .int .i64 i3, .int .i64 cn, .int .u64 x0, .int .u64 x1, .string S, .int .u32 px, .int .u32 py, .int .i64 rd] W3 := ⟨_, _, _, _, _, HB3.out⟩
        go_upto_region 8 with (fail)
        go_region_held3 (fun w' => w'.cell? ⟨gO, 8, none⟩ = some (.int .u32 px) ∧ w'.cell? ⟨gO, 4, none⟩ = some (.int .i64 cn) ∧ SB w gO gX gY #[.int .i64 kd, .int .i64 i1, .int .i64 i2, .int .i64 i3, .int .i64 cn, .int .u64 x0, .int .u64 x1, .string S, .int .u32 px, .int .u32 py, .int .i64 rd] w') ((go_split_ands; refine ⟨?_, ?_, ?_⟩ <;> first | (with_reducible assumption) | (with_reducible exact SB.setsX (by with_reducible assumption) _ _ _) | (with_reducible exact SB.setsY (by with_reducible assumption) _ _) | (with_reducible exact SB.setsX (SB.setsY (by with_reducible assumption) _ _) _ _ _) | (with_reducible exact SB.setsY (SB.setsX (by with_reducible assumption) _ _ _) _ _) | (with_reducible exact SB.drew (by with_reducible assumption)) | (with_reducible exact SB.below (by with_reducible assumption) (by with_reducible assumption)) | (with_reducible exact (pw_cell_below (by with_reducible assumption) (by with_reducible assumption))) | (with_reducible exact cell_sets3 (by with_reducible assumption) n2) | (with_reducible exact cell_sets2 (by with_reducible assumption) n3) | (with_reducible exact cell_sets2 (cell_sets3 (by with_reducible assumption) n2) n3) | (with_reducible exact cell_sets3 (cell_sets2 (by with_reducible assumption) n3) n2) | go_keep))
          (first
            | (go_at_call 64; (with_reducible refine (C1.out _).mono ?_); rintro e w33 ⟨rfl, hb⟩; (have hsb : SB w gO gX gY #[.int .i64 kd, .int .i64 i1, .int .i64 i2, .int .i64 i3, .int .i64 cn, .int .u64 x0, .int .u64 x1, .string S, .int .u32 px, .int .u32 py, .int .i64 rd] w33 := SB.below (by go_split_ands; with_reducible assumption) hb); have HSB := Aside0.mk hsb; obtain ⟨x0_, x1_, x2_, y0_, y1_, hbx⟩ := hsb; have hX := Bx.get hbx (gX, #[x0_, x1_, x2_], 40) (by simp); have hY := Bx.get hbx (gY, #[y0_, y1_], 46) (by simp); clear hbx; have e0 : w33.cell? ⟨gX, 0, none⟩ = some x0_ := (blk_cell hX 0).trans rfl; have e1 : w33.cell? ⟨gX, 1, none⟩ = some x1_ := (blk_cell hX 1).trans rfl; have e2 : w33.cell? ⟨gX, 2, none⟩ = some x2_ := (blk_cell hX 2).trans rfl; have e3 : w33.cell? ⟨gY, 0, none⟩ = some y0_ := (blk_cell hY 0).trans rfl; have e4 : w33.cell? ⟨gY, 1, none⟩ = some y1_ := (blk_cell hY 1).trans rfl; have f0 := blk_frozen hX 0; have f1 := blk_frozen hX 1; have f2 := blk_frozen hX 2; have f3 := blk_frozen hY 0; have f4 := blk_frozen hY 1; clear hX hY)
            | (go_at_call 65; (with_reducible refine (C2.out _).mono ?_); rintro e w63 ⟨X, rfl, hr, hb⟩; obtain ⟨u, rfl, hr⟩ := hr; obtain ⟨A5, c5, e5⟩ := Kd.R_slice hr; subst e5; have HR5 : Aside0 (Rm w63 (.agg #[.bool (mnM y), .slice A5 (D y.natAbs).length c5]) y) := ⟨⟨_, rfl, hr⟩⟩; clear hr; (have hsb : SB w gO gX gY #[.int .i64 kd, .int .i64 i1, .int .i64 i2, .int .i64 i3, .int .i64 cn, .int .u64 x0, .int .u64 x1, .string S, .int .u32 px, .int .u32 py, .int .i64 rd] w63 := SB.below (by go_split_ands; with_reducible assumption) hb); have HSB := Aside0.mk hsb; obtain ⟨x0_, x1_, x2_, y0_, y1_, hbx⟩ := hsb; have hX := Bx.get hbx (gX, #[x0_, x1_, x2_], 40) (by simp); have hY := Bx.get hbx (gY, #[y0_, y1_], 46) (by simp); clear hbx; have e0 : w63.cell? ⟨gX, 0, none⟩ = some x0_ := (blk_cell hX 0).trans rfl; have e1 : w63.cell? ⟨gX, 1, none⟩ = some x1_ := (blk_cell hX 1).trans rfl; have e2 : w63.cell? ⟨gX, 2, none⟩ = some x2_ := (blk_cell hX 2).trans rfl; have e3 : w63.cell? ⟨gY, 0, none⟩ = some y0_ := (blk_cell hY 0).trans rfl; have e4 : w63.cell? ⟨gY, 1, none⟩ = some y1_ := (blk_cell hY 1).trans rfl; have f0 := blk_frozen hX 0; have f1 := blk_frozen hX 1; have f2 := blk_frozen hX 2; have f3 := blk_frozen hY 0; have f4 := blk_frozen hY 1; clear hX hY))
        all_goals (go_wp2_with (fail); go_meet)
        all_goals first
          | exact RelS.xy HSB.out hsm.out HR5.out
          | exact RelS.yx HSB.out hsm.out HR5.out
          | exact RelS.xy HSB.out hsm.out (HR5.out.below (by with_reducible assumption))
          | exact RelS.yx HSB.out hsm.out (HR5.out.below (by with_reducible assumption))
      by_cases k2 : kd = 2
      · have t2 : (kd == 2) = true := beq_iff_eq.mpr k2
        have t0 : (kd == 0) = false := beq_eq_false_iff_ne.mpr (by omega)
        have t1 : (kd == 1) = false := beq_eq_false_iff_ne.mpr (by omega)
        clear k0 k1 k2
        obtain ⟨y, hy⟩ : ∃ y : Int, y = parseR S.data.toList := ⟨_, rfl⟩
        obtain ⟨ke, hke⟩ : ∃ k : Int, k = parseE S.data.toList := ⟨_, rfl⟩
        have hsm : Aside0 (Small y) := ⟨by rw [hy]; exact small_parseR _⟩
        have C1 : Aside0 (∀ W, Calls Try.prog 24 #[.string S] W fun e w' => e = .returned (.tuple #[.agg #[.int .u64 (hiM y), .int .u64 (loM y), .bool (mnM y)], .int .i64 ke]) ∧ Below W.heap.size W w') := ⟨fun W => by rw [hy, hke]; exact parse_calls S.data.toList HI.out.2.2.2.2.2 W⟩
        have C2 : Aside0 (∀ W, Calls Try.prog 25 #[.string S] W (RmE W y ke)) := ⟨fun W  => by rw [hy, hke]; exact rparse_any S.data.toList W⟩
        clear hy hke
        have qO7 : W3.cell? ⟨gO, 7, none⟩ = some (.string S) := (blk_cell (Bx.get HB3.out (gO, #[.int .i64 kd, .int .i64 i1, .int .i64 i2, .int .i64 i3, .int .i64 cn, .int .u64 x0, .int .u64 x1, .string S, .int .u32 px, .int .u32 py, .int .i64 rd], 69) (by simp)) 7).trans rfl
        go_upto_region 11 with (first
          | ((with_reducible refine gate_callee (f := 24) rfl ?_); (try (refine gate_guard (by rfl) ?_; dsimp only)); refine goesL_ (some 62) rfl rfl Try.func24 (by kernel_rfl) rfl #[.string S] rfl (by (try simp only [List.map_toArray, List.map_cons, List.map_nil]); first | done | rfl) ?_; (with_reducible refine (C1.out _).mono ?_); rintro e w5 ⟨rfl, hb⟩; refine ⟨_, rfl, ?_⟩; have HV5 := Aside0.mk (Bx.below HB3.out hb); clear hb; have hX := Bx.get HV5.out (gX, #[.int .u64 (hiM (v a)), .int .u64 (loM (v a)), .bool (mnM (v a))], 40) (by simp); have e0 : w5.cell? ⟨gX, 0, none⟩ = some (.int .u64 (hiM (v a))) := (blk_cell hX 0).trans rfl; have e1 : w5.cell? ⟨gX, 1, none⟩ = some (.int .u64 (loM (v a))) := (blk_cell hX 1).trans rfl; have e2 : w5.cell? ⟨gX, 2, none⟩ = some (.bool (mnM (v a))) := (blk_cell hX 2).trans rfl; have f0 := blk_frozen hX 0; have f1 := blk_frozen hX 1; have f2 := blk_frozen hX 2; clear hX))
        obtain ⟨W6, hW⟩ : ∃ W, W = (((w5.setCell ⟨gX, 0, none⟩ (.int .u64 (hiM y))).setCell ⟨gX, 1, none⟩ (.int .u64 (loM y))).setCell ⟨gX, 2, none⟩ (.bool (mnM y))) := ⟨_, rfl⟩
        have HB6 : Aside0 (Bx w W6 [(gX, #[.int .u64 (hiM y), .int .u64 (loM y), .bool (mnM y)], 40), (gY, #[.bool (mnM (v a)), .slice A0 (D (v a).natAbs).length c0], 46), (gO, #[.int .i64 kd, .int .i64 i1, .int .i64 i2, .int .i64 i3, .int .i64 cn, .int .u64 x0, .int .u64 x1, .string S, .int .u32 px, .int .u32 py, .int .i64 rd], 69)]) := ⟨by rw [hW]; exact SB.setX HV5.out _ _ _⟩
        rw [← hW]
        clear hW HV5 e0 e1 e2 f0 f1 f2 qO7
        have qO7 : W6.cell? ⟨gO, 7, none⟩ = some (.string S) := (blk_cell (Bx.get HB6.out (gO, #[.int .i64 kd, .int .i64 i1, .int .i64 i2, .int .i64 i3, .int .i64 cn, .int .u64 x0, .int .u64 x1, .string S, .int .u32 px, .int .u32 py, .int .i64 rd], 69) (by simp)) 7).trans rfl
        go_wp2_with (first
          | ((with_reducible refine gate_callee (f := 25) rfl ?_); (try (refine gate_guard (by rfl) ?_; dsimp only)); refine goesL_ (some 68) rfl rfl Try.func25 (by kernel_rfl) rfl #[.string S] rfl (by (try simp only [List.map_toArray, List.map_cons, List.map_nil]); first | done | rfl) ?_; (with_reducible refine (C2.out _ ).mono ?_); rintro e w63 ⟨X, rfl, hr, hb⟩; refine ⟨_, rfl, ?_⟩; obtain ⟨u, rfl, hr⟩ := hr; obtain ⟨A5, c5, e5⟩ := Kd.R_slice hr; subst e5; have HR5 : Aside0 (Rm w63 (.agg #[.bool (mnM y), .slice A5 (D y.natAbs).length c5]) y) := ⟨⟨_, rfl, hr⟩⟩; clear hr; have HV7 := Aside0.mk (Bx.below HB6.out hb); clear hb; have hY := Bx.get HV7.out (gY, #[.bool (mnM (v a)), .slice A0 (D (v a).natAbs).length c0], 46) (by simp); have e3 : w63.cell? ⟨gY, 0, none⟩ = some (.bool (mnM (v a))) := (blk_cell hY 0).trans rfl; have e4 : w63.cell? ⟨gY, 1, none⟩ = some (.slice A0 (D (v a).natAbs).length c0) := (blk_cell hY 1).trans rfl; have f3 := blk_frozen hY 0; have f4 := blk_frozen hY 1; clear hY))
        go_meet
        all_goals exact ⟨_, _, _, _, rfl, rfl, hsm.out, SB.setY HV7.out _ _, Rm.setY ⟨_, _, _, _, _, HV7.out⟩ HR5.out _ _⟩
      by_cases k3 : kd = 3
      · have t3 : (kd == 3) = true := beq_iff_eq.mpr k3
        have t0 : (kd == 0) = false := beq_eq_false_iff_ne.mpr (by omega)
        have t1 : (kd == 1) = false := beq_eq_false_iff_ne.mpr (by omega)
        have t2 : (kd == 2) = false := beq_eq_false_iff_ne.mpr (by omega)
        clear k0 k1 k2 k3
        obtain ⟨y, hy⟩ : ∃ y : Int, y = fwR x0 x1 := ⟨_, rfl⟩
        obtain ⟨ke, hke⟩ : ∃ k : Int, k = (if fwB x0 x1 then 3 else 0) := ⟨_, rfl⟩
        have hsm : Aside0 (Small y) := ⟨by rw [hy]; exact small_fwR x0 x1 HI.out.2.1.1 HI.out.2.1.2 HI.out.2.2.1.1 HI.out.2.2.1.2⟩
        have C1 : Aside0 (∀ W, Calls Try.prog 29 #[.agg #[.int .u64 x0, .int .u64 x1]] W fun e w' => e = .returned (.tuple #[.agg #[.int .u64 (hiM y), .int .u64 (loM y), .bool (mnM y)], .int .i64 ke]) ∧ Below W.heap.size W w') := ⟨fun W => by rw [hy, hke]; exact from_calls x0 x1 HI.out.2.1.1 HI.out.2.1.2 HI.out.2.2.1.1 HI.out.2.2.1.2 W⟩
        have C2 : Aside0 (∀ W, Calls Try.prog 30 #[.agg #[.int .u64 x0, .int .u64 x1]] W (RmE W y ke)) := ⟨fun W  => by rw [hy, hke]; exact rfrom_any x0 x1 HI.out.2.1.1 HI.out.2.1.2 HI.out.2.2.1.1 HI.out.2.2.1.2 W⟩
        clear hy hke
        have qO5 : W3.cell? ⟨gO, 5, none⟩ = some (.int .u64 x0) := (blk_cell (Bx.get HB3.out (gO, #[.int .i64 kd, .int .i64 i1, .int .i64 i2, .int .i64 i3, .int .i64 cn, .int .u64 x0, .int .u64 x1, .string S, .int .u32 px, .int .u32 py, .int .i64 rd], 69) (by simp)) 5).trans rfl
        have qO6 : W3.cell? ⟨gO, 6, none⟩ = some (.int .u64 x1) := (blk_cell (Bx.get HB3.out (gO, #[.int .i64 kd, .int .i64 i1, .int .i64 i2, .int .i64 i3, .int .i64 cn, .int .u64 x0, .int .u64 x1, .string S, .int .u32 px, .int .u32 py, .int .i64 rd], 69) (by simp)) 6).trans rfl
        go_upto_region 14 with (first
          | ((with_reducible refine gate_callee (f := 29) rfl ?_); (try (refine gate_guard (by rfl) ?_; dsimp only)); refine goesL_ (some 76) rfl rfl Try.func29 (by kernel_rfl) rfl #[.agg #[.int .u64 x0, .int .u64 x1]] rfl (by (try simp only [List.map_toArray, List.map_cons, List.map_nil]); first | done | rfl) ?_; (with_reducible refine (C1.out _).mono ?_); rintro e w5 ⟨rfl, hb⟩; refine ⟨_, rfl, ?_⟩; have HV5 := Aside0.mk (Bx.below HB3.out hb); clear hb; have hX := Bx.get HV5.out (gX, #[.int .u64 (hiM (v a)), .int .u64 (loM (v a)), .bool (mnM (v a))], 40) (by simp); have e0 : w5.cell? ⟨gX, 0, none⟩ = some (.int .u64 (hiM (v a))) := (blk_cell hX 0).trans rfl; have e1 : w5.cell? ⟨gX, 1, none⟩ = some (.int .u64 (loM (v a))) := (blk_cell hX 1).trans rfl; have e2 : w5.cell? ⟨gX, 2, none⟩ = some (.bool (mnM (v a))) := (blk_cell hX 2).trans rfl; have f0 := blk_frozen hX 0; have f1 := blk_frozen hX 1; have f2 := blk_frozen hX 2; clear hX))
        obtain ⟨W6, hW⟩ : ∃ W, W = (((w5.setCell ⟨gX, 0, none⟩ (.int .u64 (hiM y))).setCell ⟨gX, 1, none⟩ (.int .u64 (loM y))).setCell ⟨gX, 2, none⟩ (.bool (mnM y))) := ⟨_, rfl⟩
        have HB6 : Aside0 (Bx w W6 [(gX, #[.int .u64 (hiM y), .int .u64 (loM y), .bool (mnM y)], 40), (gY, #[.bool (mnM (v a)), .slice A0 (D (v a).natAbs).length c0], 46), (gO, #[.int .i64 kd, .int .i64 i1, .int .i64 i2, .int .i64 i3, .int .i64 cn, .int .u64 x0, .int .u64 x1, .string S, .int .u32 px, .int .u32 py, .int .i64 rd], 69)]) := ⟨by rw [hW]; exact SB.setX HV5.out _ _ _⟩
        rw [← hW]
        clear hW HV5 e0 e1 e2 f0 f1 f2 qO5 qO6
        have qO5 : W6.cell? ⟨gO, 5, none⟩ = some (.int .u64 x0) := (blk_cell (Bx.get HB6.out (gO, #[.int .i64 kd, .int .i64 i1, .int .i64 i2, .int .i64 i3, .int .i64 cn, .int .u64 x0, .int .u64 x1, .string S, .int .u32 px, .int .u32 py, .int .i64 rd], 69) (by simp)) 5).trans rfl
        have qO6 : W6.cell? ⟨gO, 6, none⟩ = some (.int .u64 x1) := (blk_cell (Bx.get HB6.out (gO, #[.int .i64 kd, .int .i64 i1, .int .i64 i2, .int .i64 i3, .int .i64 cn, .int .u64 x0, .int .u64 x1, .string S, .int .u32 px, .int .u32 py, .int .i64 rd], 69) (by simp)) 6).trans rfl
        go_wp2_with (first
          | ((with_reducible refine gate_callee (f := 30) rfl ?_); (try (refine gate_guard (by rfl) ?_; dsimp only)); refine goesL_ (some 82) rfl rfl Try.func30 (by kernel_rfl) rfl #[.agg #[.int .u64 x0, .int .u64 x1]] rfl (by (try simp only [List.map_toArray, List.map_cons, List.map_nil]); first | done | rfl) ?_; (with_reducible refine (C2.out _ ).mono ?_); rintro e w63 ⟨X, rfl, hr, hb⟩; refine ⟨_, rfl, ?_⟩; obtain ⟨u, rfl, hr⟩ := hr; obtain ⟨A5, c5, e5⟩ := Kd.R_slice hr; subst e5; have HR5 : Aside0 (Rm w63 (.agg #[.bool (mnM y), .slice A5 (D y.natAbs).length c5]) y) := ⟨⟨_, rfl, hr⟩⟩; clear hr; have HV7 := Aside0.mk (Bx.below HB6.out hb); clear hb; have hY := Bx.get HV7.out (gY, #[.bool (mnM (v a)), .slice A0 (D (v a).natAbs).length c0], 46) (by simp); have e3 : w63.cell? ⟨gY, 0, none⟩ = some (.bool (mnM (v a))) := (blk_cell hY 0).trans rfl; have e4 : w63.cell? ⟨gY, 1, none⟩ = some (.slice A0 (D (v a).natAbs).length c0) := (blk_cell hY 1).trans rfl; have f3 := blk_frozen hY 0; have f4 := blk_frozen hY 1; clear hY))
        go_meet
        all_goals exact ⟨_, _, _, _, rfl, rfl, hsm.out, SB.setY HV7.out _ _, Rm.setY ⟨_, _, _, _, _, HV7.out⟩ HR5.out _ _⟩
      by_cases k4 : kd = 4
      · have t4 : (kd == 4) = true := beq_iff_eq.mpr k4
        have t0 : (kd == 0) = false := beq_eq_false_iff_ne.mpr (by omega)
        have t1 : (kd == 1) = false := beq_eq_false_iff_ne.mpr (by omega)
        have t2 : (kd == 2) = false := beq_eq_false_iff_ne.mpr (by omega)
        have t3 : (kd == 3) = false := beq_eq_false_iff_ne.mpr (by omega)
        clear k0 k1 k2 k3 k4
        have hbI : (b : Int) < 4 := by have := HT.out.2.2; omega
        have hb0 : (0 : Int) ≤ (b : Int) := by omega
        obtain ⟨y, hy⟩ : ∃ y : Int, y = addR (v a + v b) := ⟨_, rfl⟩
        obtain ⟨ke, hke⟩ : ∃ k : Int, k = addE (v a + v b) := ⟨_, rfl⟩
        have hsm : Aside0 (Small y) := ⟨by rw [hy]; exact small_addR _⟩
        have C1 : Aside0 (∀ W, Calls Try.prog 34 #[.agg #[.int .u64 (hiM (v a)), .int .u64 (loM (v a)), .bool (mnM (v a))], .agg #[.int .u64 (hiM (v b)), .int .u64 (loM (v b)), .bool (mnM (v b))]] W fun e w' => e = .returned (.tuple #[.agg #[.int .u64 (hiM y), .int .u64 (loM y), .bool (mnM y)], .int .i64 ke]) ∧ Below W.heap.size W w') := ⟨fun W => by rw [hy, hke]; exact add_calls (v a) (v b) (HV.out a) (HV.out b) W⟩
        have C2 : Aside0 (∀ W, Rm W (.agg #[.bool (mnM (v a)), .slice A0 (D (v a).natAbs).length c0]) (v a) → Rm W (.agg #[.bool (mnM (v b)), .slice B0 (D (v b).natAbs).length d0]) (v b) → Calls Try.prog 66 #[.agg #[.bool (mnM (v a)), .slice A0 (D (v a).natAbs).length c0], .agg #[.bool (mnM (v b)), .slice B0 (D (v b).natAbs).length d0]] W (RmE W y ke)) := ⟨fun W r0 r1 => by rw [hy, hke]; exact radd_any (v a) (v b) (HV.out a) (HV.out b) _ _ W r0 r1⟩
        clear hy hke
        have qX0 : W3.cell? ⟨gX, 0, none⟩ = some (.int .u64 (hiM (v a))) := (blk_cell (Bx.get HB3.out (gX, #[.int .u64 (hiM (v a)), .int .u64 (loM (v a)), .bool (mnM (v a))], 40) (by simp)) 0).trans rfl
        have qX1 : W3.cell? ⟨gX, 1, none⟩ = some (.int .u64 (loM (v a))) := (blk_cell (Bx.get HB3.out (gX, #[.int .u64 (hiM (v a)), .int .u64 (loM (v a)), .bool (mnM (v a))], 40) (by simp)) 1).trans rfl
        have qX2 : W3.cell? ⟨gX, 2, none⟩ = some (.bool (mnM (v a))) := (blk_cell (Bx.get HB3.out (gX, #[.int .u64 (hiM (v a)), .int .u64 (loM (v a)), .bool (mnM (v a))], 40) (by simp)) 2).trans rfl
        have q0 : W3.cell? ⟨g, b * 3, none⟩ = some (.int .u64 (hiM (v b))) := (HB3.out.bel.cell (p := ⟨g, b * 3, none⟩) hgw).trans HCB.out.1
        have q1 : W3.cell? ⟨g, b * 3 + 1, none⟩ = some (.int .u64 (loM (v b))) := (HB3.out.bel.cell (p := ⟨g, b * 3 + 1, none⟩) hgw).trans HCB.out.2.1
        have q2 : W3.cell? ⟨g, b * 3 + 2, none⟩ = some (.bool (mnM (v b))) := (HB3.out.bel.cell (p := ⟨g, b * 3 + 2, none⟩) hgw).trans HCB.out.2.2.1
        go_upto_region 16 with (fail)
        go_region_with (go_at_call 34; (with_reducible refine (C1.out _).mono ?_); rintro e w5 ⟨rfl, hb⟩; have HV5 := Aside0.mk (Bx.below HB3.out.drew hb); clear hb; have hX := Bx.get HV5.out (gX, #[.int .u64 (hiM (v a)), .int .u64 (loM (v a)), .bool (mnM (v a))], 40) (by simp); have e0 : w5.cell? ⟨gX, 0, none⟩ = some (.int .u64 (hiM (v a))) := (blk_cell hX 0).trans rfl; have e1 : w5.cell? ⟨gX, 1, none⟩ = some (.int .u64 (loM (v a))) := (blk_cell hX 1).trans rfl; have e2 : w5.cell? ⟨gX, 2, none⟩ = some (.bool (mnM (v a))) := (blk_cell hX 2).trans rfl; have f0 := blk_frozen hX 0; have f1 := blk_frozen hX 1; have f2 := blk_frozen hX 2; clear hX)
        all_goals
          go_upto_region 17 with (fail)
          obtain ⟨W6, hW⟩ : ∃ W, W = (((w5.setCell ⟨gX, 0, none⟩ (.int .u64 (hiM y))).setCell ⟨gX, 1, none⟩ (.int .u64 (loM y))).setCell ⟨gX, 2, none⟩ (.bool (mnM y))) := ⟨_, rfl⟩
          have HB6 : Aside0 (Bx w W6 [(gX, #[.int .u64 (hiM y), .int .u64 (loM y), .bool (mnM y)], 40), (gY, #[.bool (mnM (v a)), .slice A0 (D (v a).natAbs).length c0], 46), (gO, #[.int .i64 kd, .int .i64 i1, .int .i64 i2, .int .i64 i3, .int .i64 cn, .int .u64 x0, .int .u64 x1, .string S, .int .u32 px, .int .u32 py, .int .i64 rd], 69)]) := ⟨by rw [hW]; exact SB.setX HV5.out _ _ _⟩
          rw [← hW]
          clear hW HV5 e0 e1 e2 f0 f1 f2 qX0 qX1 qX2 q0 q1 q2
          have qY0 : W6.cell? ⟨gY, 0, none⟩ = some (.bool (mnM (v a))) := (blk_cell (Bx.get HB6.out (gY, #[.bool (mnM (v a)), .slice A0 (D (v a).natAbs).length c0], 46) (by simp)) 0).trans rfl
          have qY1 : W6.cell? ⟨gY, 1, none⟩ = some (.slice A0 (D (v a).natAbs).length c0) := (blk_cell (Bx.get HB6.out (gY, #[.bool (mnM (v a)), .slice A0 (D (v a).natAbs).length c0], 46) (by simp)) 1).trans rfl
          have q3 : W6.cell? ⟨g, 12 + b * 2, none⟩ = some (.bool (mnM (v b))) := (HB6.out.bel.cell (p := ⟨g, 12 + b * 2, none⟩) hgw).trans HCB.out.2.2.2.1
          have q4 : W6.cell? ⟨g, 12 + b * 2 + 1, none⟩ = some (.slice B0 (D (v b).natAbs).length d0) := (HB6.out.bel.cell (p := ⟨g, 12 + b * 2 + 1, none⟩) hgw).trans HCB.out.2.2.2.2
          have HRA6 : Aside0 (Rm W6 (.agg #[.bool (mnM (v a)), .slice A0 (D (v a).natAbs).length c0]) (v a)) := ⟨HRA.out.below HB6.out.bel⟩
          have HRB6 : Aside0 (Rm W6 (.agg #[.bool (mnM (v b)), .slice B0 (D (v b).natAbs).length d0]) (v b)) := ⟨HRB.out.below HB6.out.bel⟩
          have HRA7 : Aside0 (Rm W6.drew (.agg #[.bool (mnM (v a)), .slice A0 (D (v a).natAbs).length c0]) (v a)) := ⟨HRA6.out.drewN 1⟩
          have HRB7 : Aside0 (Rm W6.drew (.agg #[.bool (mnM (v b)), .slice B0 (D (v b).natAbs).length d0]) (v b)) := ⟨HRB6.out.drewN 1⟩
          go_region_with (go_at_call 66; (with_reducible refine (C2.out _ HRA7.out HRB7.out).mono ?_); rintro e w63 ⟨X, rfl, hr, hb⟩; obtain ⟨u, rfl, hr⟩ := hr; obtain ⟨A5, c5, e5⟩ := Kd.R_slice hr; subst e5; have HR5 : Aside0 (Rm w63 (.agg #[.bool (mnM y), .slice A5 (D y.natAbs).length c5]) y) := ⟨⟨_, rfl, hr⟩⟩; clear hr; have HV7 := Aside0.mk (Bx.below HB6.out.drew hb); clear hb; have hY := Bx.get HV7.out (gY, #[.bool (mnM (v a)), .slice A0 (D (v a).natAbs).length c0], 46) (by simp); have e3 : w63.cell? ⟨gY, 0, none⟩ = some (.bool (mnM (v a))) := (blk_cell hY 0).trans rfl; have e4 : w63.cell? ⟨gY, 1, none⟩ = some (.slice A0 (D (v a).natAbs).length c0) := (blk_cell hY 1).trans rfl; have f3 := blk_frozen hY 0; have f4 := blk_frozen hY 1; clear hY)
          all_goals (go_wp2_with (fail); go_meet)
          all_goals exact ⟨_, _, _, _, rfl, rfl, hsm.out, SB.setY HV7.out _ _, Rm.setY ⟨_, _, _, _, _, HV7.out⟩ HR5.out _ _⟩
      by_cases k5 : kd = 5
      · have t5 : (kd == 5) = true := beq_iff_eq.mpr k5
        have t0 : (kd == 0) = false := beq_eq_false_iff_ne.mpr (by omega)
        have t1 : (kd == 1) = false := beq_eq_false_iff_ne.mpr (by omega)
        have t2 : (kd == 2) = false := beq_eq_false_iff_ne.mpr (by omega)
        have t3 : (kd == 3) = false := beq_eq_false_iff_ne.mpr (by omega)
        have t4 : (kd == 4) = false := beq_eq_false_iff_ne.mpr (by omega)
        clear k0 k1 k2 k3 k4 k5
        have hbI : (b : Int) < 4 := by have := HT.out.2.2; omega
        have hb0 : (0 : Int) ≤ (b : Int) := by omega
        obtain ⟨y, hy⟩ : ∃ y : Int, y = addR (v a - v b) := ⟨_, rfl⟩
        obtain ⟨ke, hke⟩ : ∃ k : Int, k = addE (v a - v b) := ⟨_, rfl⟩
        have hsm : Aside0 (Small y) := ⟨by rw [hy]; exact small_addR _⟩
        have C1 : Aside0 (∀ W, Calls Try.prog 35 #[.agg #[.int .u64 (hiM (v a)), .int .u64 (loM (v a)), .bool (mnM (v a))], .agg #[.int .u64 (hiM (v b)), .int .u64 (loM (v b)), .bool (mnM (v b))]] W fun e w' => e = .returned (.tuple #[.agg #[.int .u64 (hiM y), .int .u64 (loM y), .bool (mnM y)], .int .i64 ke]) ∧ Below W.heap.size W w') := ⟨fun W => by rw [hy, hke]; exact sub_calls (v a) (v b) (HV.out a) (HV.out b) W⟩
        have C2 : Aside0 (∀ W, Rm W (.agg #[.bool (mnM (v a)), .slice A0 (D (v a).natAbs).length c0]) (v a) → Rm W (.agg #[.bool (mnM (v b)), .slice B0 (D (v b).natAbs).length d0]) (v b) → Calls Try.prog 67 #[.agg #[.bool (mnM (v a)), .slice A0 (D (v a).natAbs).length c0], .agg #[.bool (mnM (v b)), .slice B0 (D (v b).natAbs).length d0]] W (RmE W y ke)) := ⟨fun W r0 r1 => by rw [hy, hke]; exact rsub_any (v a) (v b) (HV.out a) (HV.out b) _ _ W r0 r1⟩
        clear hy hke
        have qX0 : W3.cell? ⟨gX, 0, none⟩ = some (.int .u64 (hiM (v a))) := (blk_cell (Bx.get HB3.out (gX, #[.int .u64 (hiM (v a)), .int .u64 (loM (v a)), .bool (mnM (v a))], 40) (by simp)) 0).trans rfl
        have qX1 : W3.cell? ⟨gX, 1, none⟩ = some (.int .u64 (loM (v a))) := (blk_cell (Bx.get HB3.out (gX, #[.int .u64 (hiM (v a)), .int .u64 (loM (v a)), .bool (mnM (v a))], 40) (by simp)) 1).trans rfl
        have qX2 : W3.cell? ⟨gX, 2, none⟩ = some (.bool (mnM (v a))) := (blk_cell (Bx.get HB3.out (gX, #[.int .u64 (hiM (v a)), .int .u64 (loM (v a)), .bool (mnM (v a))], 40) (by simp)) 2).trans rfl
        have q0 : W3.cell? ⟨g, b * 3, none⟩ = some (.int .u64 (hiM (v b))) := (HB3.out.bel.cell (p := ⟨g, b * 3, none⟩) hgw).trans HCB.out.1
        have q1 : W3.cell? ⟨g, b * 3 + 1, none⟩ = some (.int .u64 (loM (v b))) := (HB3.out.bel.cell (p := ⟨g, b * 3 + 1, none⟩) hgw).trans HCB.out.2.1
        have q2 : W3.cell? ⟨g, b * 3 + 2, none⟩ = some (.bool (mnM (v b))) := (HB3.out.bel.cell (p := ⟨g, b * 3 + 2, none⟩) hgw).trans HCB.out.2.2.1
        go_upto_region 19 with (fail)
        go_region_with (go_at_call 35; (with_reducible refine (C1.out _).mono ?_); rintro e w5 ⟨rfl, hb⟩; have HV5 := Aside0.mk (Bx.below HB3.out.drew hb); clear hb; have hX := Bx.get HV5.out (gX, #[.int .u64 (hiM (v a)), .int .u64 (loM (v a)), .bool (mnM (v a))], 40) (by simp); have e0 : w5.cell? ⟨gX, 0, none⟩ = some (.int .u64 (hiM (v a))) := (blk_cell hX 0).trans rfl; have e1 : w5.cell? ⟨gX, 1, none⟩ = some (.int .u64 (loM (v a))) := (blk_cell hX 1).trans rfl; have e2 : w5.cell? ⟨gX, 2, none⟩ = some (.bool (mnM (v a))) := (blk_cell hX 2).trans rfl; have f0 := blk_frozen hX 0; have f1 := blk_frozen hX 1; have f2 := blk_frozen hX 2; clear hX)
        all_goals
          go_upto_region 20 with (fail)
          obtain ⟨W6, hW⟩ : ∃ W, W = (((w5.setCell ⟨gX, 0, none⟩ (.int .u64 (hiM y))).setCell ⟨gX, 1, none⟩ (.int .u64 (loM y))).setCell ⟨gX, 2, none⟩ (.bool (mnM y))) := ⟨_, rfl⟩
          have HB6 : Aside0 (Bx w W6 [(gX, #[.int .u64 (hiM y), .int .u64 (loM y), .bool (mnM y)], 40), (gY, #[.bool (mnM (v a)), .slice A0 (D (v a).natAbs).length c0], 46), (gO, #[.int .i64 kd, .int .i64 i1, .int .i64 i2, .int .i64 i3, .int .i64 cn, .int .u64 x0, .int .u64 x1, .string S, .int .u32 px, .int .u32 py, .int .i64 rd], 69)]) := ⟨by rw [hW]; exact SB.setX HV5.out _ _ _⟩
          rw [← hW]
          clear hW HV5 e0 e1 e2 f0 f1 f2 qX0 qX1 qX2 q0 q1 q2
          have qY0 : W6.cell? ⟨gY, 0, none⟩ = some (.bool (mnM (v a))) := (blk_cell (Bx.get HB6.out (gY, #[.bool (mnM (v a)), .slice A0 (D (v a).natAbs).length c0], 46) (by simp)) 0).trans rfl
          have qY1 : W6.cell? ⟨gY, 1, none⟩ = some (.slice A0 (D (v a).natAbs).length c0) := (blk_cell (Bx.get HB6.out (gY, #[.bool (mnM (v a)), .slice A0 (D (v a).natAbs).length c0], 46) (by simp)) 1).trans rfl
          have q3 : W6.cell? ⟨g, 12 + b * 2, none⟩ = some (.bool (mnM (v b))) := (HB6.out.bel.cell (p := ⟨g, 12 + b * 2, none⟩) hgw).trans HCB.out.2.2.2.1
          have q4 : W6.cell? ⟨g, 12 + b * 2 + 1, none⟩ = some (.slice B0 (D (v b).natAbs).length d0) := (HB6.out.bel.cell (p := ⟨g, 12 + b * 2 + 1, none⟩) hgw).trans HCB.out.2.2.2.2
          have HRA6 : Aside0 (Rm W6 (.agg #[.bool (mnM (v a)), .slice A0 (D (v a).natAbs).length c0]) (v a)) := ⟨HRA.out.below HB6.out.bel⟩
          have HRB6 : Aside0 (Rm W6 (.agg #[.bool (mnM (v b)), .slice B0 (D (v b).natAbs).length d0]) (v b)) := ⟨HRB.out.below HB6.out.bel⟩
          have HRA7 : Aside0 (Rm W6.drew (.agg #[.bool (mnM (v a)), .slice A0 (D (v a).natAbs).length c0]) (v a)) := ⟨HRA6.out.drewN 1⟩
          have HRB7 : Aside0 (Rm W6.drew (.agg #[.bool (mnM (v b)), .slice B0 (D (v b).natAbs).length d0]) (v b)) := ⟨HRB6.out.drewN 1⟩
          go_region_with (go_at_call 67; (with_reducible refine (C2.out _ HRA7.out HRB7.out).mono ?_); rintro e w63 ⟨X, rfl, hr, hb⟩; obtain ⟨u, rfl, hr⟩ := hr; obtain ⟨A5, c5, e5⟩ := Kd.R_slice hr; subst e5; have HR5 : Aside0 (Rm w63 (.agg #[.bool (mnM y), .slice A5 (D y.natAbs).length c5]) y) := ⟨⟨_, rfl, hr⟩⟩; clear hr; have HV7 := Aside0.mk (Bx.below HB6.out.drew hb); clear hb; have hY := Bx.get HV7.out (gY, #[.bool (mnM (v a)), .slice A0 (D (v a).natAbs).length c0], 46) (by simp); have e3 : w63.cell? ⟨gY, 0, none⟩ = some (.bool (mnM (v a))) := (blk_cell hY 0).trans rfl; have e4 : w63.cell? ⟨gY, 1, none⟩ = some (.slice A0 (D (v a).natAbs).length c0) := (blk_cell hY 1).trans rfl; have f3 := blk_frozen hY 0; have f4 := blk_frozen hY 1; clear hY)
          all_goals (go_wp2_with (fail); go_meet)
          all_goals exact ⟨_, _, _, _, rfl, rfl, hsm.out, SB.setY HV7.out _ _, Rm.setY ⟨_, _, _, _, _, HV7.out⟩ HR5.out _ _⟩
      by_cases k6 : kd = 6
      · have t6 : (kd == 6) = true := beq_iff_eq.mpr k6
        have t0 : (kd == 0) = false := beq_eq_false_iff_ne.mpr (by omega)
        have t1 : (kd == 1) = false := beq_eq_false_iff_ne.mpr (by omega)
        have t2 : (kd == 2) = false := beq_eq_false_iff_ne.mpr (by omega)
        have t3 : (kd == 3) = false := beq_eq_false_iff_ne.mpr (by omega)
        have t4 : (kd == 4) = false := beq_eq_false_iff_ne.mpr (by omega)
        have t5 : (kd == 5) = false := beq_eq_false_iff_ne.mpr (by omega)
        clear k0 k1 k2 k3 k4 k5 k6
        obtain ⟨y, hy⟩ : ∃ y : Int, y = -(v a) := ⟨_, rfl⟩
        have hsm : Aside0 (Small y) := ⟨by rw [hy]; exact small_neg (HV.out a)⟩
        have hyn : y.natAbs = (v a).natAbs := by rw [hy]; exact Int.natAbs_neg _
        have C1 : Aside0 (∀ W, Calls Try.prog 37 #[.agg #[.int .u64 (hiM (v a)), .int .u64 (loM (v a)), .bool (mnM (v a))]] W fun e w' => e = .returned (.agg #[.int .u64 (hiM y), .int .u64 (loM y), .bool (mnM y)]) ∧ Below W.heap.size W w') := ⟨fun W => by rw [hy]; exact neg_calls (v a) (HV.out a) W⟩
        have C2 : Aside0 (∀ W, Calls Try.prog 68 #[.agg #[.bool (mnM (v a)), .slice A0 (D (v a).natAbs).length c0]] W fun e w' => e = .returned (.agg #[.bool (mnM y), .slice A0 (D (v a).natAbs).length c0]) ∧ Below W.heap.size W w') := ⟨fun W => by rw [hy]; exact rneg_any (v a) A0 c0 W⟩
        have HRY : Aside0 (∀ W, Below W3.heap.size W3 W → Rm W (.agg #[.bool (mnM y), .slice A0 (D y.natAbs).length c0]) y) := ⟨fun W h => by rw [hyn, hy]; exact (HRA3.out.below h).neg⟩
        have HYN := Aside0.mk hyn
        clear hy hyn
        have qX0 : W3.cell? ⟨gX, 0, none⟩ = some (.int .u64 (hiM (v a))) := (blk_cell (Bx.get HB3.out (gX, #[.int .u64 (hiM (v a)), .int .u64 (loM (v a)), .bool (mnM (v a))], 40) (by simp)) 0).trans rfl
        have qX1 : W3.cell? ⟨gX, 1, none⟩ = some (.int .u64 (loM (v a))) := (blk_cell (Bx.get HB3.out (gX, #[.int .u64 (hiM (v a)), .int .u64 (loM (v a)), .bool (mnM (v a))], 40) (by simp)) 1).trans rfl
        have qX2 : W3.cell? ⟨gX, 2, none⟩ = some (.bool (mnM (v a))) := (blk_cell (Bx.get HB3.out (gX, #[.int .u64 (hiM (v a)), .int .u64 (loM (v a)), .bool (mnM (v a))], 40) (by simp)) 2).trans rfl
        have qY0 : W3.cell? ⟨gY, 0, none⟩ = some (.bool (mnM (v a))) := (blk_cell (Bx.get HB3.out (gY, #[.bool (mnM (v a)), .slice A0 (D (v a).natAbs).length c0], 46) (by simp)) 0).trans rfl
        have qY1 : W3.cell? ⟨gY, 1, none⟩ = some (.slice A0 (D (v a).natAbs).length c0) := (blk_cell (Bx.get HB3.out (gY, #[.bool (mnM (v a)), .slice A0 (D (v a).natAbs).length c0], 46) (by simp)) 1).trans rfl
        go_upto_region 22 with (fail)
        have H3W : Aside0 (Below W3.drew.heap.size W3.drew W3.drew) := ⟨Below.refl _ _⟩
        go_region_with (first
          | (go_at_call 37; (with_reducible refine (C1.out _).mono ?_); rintro e w33 ⟨rfl, hb⟩; (first | (with_reducible have hp : Below W3.heap.size W3 w33 := below_then H3W.out H3W.out.size hb) | (with_reducible have hp : Below W3.heap.size W3 w33 := below_then (Below.refl _ W3).drew (Nat.le_refl _) hb)); have H3W := Aside0.mk hp; have hbx := Bx.below HB3.out hp; have hX := Bx.get hbx (gX, #[.int .u64 (hiM (v a)), .int .u64 (loM (v a)), .bool (mnM (v a))], 40) (by simp); have hY := Bx.get hbx (gY, #[.bool (mnM (v a)), .slice A0 (D (v a).natAbs).length c0], 46) (by simp); clear hp hb; have HV7 := Aside0.mk hbx; clear hbx; have e0 : w33.cell? ⟨gX, 0, none⟩ = some (.int .u64 (hiM (v a))) := (blk_cell hX 0).trans rfl; have e1 : w33.cell? ⟨gX, 1, none⟩ = some (.int .u64 (loM (v a))) := (blk_cell hX 1).trans rfl; have e2 : w33.cell? ⟨gX, 2, none⟩ = some (.bool (mnM (v a))) := (blk_cell hX 2).trans rfl; have e3 : w33.cell? ⟨gY, 0, none⟩ = some (.bool (mnM (v a))) := (blk_cell hY 0).trans rfl; have e4 : w33.cell? ⟨gY, 1, none⟩ = some (.slice A0 (D (v a).natAbs).length c0) := (blk_cell hY 1).trans rfl; have f0 := blk_frozen hX 0; have f1 := blk_frozen hX 1; have f2 := blk_frozen hX 2; have f3 := blk_frozen hY 0; have f4 := blk_frozen hY 1; clear hX hY)
          | (go_at_call 68; (with_reducible refine (C2.out _).mono ?_); rintro e w63 ⟨rfl, hb⟩; (first | (with_reducible have hp : Below W3.heap.size W3 w63 := below_then H3W.out H3W.out.size hb) | (with_reducible have hp : Below W3.heap.size W3 w63 := below_then (Below.refl _ W3).drew (Nat.le_refl _) hb)); have H3W := Aside0.mk hp; have hbx := Bx.below HB3.out hp; have hX := Bx.get hbx (gX, #[.int .u64 (hiM (v a)), .int .u64 (loM (v a)), .bool (mnM (v a))], 40) (by simp); have hY := Bx.get hbx (gY, #[.bool (mnM (v a)), .slice A0 (D (v a).natAbs).length c0], 46) (by simp); clear hp hb; have HV7 := Aside0.mk hbx; clear hbx; have e0 : w63.cell? ⟨gX, 0, none⟩ = some (.int .u64 (hiM (v a))) := (blk_cell hX 0).trans rfl; have e1 : w63.cell? ⟨gX, 1, none⟩ = some (.int .u64 (loM (v a))) := (blk_cell hX 1).trans rfl; have e2 : w63.cell? ⟨gX, 2, none⟩ = some (.bool (mnM (v a))) := (blk_cell hX 2).trans rfl; have e3 : w63.cell? ⟨gY, 0, none⟩ = some (.bool (mnM (v a))) := (blk_cell hY 0).trans rfl; have e4 : w63.cell? ⟨gY, 1, none⟩ = some (.slice A0 (D (v a).natAbs).length c0) := (blk_cell hY 1).trans rfl; have f0 := blk_frozen hX 0; have f1 := blk_frozen hX 1; have f2 := blk_frozen hX 2; have f3 := blk_frozen hY 0; have f4 := blk_frozen hY 1; clear hX hY))
        all_goals (rw [← HYN.out])
        all_goals (go_wp2_with (fail); go_meet)
        all_goals first
          | exact RelS.xy ⟨_, _, _, _, _, HV7.out⟩ hsm.out (HRY.out _ H3W.out)
          | exact RelS.yx ⟨_, _, _, _, _, HV7.out⟩ hsm.out (HRY.out _ H3W.out)
      by_cases k7 : kd = 7
      · have t7 : (kd == 7) = true := beq_iff_eq.mpr k7
        have t0 : (kd == 0) = false := beq_eq_false_iff_ne.mpr (by omega)
        have t1 : (kd == 1) = false := beq_eq_false_iff_ne.mpr (by omega)
        have t2 : (kd == 2) = false := beq_eq_false_iff_ne.mpr (by omega)
        have t3 : (kd == 3) = false := beq_eq_false_iff_ne.mpr (by omega)
        have t4 : (kd == 4) = false := beq_eq_false_iff_ne.mpr (by omega)
        have t5 : (kd == 5) = false := beq_eq_false_iff_ne.mpr (by omega)
        have t6 : (kd == 6) = false := beq_eq_false_iff_ne.mpr (by omega)
        clear k0 k1 k2 k3 k4 k5 k6 k7
        obtain ⟨y, hy⟩ : ∃ y : Int, y = porR (v a) px py rd := ⟨_, rfl⟩
        obtain ⟨ke, hke⟩ : ∃ k : Int, k = porE (v a) px py rd := ⟨_, rfl⟩
        have hsm : Aside0 (Small y) := ⟨by rw [hy]; exact small_porR _ _ _ _⟩
        have C1 : Aside0 (∀ W, Calls Try.prog 69 #[.agg #[.int .u64 (hiM (v a)), .int .u64 (loM (v a)), .bool (mnM (v a))], .int .u32 px, .int .u32 py, .int .i64 rd] W fun e w' => e = .returned (.tuple #[.agg #[.int .u64 (hiM y), .int .u64 (loM y), .bool (mnM y)], .int .i64 ke]) ∧ Below W.heap.size W w') := ⟨fun W => by rw [hy, hke]; exact por_calls (v a) (HV.out a) px py rd HI.out.2.2.2.1.1 HI.out.2.2.2.1.2 HI.out.2.2.2.2.1.1 HI.out.2.2.2.2.1.2 W⟩
        have C2 : Aside0 (∀ W, Rm W (.agg #[.bool (mnM (v a)), .slice A0 (D (v a).natAbs).length c0]) (v a) → Calls Try.prog 70 #[.agg #[.bool (mnM (v a)), .slice A0 (D (v a).natAbs).length c0], .int .u32 px, .int .u32 py, .int .i64 rd] W (RmE W y ke)) := ⟨fun W r0 => by rw [hy, hke]; exact rpor_any (v a) (HV.out a) px py rd HI.out.2.2.2.1.1 HI.out.2.2.2.1.2 HI.out.2.2.2.2.1.1 HI.out.2.2.2.2.1.2 _ W r0⟩
        clear hy hke
        have qO8 : W3.cell? ⟨gO, 8, none⟩ = some (.int .u32 px) := (blk_cell (Bx.get HB3.out (gO, #[.int .i64 kd, .int .i64 i1, .int .i64 i2, .int .i64 i3, .int .i64 cn, .int .u64 x0, .int .u64 x1, .string S, .int .u32 px, .int .u32 py, .int .i64 rd], 69) (by simp)) 8).trans rfl
        have qO9 : W3.cell? ⟨gO, 9, none⟩ = some (.int .u32 py) := (blk_cell (Bx.get HB3.out (gO, #[.int .i64 kd, .int .i64 i1, .int .i64 i2, .int .i64 i3, .int .i64 cn, .int .u64 x0, .int .u64 x1, .string S, .int .u32 px, .int .u32 py, .int .i64 rd], 69) (by simp)) 9).trans rfl
        have qO10 : W3.cell? ⟨gO, 10, none⟩ = some (.int .i64 rd) := (blk_cell (Bx.get HB3.out (gO, #[.int .i64 kd, .int .i64 i1, .int .i64 i2, .int .i64 i3, .int .i64 cn, .int .u64 x0, .int .u64 x1, .string S, .int .u32 px, .int .u32 py, .int .i64 rd], 69) (by simp)) 10).trans rfl
        have qX0 : W3.cell? ⟨gX, 0, none⟩ = some (.int .u64 (hiM (v a))) := (blk_cell (Bx.get HB3.out (gX, #[.int .u64 (hiM (v a)), .int .u64 (loM (v a)), .bool (mnM (v a))], 40) (by simp)) 0).trans rfl
        have qX1 : W3.cell? ⟨gX, 1, none⟩ = some (.int .u64 (loM (v a))) := (blk_cell (Bx.get HB3.out (gX, #[.int .u64 (hiM (v a)), .int .u64 (loM (v a)), .bool (mnM (v a))], 40) (by simp)) 1).trans rfl
        have qX2 : W3.cell? ⟨gX, 2, none⟩ = some (.bool (mnM (v a))) := (blk_cell (Bx.get HB3.out (gX, #[.int .u64 (hiM (v a)), .int .u64 (loM (v a)), .bool (mnM (v a))], 40) (by simp)) 2).trans rfl
        go_upto_region 25 with (first
          | ((with_reducible refine gate_callee (f := 69) rfl ?_); (try (refine gate_guard (by rfl) ?_; dsimp only)); refine goesL_ (some 149) rfl rfl Try.func69 (by kernel_rfl) rfl #[.agg #[.int .u64 (hiM (v a)), .int .u64 (loM (v a)), .bool (mnM (v a))], .int .u32 px, .int .u32 py, .int .i64 rd] rfl (by (try simp only [List.map_toArray, List.map_cons, List.map_nil]); first | done | rfl) ?_; (with_reducible refine (C1.out _).mono ?_); rintro e w5 ⟨rfl, hb⟩; refine ⟨_, rfl, ?_⟩; have HV5 := Aside0.mk (Bx.below HB3.out hb); clear hb; have hX := Bx.get HV5.out (gX, #[.int .u64 (hiM (v a)), .int .u64 (loM (v a)), .bool (mnM (v a))], 40) (by simp); have e0 : w5.cell? ⟨gX, 0, none⟩ = some (.int .u64 (hiM (v a))) := (blk_cell hX 0).trans rfl; have e1 : w5.cell? ⟨gX, 1, none⟩ = some (.int .u64 (loM (v a))) := (blk_cell hX 1).trans rfl; have e2 : w5.cell? ⟨gX, 2, none⟩ = some (.bool (mnM (v a))) := (blk_cell hX 2).trans rfl; have f0 := blk_frozen hX 0; have f1 := blk_frozen hX 1; have f2 := blk_frozen hX 2; clear hX))
        obtain ⟨W6, hW⟩ : ∃ W, W = (((w5.setCell ⟨gX, 0, none⟩ (.int .u64 (hiM y))).setCell ⟨gX, 1, none⟩ (.int .u64 (loM y))).setCell ⟨gX, 2, none⟩ (.bool (mnM y))) := ⟨_, rfl⟩
        have HB6 : Aside0 (Bx w W6 [(gX, #[.int .u64 (hiM y), .int .u64 (loM y), .bool (mnM y)], 40), (gY, #[.bool (mnM (v a)), .slice A0 (D (v a).natAbs).length c0], 46), (gO, #[.int .i64 kd, .int .i64 i1, .int .i64 i2, .int .i64 i3, .int .i64 cn, .int .u64 x0, .int .u64 x1, .string S, .int .u32 px, .int .u32 py, .int .i64 rd], 69)]) := ⟨by rw [hW]; exact SB.setX HV5.out _ _ _⟩
        rw [← hW]
        clear hW HV5 e0 e1 e2 f0 f1 f2 qO8 qO9 qO10 qX0 qX1 qX2
        have qO8 : W6.cell? ⟨gO, 8, none⟩ = some (.int .u32 px) := (blk_cell (Bx.get HB6.out (gO, #[.int .i64 kd, .int .i64 i1, .int .i64 i2, .int .i64 i3, .int .i64 cn, .int .u64 x0, .int .u64 x1, .string S, .int .u32 px, .int .u32 py, .int .i64 rd], 69) (by simp)) 8).trans rfl
        have qO9 : W6.cell? ⟨gO, 9, none⟩ = some (.int .u32 py) := (blk_cell (Bx.get HB6.out (gO, #[.int .i64 kd, .int .i64 i1, .int .i64 i2, .int .i64 i3, .int .i64 cn, .int .u64 x0, .int .u64 x1, .string S, .int .u32 px, .int .u32 py, .int .i64 rd], 69) (by simp)) 9).trans rfl
        have qO10 : W6.cell? ⟨gO, 10, none⟩ = some (.int .i64 rd) := (blk_cell (Bx.get HB6.out (gO, #[.int .i64 kd, .int .i64 i1, .int .i64 i2, .int .i64 i3, .int .i64 cn, .int .u64 x0, .int .u64 x1, .string S, .int .u32 px, .int .u32 py, .int .i64 rd], 69) (by simp)) 10).trans rfl
        have qY0 : W6.cell? ⟨gY, 0, none⟩ = some (.bool (mnM (v a))) := (blk_cell (Bx.get HB6.out (gY, #[.bool (mnM (v a)), .slice A0 (D (v a).natAbs).length c0], 46) (by simp)) 0).trans rfl
        have qY1 : W6.cell? ⟨gY, 1, none⟩ = some (.slice A0 (D (v a).natAbs).length c0) := (blk_cell (Bx.get HB6.out (gY, #[.bool (mnM (v a)), .slice A0 (D (v a).natAbs).length c0], 46) (by simp)) 1).trans rfl
        have HRA6 : Aside0 (Rm W6 (.agg #[.bool (mnM (v a)), .slice A0 (D (v a).natAbs).length c0]) (v a)) := ⟨HRA.out.below HB6.out.bel⟩
        have HRB6 : Aside0 (Rm W6 (.agg #[.bool (mnM (v b)), .slice B0 (D (v b).natAbs).length d0]) (v b)) := ⟨HRB.out.below HB6.out.bel⟩
        go_wp2_with (first
          | ((with_reducible refine gate_callee (f := 70) rfl ?_); (try (refine gate_guard (by rfl) ?_; dsimp only)); refine goesL_ (some 160) rfl rfl Try.func70 (by kernel_rfl) rfl #[.agg #[.bool (mnM (v a)), .slice A0 (D (v a).natAbs).length c0], .int .u32 px, .int .u32 py, .int .i64 rd] rfl (by (try simp only [List.map_toArray, List.map_cons, List.map_nil]); first | done | rfl) ?_; (with_reducible refine (C2.out _ HRA6.out).mono ?_); rintro e w63 ⟨X, rfl, hr, hb⟩; refine ⟨_, rfl, ?_⟩; obtain ⟨u, rfl, hr⟩ := hr; obtain ⟨A5, c5, e5⟩ := Kd.R_slice hr; subst e5; have HR5 : Aside0 (Rm w63 (.agg #[.bool (mnM y), .slice A5 (D y.natAbs).length c5]) y) := ⟨⟨_, rfl, hr⟩⟩; clear hr; have HV7 := Aside0.mk (Bx.below HB6.out hb); clear hb; have hY := Bx.get HV7.out (gY, #[.bool (mnM (v a)), .slice A0 (D (v a).natAbs).length c0], 46) (by simp); have e3 : w63.cell? ⟨gY, 0, none⟩ = some (.bool (mnM (v a))) := (blk_cell hY 0).trans rfl; have e4 : w63.cell? ⟨gY, 1, none⟩ = some (.slice A0 (D (v a).natAbs).length c0) := (blk_cell hY 1).trans rfl; have f3 := blk_frozen hY 0; have f4 := blk_frozen hY 1; clear hY))
        go_meet
        all_goals exact ⟨_, _, _, _, rfl, rfl, hsm.out, SB.setY HV7.out _ _, Rm.setY ⟨_, _, _, _, _, HV7.out⟩ HR5.out _ _⟩
      have t0 : (kd == 0) = false := beq_eq_false_iff_ne.mpr (by omega)
      have t1 : (kd == 1) = false := beq_eq_false_iff_ne.mpr (by omega)
      have t2 : (kd == 2) = false := beq_eq_false_iff_ne.mpr (by omega)
      have t3 : (kd == 3) = false := beq_eq_false_iff_ne.mpr (by omega)
      have t4 : (kd == 4) = false := beq_eq_false_iff_ne.mpr (by omega)
      have t5 : (kd == 5) = false := beq_eq_false_iff_ne.mpr (by omega)
      have t6 : (kd == 6) = false := beq_eq_false_iff_ne.mpr (by omega)
      have t7 : (kd == 7) = false := beq_eq_false_iff_ne.mpr (by omega)
      clear k0 k1 k2 k3 k4 k5 k6 k7
      go_wp2_with (fail)
      go_meet
      exact ⟨v a, 0, A0, c0, rfl, rfl, HV.out a, HB3.out, HRA3.out⟩
    case rest =>
      obtain ⟨y, k, A, c, rfl, rfl, hs, hbx, hrm⟩ := hcut
      obtain ⟨W4, hW⟩ : ∃ W, W = wc := ⟨_, rfl⟩
      have HB4 : Aside0 (Bx w W4 [(gX, #[.int .u64 (hiM y), .int .u64 (loM y), .bool (mnM y)], 40), (gY, #[.bool (mnM y), .slice A (D y.natAbs).length c], 46), (gO, #[.int .i64 kd, .int .i64 i1, .int .i64 i2, .int .i64 i3, .int .i64 cn, .int .u64 x0, .int .u64 x1, .string S, .int .u32 px, .int .u32 py, .int .i64 rd], 69)]) := ⟨by rw [hW]; exact hbx⟩
      have HRY : Aside0 (Rm W4 (.agg #[.bool (mnM y), .slice A (D y.natAbs).length c]) y) := ⟨by rw [hW]; exact hrm⟩
      have HSM := Aside0.mk hs
      rw [← hW]
      clear hW hbx hrm hs
      have htI : (t : Int) < 4 := by have := HT.out.1; omega
      have ht0 : (0 : Int) ≤ (t : Int) := by omega
      have HM4 : Aside0 (MW W4 g v) := ⟨HMA.out.below HB4.out.bel⟩
      obtain ⟨q0, q1, q2, E0, F0, q3, q4, _⟩ := HM4.out.cells t HT.out.1
      have f0 : W4.frozen? ⟨g, t * 3, none⟩ = false := HM4.out.frozen _
      have f1 : W4.frozen? ⟨g, t * 3 + 1, none⟩ = false := HM4.out.frozen _
      have f2 : W4.frozen? ⟨g, t * 3 + 2, none⟩ = false := HM4.out.frozen _
      have f3 : W4.frozen? ⟨g, 12 + t * 2, none⟩ = false := HM4.out.frozen _
      have f4 : W4.frozen? ⟨g, 12 + t * 2 + 1, none⟩ = false := HM4.out.frozen _
      have qX0 : W4.cell? ⟨gX, 0, none⟩ = some (.int .u64 (hiM y)) := (blk_cell (Bx.get HB4.out (gX, #[.int .u64 (hiM y), .int .u64 (loM y), .bool (mnM y)], 40) (by simp)) 0).trans rfl
      have qX1 : W4.cell? ⟨gX, 1, none⟩ = some (.int .u64 (loM y)) := (blk_cell (Bx.get HB4.out (gX, #[.int .u64 (hiM y), .int .u64 (loM y), .bool (mnM y)], 40) (by simp)) 1).trans rfl
      have qX2 : W4.cell? ⟨gX, 2, none⟩ = some (.bool (mnM y)) := (blk_cell (Bx.get HB4.out (gX, #[.int .u64 (hiM y), .int .u64 (loM y), .bool (mnM y)], 40) (by simp)) 2).trans rfl
      have qY0 : W4.cell? ⟨gY, 0, none⟩ = some (.bool (mnM y)) := (blk_cell (Bx.get HB4.out (gY, #[.bool (mnM y), .slice A (D y.natAbs).length c], 46) (by simp)) 0).trans rfl
      have qY1 : W4.cell? ⟨gY, 1, none⟩ = some (.slice A (D y.natAbs).length c) := (blk_cell (Bx.get HB4.out (gY, #[.bool (mnM y), .slice A (D y.natAbs).length c], 46) (by simp)) 1).trans rfl
      have m1 : g ≠ gX := by have := Bx.old HB4.out (gX, #[.int .u64 (hiM y), .int .u64 (loM y), .bool (mnM y)], 40) (by simp); show g ≠ gX; omega
      have m2 : g ≠ gY := by have := Bx.old HB4.out (gY, #[.bool (mnM y), .slice A (D y.natAbs).length c], 46) (by simp); show g ≠ gY; omega
      have m1' : gX ≠ g := fun e => m1 e.symm
      have m2' : gY ≠ g := fun e => m2 e.symm
      have kk : (k == k) = true := beq_self_eq_true k
      have hz0 : t * 3 ≠ 12 + t * 2 := by have := HT.out.1; omega
      have hz1 : t * 3 ≠ 12 + t * 2 + 1 := by have := HT.out.1; omega
      have hz2 : t * 3 + 1 ≠ 12 + t * 2 := by have := HT.out.1; omega
      have hz3 : t * 3 + 1 ≠ 12 + t * 2 + 1 := by have := HT.out.1; omega
      have hz4 : t * 3 + 2 ≠ 12 + t * 2 := by have := HT.out.1; omega
      have hz5 : t * 3 + 2 ≠ 12 + t * 2 + 1 := by have := HT.out.1; omega
      have hk4 : Kept w W4 (fun k => k = g) := Kept.of_below HB4.out.bel _
      have HK4 := Aside0.mk hk4
      have HBG : Aside0 (Below g w W4) := ⟨HB4.out.bel.mono (Nat.le_of_lt hgw)⟩
      clear hk4
      go_upto_region 26 with (fail)
      go_region
      all_goals (go_wp2_with (fail); go_ret)
      all_goals refine ⟨rfl, ⟨y, HSM.out, ?_⟩, ?_, ?_⟩
      all_goals first
        | exact MW.put1 (w := W4.drew) (HM4.out.below ((Below.refl _ _).drew)) HT.out.1 y A c (HRY.out.drewN 1)
        | exact MW.put2 (w := W4.drew) (HM4.out.below ((Below.refl _ _).drew)) HT.out.1 y A c (HRY.out.drewN 1)
        | exact kept5 HK4.out.drew rfl _ _ _ _ _ _ _ _ _ _
        | exact below5 HBG.out.drew _ _ _ _ _ _ _ _ _ _
end Go.Proofs.Ythmjmkbahneneaa.PMon
end
