/- MonOp, struck of what this claim does not name (wip/tools/pack2.py). -/
import Derived.Test.YthmjmkbahneneaaZa52
import Derived.Deep.Slices
import Derived.Deep.Fields
import Derived.ChangeSame
import Derived.WideShapes
import Derived.OpenShut
section
namespace Go.Proofs.Ythmjmkbahneneaa.PMon
open Go.RowKit Go.ChangeShapes Go.WideShapes Go.Deep
set_option linter.unusedVariables false
theorem of_u64 {a : Int} (h : (Lit.int .u64 a).wf = true) : 0 ≤ a ∧ a < 18446744073709551616 := by
  simp [Lit.wf, IntKind.min, IntKind.max, IntKind.signed, IntKind.bits] at h
  omega
theorem of_u32 {a : Int} (h : (Lit.int .u32 a).wf = true) : 0 ≤ a ∧ a < 4294967296 := by
  simp [Lit.wf, IntKind.min, IntKind.max, IntKind.signed, IntKind.bits] at h
  omega
theorem of_i64 {a : Int} (h : (Lit.int .i64 a).wf = true) : -9223372036854775808 ≤ a ∧ a ≤ 9223372036854775807 := by
  simp [Lit.wf, IntKind.min, IntKind.max, IntKind.signed, IntKind.bits] at h
  omega
set_option maxRecDepth 100000 in
theorem open_words2 {H : Type} {enc : TypeId × Value → H} {W : World} {base : Nat} {sp : Nat → Bool} {held : Bool} {fuel : Nat} {cs : List Value} {d : DataW H × List MemPlace} (h : DataW.trod enc Try.prog W base sp held fuel 38 cs = some d) (hl : cs.length = 2) :
    ∃ a b, cs = [.int .u64 a, .int .u64 b] ∧ (0 ≤ a ∧ a < 18446744073709551616) ∧ (0 ≤ b ∧ b < 18446744073709551616) := by
  obtain ⟨xs, m, _, _, _, hn, hx⟩ := DataW.trod_array Try.underlying38 h
  have c22 : Try.prog.cellsOf 22 = 1 := by kernel_rfl
  match cs, hl with
  | [c0, c1], _ =>
  match xs, hn with
  | [x0, x1], _ =>
    have h0 := hx 0 (by omega)
    have h1 := hx 1 (by omega)
    have k0 : DataW.trod enc Try.prog W base sp held m 22 [c0] = some x0 := by simpa [Value.cells, c22] using h0
    have k1 : DataW.trod enc Try.prog W base sp held m 22 [c1] = some x1 := by simpa [Value.cells, c22] using h1
    obtain ⟨a, e0, _, wa⟩ := DataW.trod_int Try.underlying22 k0
    obtain ⟨b, e1, _, wb⟩ := DataW.trod_int Try.underlying22 k1
    simp at e0 e1
    subst e0 e1
    exact ⟨a, b, rfl, of_u64 wa, of_u64 wb⟩
set_option maxRecDepth 100000 in
set_option maxHeartbeats 1000000 in
theorem open_op {H : Type} {enc : TypeId × Value → H} {w : World} {base : Nat} {spare : Nat → Bool} {held : Bool} {fuel : Nat} {cs : List Value} {x : DataW H × List MemPlace} (h : DataW.trod enc Try.prog w base spare held fuel 69 cs = some x) :
    ∃ (kd i1 i2 i3 cn x0 x1 px py rd : Int) (S : ByteArray), cs = [.int .i64 kd, .int .i64 i1, .int .i64 i2, .int .i64 i3, .int .i64 cn, .int .u64 x0, .int .u64 x1, .string S, .int .u32 px, .int .u32 py, .int .i64 rd] ∧
      (-9223372036854775808 ≤ cn ∧ cn ≤ 9223372036854775807) ∧ (0 ≤ x0 ∧ x0 < 18446744073709551616) ∧ (0 ≤ x1 ∧ x1 < 18446744073709551616) ∧ (0 ≤ px ∧ px < 4294967296) ∧ (0 ≤ py ∧ py < 4294967296) ∧ S.data.toList.length ≤ 9223372036854775807 := by
  obtain ⟨xs, n, _, _, hl, hxl, hf⟩ := DataW.trod_struct Try.underlying69 h
  have hc : Try.prog.cellsOf 69 = 11 := by kernel_rfl
  rw [hc] at hl
  have c3 : Try.prog.cellsOf 3 = 1 := by kernel_rfl
  have c2 : Try.prog.cellsOf 2 = 1 := by kernel_rfl
  have c38 : Try.prog.cellsOf 38 = 2 := by kernel_rfl
  have c9 : Try.prog.cellsOf 9 = 1 := by kernel_rfl
  have c67 : Try.prog.cellsOf 67 = 1 := by kernel_rfl
  have f0 : DataW.trod enc Try.prog w base spare held n 3 ((cs.drop 0).take (Try.prog.cellsOf 3)) = xs[0]? := hf 0 _ rfl
  have f1 : DataW.trod enc Try.prog w base spare held n 3 ((cs.drop 1).take (Try.prog.cellsOf 3)) = xs[1]? := hf 1 _ rfl
  have f2 : DataW.trod enc Try.prog w base spare held n 3 ((cs.drop 2).take (Try.prog.cellsOf 3)) = xs[2]? := hf 2 _ rfl
  have f3 : DataW.trod enc Try.prog w base spare held n 3 ((cs.drop 3).take (Try.prog.cellsOf 3)) = xs[3]? := hf 3 _ rfl
  have f4 : DataW.trod enc Try.prog w base spare held n 2 ((cs.drop 4).take (Try.prog.cellsOf 2)) = xs[4]? := hf 4 _ rfl
  have f5 : DataW.trod enc Try.prog w base spare held n 38 ((cs.drop 5).take (Try.prog.cellsOf 38)) = xs[5]? := hf 5 _ rfl
  have f6 : DataW.trod enc Try.prog w base spare held n 9 ((cs.drop 7).take (Try.prog.cellsOf 9)) = xs[6]? := hf 6 _ rfl
  have f7 : DataW.trod enc Try.prog w base spare held n 67 ((cs.drop 8).take (Try.prog.cellsOf 67)) = xs[7]? := hf 7 _ rfl
  have f8 : DataW.trod enc Try.prog w base spare held n 67 ((cs.drop 9).take (Try.prog.cellsOf 67)) = xs[8]? := hf 8 _ rfl
  have f9 : DataW.trod enc Try.prog w base spare held n 3 ((cs.drop 10).take (Try.prog.cellsOf 3)) = xs[9]? := hf 9 _ rfl
  rw [c3] at f0 f1 f2 f3 f9
  rw [c2] at f4
  rw [c38] at f5
  rw [c9] at f6
  rw [c67] at f7 f8
  have hs : xs.length = 10 := by rw [hxl]; rfl
  rw [List.getElem?_eq_getElem (by omega)] at f0 f1 f2 f3 f4 f5 f6 f7 f8 f9
  match cs, hl with
  | [a0, a1, a2, a3, a4, a5, a6, a7, a8, a9, a10], _ =>
    simp only [List.drop_succ_cons, List.drop_zero, List.take_succ_cons, List.take_zero] at f0 f1 f2 f3 f4 f5 f6 f7 f8 f9
    obtain ⟨kd, e0, _⟩ := DataW.trod_int Try.underlying3 f0
    obtain ⟨i1, e1, _⟩ := DataW.trod_int Try.underlying3 f1
    obtain ⟨i2, e2, _⟩ := DataW.trod_int Try.underlying3 f2
    obtain ⟨i3, e3, _⟩ := DataW.trod_int Try.underlying3 f3
    obtain ⟨cn, e4, _, w4⟩ := DataW.trod_int Try.underlying2 f4
    obtain ⟨x0, x1, e5, b5, b6⟩ := open_words2 f5 rfl
    obtain ⟨S, e7, _, w7⟩ := DataW.trod_string Try.underlying9 f6
    obtain ⟨px, e8, _, w8⟩ := DataW.trod_int Try.underlying67 f7
    obtain ⟨py, e9, _, w9⟩ := DataW.trod_int Try.underlying67 f8
    obtain ⟨rd, e10, _⟩ := DataW.trod_int Try.underlying3 f9
    simp only [List.cons.injEq, and_true] at e0 e1 e2 e3 e4 e5 e7 e8 e9 e10
    obtain ⟨e5, e6⟩ := e5
    subst e0 e1 e2 e3 e4 e5 e6 e7 e8 e9 e10
    unfold maxLen at w7
    exact ⟨kd, i1, i2, i3, cn, x0, x1, px, py, rd, S, rfl, of_i64 w4, b5, b6, of_u32 w8, of_u32 w9, w7⟩
set_option maxRecDepth 100000 in
theorem open_ops {H : Type} {enc : TypeId × Value → H} {w : World} {base : Nat} {spare : Nat → Bool} {held : Bool} {fuel : Nat} {A : Option Addr} {len cap : Nat} {x : DataW H × List MemPlace} (h : DataW.trod enc Try.prog w base spare held fuel 60 [.slice A len cap] = some x) :
    len ≤ 9223372036854775807 ∧ (0 < len → ∃ ab ao, A = some ⟨ab, ao, none⟩ ∧ ∀ i, i < len → OpAt w ab ao i) := by
  rcases open_slice Try.underlying60 h with ⟨h0, _⟩ | ⟨a, l, c, m, n, D, Pl, hcs, hb, hl, hm, hmm, _, hi⟩
  · simp only [List.cons.injEq, Value.slice.injEq, and_true] at h0
    obtain ⟨_, rfl, _⟩ := h0
    exact ⟨by omega, fun h => absurd h (Nat.lt_irrefl 0)⟩
  · simp only [List.cons.injEq, Value.slice.injEq, and_true] at hcs
    obtain ⟨rfl, rfl, rfl⟩ := hcs
    have hc : Try.prog.cellsOf 69 = 11 := by kernel_rfl
    have hlm : len ≤ m := by rw [hmm]; split <;> omega
    have hM : maxLen = 9223372036854775807 := by decide
    refine ⟨by omega, fun h0 => ?_⟩
    obtain ⟨ab, ao, sp⟩ := a
    have hs : sp = none := by
      obtain ⟨cs', h1, h2⟩ := hi 0 (by omega)
      rw [hc] at h1
      obtain ⟨_, hcl, hat⟩ := World.cells?_some h1
      obtain ⟨kd, i1, i2, i3, cn, x0, x1, px, py, rd, S, rfl, _⟩ := open_op h2
      have z0 := hat 0 (by omega)
      rw [Nat.zero_mul, Addr.add_zero'] at z0
      have z1 : w.cell? ((Addr.mk ab ao sp).add 0) = some (.int .i64 kd) := z0
      rw [Addr.add_zero'] at z1
      exact World.cell?_spot z1
    subst hs
    refine ⟨ab, ao, rfl, fun i hi' => ?_⟩
    obtain ⟨cs', h1, h2⟩ := hi i (by omega)
    rw [hc] at h1
    obtain ⟨_, hcl, hat⟩ := World.cells?_some h1
    obtain ⟨kd, i1, i2, i3, cn, x0, x1, px, py, rd, S, rfl, b1, b2, b3, b4, b5, b6⟩ := open_op h2
    refine ⟨kd, i1, i2, i3, cn, x0, x1, px, py, rd, S, b1, b2, b3, b4, b5, b6, fun j v hj => ?_⟩
    have hj2 : j < 11 := (Array.getElem?_eq_some_iff.1 hj).1
    have z := hat j hj2
    simp only [Addr.add_lit] at z
    rw [z]
    have e := (Array.getElem?_eq_some_iff.1 hj).2
    rw [← e]
    simp
end Go.Proofs.Ythmjmkbahneneaa.PMon
end
