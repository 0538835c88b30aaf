/- The steps that a law takes, opened to cells. -/
import Derived.Test.YtmcaoecmjibegaaIxN
import Derived.Deep.Slices
import Derived.Deep.Fields
import Derived.ChangeSame
import Derived.WideShapes
namespace Go.Proofs.Ytmcaoecmjibegaa.PIx
open Go.RowKit Go.ChangeShapes Go.WideShapes Go.Deep
set_option linter.unusedVariables false

theorem take_one {cs : List Value} {j : Nat} (h : j < cs.length) : (cs.drop j).take 1 = [cs[j]] := by
  rw [List.drop_eq_getElem_cons h]
  rfl

theorem open_step {H : Type} {enc : TypeId × Value → H} {w : World} {base : Nat} {spare : Nat → Bool} {held : Bool} {fuel : Nat} {cs : List Value} {x : DataW H × List MemPlace} (h : DataW.trod enc Try.prog w base spare held fuel 48 cs = some x) :
    ∃ (d : Bool) (k v : Int), cs = [.bool d, .int .u64 k, .int .i64 v] := by
  obtain ⟨xs, n, _, _, hl, hxl, hf⟩ := DataW.trod_struct Try.underlying48 h
  have hc : Try.prog.cellsOf 48 = 3 := by kernel_rfl
  rw [hc] at hl
  have c4 : Try.prog.cellsOf 4 = 1 := by kernel_rfl
  have c22 : Try.prog.cellsOf 22 = 1 := by kernel_rfl
  have c3 : Try.prog.cellsOf 3 = 1 := by kernel_rfl
  have f0 : DataW.trod enc Try.prog w base spare held n 4 ((cs.drop 0).take (Try.prog.cellsOf 4)) = xs[0]? := hf 0 _ rfl
  have f1 : DataW.trod enc Try.prog w base spare held n 22 ((cs.drop 1).take (Try.prog.cellsOf 22)) = xs[1]? := hf 1 _ rfl
  have f2 : DataW.trod enc Try.prog w base spare held n 3 ((cs.drop 2).take (Try.prog.cellsOf 3)) = xs[2]? := hf 2 _ rfl
  rw [c4] at f0
  rw [c22] at f1
  rw [c3] at f2
  rw [take_one (by omega)] at f0 f1 f2
  have hs : xs.length = 3 := by rw [hxl]; rfl
  rw [List.getElem?_eq_getElem (by omega)] at f0 f1 f2
  obtain ⟨d, e0, _⟩ := DataW.trod_bool Try.underlying4 f0
  obtain ⟨k, e1, _⟩ := DataW.trod_int Try.underlying22 f1
  obtain ⟨v, e2, _⟩ := DataW.trod_int Try.underlying3 f2
  match cs, hl with
  | [a, b, c], _ =>
    simp only [List.cons.injEq, and_true] at e0 e1 e2
    exact ⟨d, k, v, by rw [← e0, ← e1, ← e2]; rfl⟩

theorem open_steps {H : Type} {enc : TypeId × Value → H} {w : World} {base : Nat} {spare : Nat → Bool} {held : Bool} {fuel : Nat} {A : Option Addr} {len cap : Nat} {x : DataW H × List MemPlace} (h : DataW.trod enc Try.prog w base spare held fuel 38 [.slice A len cap] = some x) :
    len ≤ 9223372036854775807 ∧ ∃ f, Stp w A len f := by
  rcases open_slice Try.underlying38 h with ⟨h0, _⟩ | ⟨a, l, c, m, n, D, Pl, hcs, hb, hl, hm, hmm, _, hi⟩
  · simp only [List.cons.injEq, Value.slice.injEq, and_true] at h0
    obtain ⟨_, rfl, _⟩ := h0
    exact ⟨by omega, fun _ => (false, 0, 0), fun i hi => absurd hi (Nat.not_lt_zero i)⟩
  · simp only [List.cons.injEq, Value.slice.injEq, and_true] at hcs
    obtain ⟨rfl, rfl, rfl⟩ := hcs
    have hc : Try.prog.cellsOf 48 = 3 := by kernel_rfl
    have hlm : len ≤ m := by rw [hmm]; split <;> omega
    have hM : maxLen = 9223372036854775807 := by decide
    have hcell : ∀ i, i < len → ∃ (d : Bool) (k v : Int), w.cell? (a.add (i * 3)) = some (.bool d) ∧ w.cell? ((a.add (i * 3)).add 1) = some (.int .u64 k) ∧ w.cell? ((a.add (i * 3)).add 2) = some (.int .i64 v) := by
      intro i hi'
      obtain ⟨cs', h1, h2⟩ := hi i (by omega)
      rw [hc] at h1
      obtain ⟨_, hcl, hat⟩ := World.cells?_some h1
      obtain ⟨d, k, v, rfl⟩ := open_step h2
      have z0 := hat 0 (by omega)
      have z1 := hat 1 (by omega)
      have z2 := hat 2 (by omega)
      have z0' : w.cell? ((a.add (i * 3)).add 0) = some (.bool d) := z0
      refine ⟨d, k, v, ?_, z1, z2⟩
      have : (a.add (i * 3)).add 0 = a.add (i * 3) := Addr.add_zero' _
      rw [← this]
      exact z0'
    have hspot : 0 < len → a.spot = none := by
      intro h0
      obtain ⟨d, k, v, z0, _⟩ := hcell 0 h0
      have h1 : a.add (0 * 3) = a := by rw [Nat.zero_mul]; exact Addr.add_zero' _
      rw [h1] at z0
      exact World.cell?_spot z0
    have h2 : ∀ i, ∃ y : Bool × Int × Int, i < len → w.cell? (a.add (i * 3)) = some (.bool y.1) ∧ w.cell? ((a.add (i * 3)).add 1) = some (.int .u64 y.2.1) ∧ w.cell? ((a.add (i * 3)).add 2) = some (.int .i64 y.2.2) := by
      intro i
      by_cases hil : i < len
      · obtain ⟨d, k, v, hh⟩ := hcell i hil
        exact ⟨(d, k, v), fun _ => hh⟩
      · exact ⟨(false, 0, 0), fun h => absurd h hil⟩
    obtain ⟨f, hf⟩ := Classical.axiomOfChoice h2
    refine ⟨by omega, f, fun i hi' => ?_⟩
    obtain ⟨q0, q1, q2⟩ := hf i hi'
    have hs := hspot (by omega)
    obtain ⟨ab, ao, sp⟩ := a
    dsimp only at hs
    subst hs
    simp only [Addr.add_lit] at q0 q1 q2
    exact ⟨ab, ao, rfl, q0, q1, q2⟩
end Go.Proofs.Ytmcaoecmjibegaa.PIx
