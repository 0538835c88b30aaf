/- The funds that the law takes, opened. -/
import Derived.Test.YtopekdmipnpnaaaBearP
import Derived.Deep.Slices
import Derived.Deep.Fields
import Derived.ChangeSame
import Derived.WideShapes
namespace Go.Proofs.Ytopekdmipnpnaaa.BearP
open Go.RowKit Go.ChangeShapes Go.WideShapes Go.Deep Go.Proofs.Ytopekdmipnpnaaa.PBea Go.Proofs.Ytopekdmipnpnaaa.NumA Go.Proofs.Ytopekdmipnpnaaa.NumSh
open Go.Proofs.YtopekdmipnpnaaaW.PrintWords (Kd ReadsRow)
set_option linter.unusedVariables false

theorem take_one {cs : List Value} {j : Nat} (h : j < cs.length) : (cs.drop j).take 1 = [cs[j]] := by
  rw [List.drop_eq_getElem_cons h]
  rfl

set_option maxRecDepth 100000 in
theorem open_fund {H : Type} {enc : TypeId × Value → H} {w : World} {base : Nat} {spare : Nat → Bool} {held : Bool} {fuel : Nat} {cs : List Value} {x : DataW H × List MemPlace} (h : DataW.trod enc Try.prog w base spare held fuel 45 cs = some x) :
    ∃ (k v : Int), cs = [.int .u32 k, .int .u64 v] ∧ 0 ≤ v ∧ v < 18446744073709551616 := by
  obtain ⟨xs, n, _, _, hl, hxl, hf⟩ := DataW.trod_struct Try.underlying45 h
  have hc : Try.prog.cellsOf 45 = 2 := by kernel_rfl
  rw [hc] at hl
  have c0 : Try.prog.cellsOf 28 = 1 := by kernel_rfl
  have c1 : Try.prog.cellsOf 29 = 1 := by kernel_rfl
  have f0 : DataW.trod enc Try.prog w base spare held n 28 ((cs.drop 0).take (Try.prog.cellsOf 28)) = xs[0]? := hf 0 _ rfl
  have f1 : DataW.trod enc Try.prog w base spare held n 29 ((cs.drop 1).take (Try.prog.cellsOf 29)) = xs[1]? := hf 1 _ rfl
  rw [c0] at f0
  rw [c1] at f1
  rw [take_one (by omega)] at f0 f1
  have hs : xs.length = 2 := by rw [hxl]; rfl
  rw [List.getElem?_eq_getElem (by omega)] at f0 f1
  obtain ⟨k, e0, _⟩ := DataW.trod_int Try.underlying28 f0
  obtain ⟨v, e1, _, hw⟩ := DataW.trod_int Try.underlying29 f1
  obtain ⟨h1, h2⟩ := NumA.of_wf hw
  match cs, hl with
  | [a, b], _ =>
    simp only [List.cons.injEq, and_true] at e0 e1
    exact ⟨k, v, by rw [← e0, ← e1]; rfl, h1, h2⟩

set_option maxRecDepth 100000 in
theorem open_funds {H : Type} {enc : TypeId × Value → H} {w : World} {base : Nat} {spare : Nat → Bool} {held : Bool} {fuel : Nat} {A : Option Addr} {len cap : Nat} {x : DataW H × List MemPlace} (h : DataW.trod enc Try.prog w base spare held fuel 38 [.slice A len cap] = some x) :
    ∃ l : List S45, l.length = len ∧ len ≤ cap ∧ Kd.C k45 w A len l ∧ Us (cents l) ∧ (len = 0 ∨ ∃ (D : Nat → DataW H) (r : List (DataW H)), x.1 = .slice ((List.range len).map D) r) := by
  rcases open_slice Try.underlying38 h with ⟨h0, _⟩ | ⟨a, l, c, m, n, D, Pl, hcs, hb, hl, hm, hmm, hx, hi⟩
  · simp only [List.cons.injEq, Value.slice.injEq, and_true] at h0
    obtain ⟨_, rfl, rfl⟩ := h0
    exact ⟨[], rfl, Nat.le_refl _, ⟨rfl, by omega, fun h => absurd h (Nat.lt_irrefl 0)⟩, fun y hy => by simp [cents] at hy, .inl rfl⟩
  · simp only [List.cons.injEq, Value.slice.injEq, and_true] at hcs
    obtain ⟨rfl, rfl, rfl⟩ := hcs
    have hc : Try.prog.cellsOf 45 = 2 := by kernel_rfl
    have hlm : len ≤ m := by rw [hmm]; split <;> omega
    have hM : maxLen = 9223372036854775807 := by decide
    have h2 : ∀ i, ∃ y : S45, (i < len → w.cell? ((a.add (i * 2)).add 0) = some (.int .u32 y.f0) ∧ w.cell? ((a.add (i * 2)).add 1) = some (.int .u64 y.f1)) ∧ 0 ≤ y.f1 ∧ y.f1 < 18446744073709551616 := by
      intro i
      by_cases hil : i < len
      · obtain ⟨cs', h1, h2⟩ := hi i (by omega)
        rw [hc] at h1
        obtain ⟨_, hcl, hat⟩ := World.cells?_some h1
        obtain ⟨k, v, rfl, hv0, hv1⟩ := open_fund h2
        exact ⟨⟨k, v⟩, fun _ => ⟨hat 0 (by omega), hat 1 (by omega)⟩, hv0, hv1⟩
      · exact ⟨⟨0, 0⟩, fun h => absurd h hil, by decide, by decide⟩
    obtain ⟨f, hf⟩ := Classical.axiomOfChoice h2
    refine ⟨(List.range len).map f, by simp, hl, ⟨by simp, by omega, fun _ => ⟨a, rfl, fun j p hj => ?_⟩⟩, ?_, .inr ⟨D, _, by rw [hx]⟩⟩
    · rw [List.getElem?_map] at hj
      have hjl : j < len := by
        rcases Nat.lt_or_ge j len with h1 | h1
        · exact h1
        · rw [List.getElem?_eq_none (by simpa using h1)] at hj; cases hj
      rw [List.getElem?_eq_getElem (by simpa using hjl)] at hj
      simp at hj
      subst hj
      obtain ⟨q0, q1⟩ := (hf j).1 hjl
      refine ⟨_, rfl, k45_mk _ _, fun i u hu => ?_⟩
      match i, hu with
      | 0, hu =>
        simp at hu
        subst hu
        rw [← add_add]
        exact q0
      | 1, hu =>
        simp at hu
        subst hu
        rw [← add_add]
        exact q1
    · intro y hy
      unfold cents at hy
      rw [List.map_map] at hy
      obtain ⟨i, _, rfl⟩ := List.mem_map.mp hy
      exact (hf i).2
end Go.Proofs.Ytopekdmipnpnaaa.BearP
